/-
  What the claim's law rests on, part 6 of 7: printed walks, externals, plain lemmas; conditions: none of its own.
-/
import Derived.Handed
import Derived.HandedShaped
import Derived.Lib.LaidU8T
import Derived.Lib.TrimUEq
import Derived.Lib.ValidLaws
import Derived.Test.YtadfkeipcebmfaaDoorCm5
namespace Go.Proofs.YtadfkeipcebmfaaDoor.X
open Go.RowKit Go.Proofs.YtadfkeipcebmfaaDoorW.PrintWords Go.Proofs.YtadfkeipcebmfaaDoorW.PrintLast Go.Proofs.YtadfkeipcebmfaaDoorW.PrintMore
attribute [local go_sem] max2_int min2_int max_two min_two max_three min_three max_four min_four
set_option linter.unusedVariables false
set_option linter.unusedSimpArgs false
mutual
def racewayref25_Made.j0 : Nat → Int → List ByteArray → List (List (S46)) → Bool → Option ((List (S46)))
 | 0,_,_,_,_ => none
 | k + 1,x0,x1,x2,x18 => if x18 = true then (some ([] : List (S46))) else (racewayref25_Made.l0 k x0 x1 x2 (([(⟨x0,0,(x2.length : Int),(⟨#[]⟩ : ByteArray),(⟨#[]⟩ : ByteArray)⟩ : S46)] : List (S46))) 0)
def racewayref25_Made.l0 : Nat → Int → List ByteArray → List (List (S46)) → List (S46) → Int → Option ((List (S46)))
 | 0,_,_,_,_,_ => none
 | k + 1,x0,x1,x2,x7,x8 => if x8 < (x2.length : Int) then (if 0 ≤ x8 then ((racewayref25_Check.f k (rd_L3 x2 x8)).bind fun t312 => (if t312 = 0 then (if x0 = 7 then (if x8 < (x1.length : Int) then ((racewayref25_Valid.f k (rdOf ByteArray.empty x1 x8)).bind fun t314 => (racewayref25_Made.j2 k x0 x1 x2 x7 x8 (!t314))) else (none)) else (racewayref25_Made.j2 k x0 x1 x2 x7 x8 false)) else (racewayref25_Made.j2 k x0 x1 x2 x7 x8 true))) else (none)) else (if 0 < (x7.length : Int) then (some (x7.set (0 : Int).toNat (⟨(rd_T46 x7 0).f0,(x7.length : Int),(rd_T46 x7 0).f2,(rd_T46 x7 0).f3,(rd_T46 x7 0).f4⟩ : S46))) else (none))
def racewayref25_Made.j2 : Nat → Int → List ByteArray → List (List (S46)) → List (S46) → Int → Bool → Option ((List (S46)))
 | 0,_,_,_,_,_,_ => none
 | k + 1,x0,x1,x2,x7,x8,x47 => if x47 = true then (some ([] : List (S46))) else (if 0 ≤ x8 then (if x8 < (x2.length : Int) then (if x7.length + (rd_L3 x2 x8).length < 2513169434916 then ((some (x7 ++ (rd_L3 x2 x8) : List (S46))).bind fun y316 => (if x0 = 7 then (if x8 < (x1.length : Int) then (if 0 ≤ (x7.length : Int) then (if (x7.length : Int) < (y316.length : Int) then (racewayref25_Made.l0 k x0 x1 x2 (y316.set ((x7.length : Int) : Int).toNat (⟨(rd_T46 y316 (x7.length : Int)).f0,(rd_T46 y316 (x7.length : Int)).f1,(rd_T46 y316 (x7.length : Int)).f2,rdOf ByteArray.empty x1 x8,(rd_T46 y316 (x7.length : Int)).f4⟩ : S46)) (wrap64 (x8 + 1))) else (none)) else (none)) else (none)) else (racewayref25_Made.l0 k x0 x1 x2 y316 (wrap64 (x8 + 1))))) else (none)) else (none)) else (none))
end
def racewayref25_Made.f (k : Nat) (a0 : Int) (l1 : List ByteArray) (l2 : List (List (S46))) : Option ((List (S46))):=if a0 = 7 then (racewayref25_Made.j0 k a0 l1 l2 ((l1.length : Int) != (l2.length : Int))) else (racewayref25_Made.j0 k a0 l1 l2 false)
set_option maxHeartbeats 8000000 in
set_option maxRecDepth 100000 in
theorem racewayref25_Made.calls (k : Nat) (a0 : Int) (A1 : Option Addr) (c1 : Nat) (l1 : List ByteArray) (A2 : Option Addr) (c2 : Nat) (l2 : List (List (S46))) (r : List (S46)) (w : World) (hr1 : Kd.C Kd.string w A1 l1.length l1) (hc1 : l1.length ≤ c1) (hr2 : Kd.C (Kd.slice 46 k46) w A2 l2.length l2) (hc2 : l2.length ≤ c2) (h : racewayref25_Made.f k a0 l1 l2 = some r) :
  Calls Tryd.prog 19 #[.int .i64 a0,.slice A1 l1.length c1,.slice A2 l2.length c2] w fun e w' => ∃ v0_ : Value,e = .returned (v0_) ∧ Kd.R k46 46 w' w.heap.size (fun _ => True) v0_ r ∧ Below w.heap.size w w':=by
 have hu46:=Tryd.underlying46
 have HR1:=Aside0.mk hr1
 have HC1:=Aside0.mk hc1
 clear hr1 hc1
 have HR2:=Aside0.mk hr2
 have HC2:=Aside0.mk hc2
 clear hr2 hc2
 have HB:=Aside0.mk (Below.refl w.heap.size w)
 have H : (if a0 = 7 then (racewayref25_Made.j0 k a0 l1 l2 ((l1.length : Int) != (l2.length : Int))) else (racewayref25_Made.j0 k a0 l1 l2 false)) = some r:=h
 clear h
 have HC4:=Aside0.mk H
 clear H
 go_enter Tryd.func19,Tryd.ntmps19
 go_upto_region 1 with (fail)
 go_cut [18] (fun v18 wc => ∃ (kq : Nat) (x18_3 : Bool),v18 = .bool x18_3 ∧ Aside0 (racewayref25_Made.j0 kq a0 l1 l2 x18_3 = some r) ∧ Aside0 (kq ≤ k) ∧ Aside0 (Below w.heap.size w wc))
 case first =>
  have H:=HC4.out
  clear HC4
  by_cases c5 : a0 = 7
  ·rw [if_pos c5] at H
   have c5b0 : (a0 == 7) = true:=beq_iff_eq.mpr c5
   have c5b1 : (a0 != 7) = false:=bne_eq_false_iff_eq.mpr c5
   clear c5
   (first|rw [c5b0]|(simp only [i64_w,i32_w];rw [c5b0])|skip)
   have H':=Aside0.mk H
   clear H
   go_wp2
   go_meet
   case rel => exact ⟨_,(((l1.length : Int) != (l2.length : Int))),(by first|rfl|(simp;done)|(simp;decide +kernel)|(simp [*];done)),(by first|exact H'|(subst_vars;exact H')),⟨by first|omega|exact Nat.le_refl _⟩,⟨by repeat (first|(with_reducible first|exact HB.out|apply below_alloc|apply pw_below_drewN|apply below_drew1)|exact HB.out)⟩⟩
  ·rw [if_neg c5] at H
   have c5b0 : (a0 == 7) = false:=beq_eq_false_iff_ne.mpr c5
   have c5b1 : (a0 != 7) = true:=bne_iff_ne.mpr c5
   (first|rw [c5b0]|(simp only [i64_w,i32_w];rw [c5b0])|skip)
   have H':=Aside0.mk H
   clear H
   go_wp2
   go_meet
   case rel => exact ⟨_,(false),(by first|rfl|(simp;done)|(simp;decide +kernel)|(simp [*];done)),(by first|exact H'|(subst_vars;exact H')),⟨by first|omega|exact Nat.le_refl _⟩,⟨by repeat (first|(with_reducible first|exact HB.out|apply below_alloc|apply pw_below_drewN|apply below_drew1)|exact HB.out)⟩⟩
 case rest =>
  clear HC4
  try clear c1
  try clear c2
  try clear p2
  try clear c5
  try clear c5b0
  try clear c5b1
  obtain ⟨kq,x18_3,rfl,HA,HJ3,HB⟩:=hcut
  cases kq with
  | zero => exact absurd HA.out (by simp [racewayref25_Made.j0])
  | succ kj3 =>
   have H:=HA.out
   clear HA
   simp only [racewayref25_Made.j0] at H
   by_cases c6 : x18_3 = true
   ·subst c6
    have H1 : (some ([] : List (S46))) = some r:=by rw [if_pos rfl] at H;exact H
    clear H
    have H:=H1
    clear H1
    obtain rfl:=Option.some.inj H
    go_wp2
    go_ret
    exact ⟨_,by first|rfl|(simp [errW_none,errW_some] <;> rfl)|(simp [*,errW_none,errW_some] <;> rfl),by first|exact Kd.R_nil _ _ _ _ _|exact Kd.N_nil _ _ _ _ _|exact Kd.V_nil _ _ _ _ _|exact Kd.Q_nil _ _ _ _ _|exact Kd.S_nil _ _ _ _ _,by repeat (first|(with_reducible first|exact HB.out|apply below_alloc|apply pw_below_drewN|apply below_drew1)|exact HB.out)⟩
   ·replace c6:=Bool.eq_false_iff.mpr c6
    subst c6
    have H1 : (racewayref25_Made.l0 kj3 a0 l1 l2 (([(⟨a0,0,(l2.length : Int),(⟨#[]⟩ : ByteArray),(⟨#[]⟩ : ByteArray)⟩ : S46)] : List (S46))) 0) = some r:=by rw [if_neg (show ¬ (false = true) by decide)] at H;exact H
    clear H
    have H:=H1
    clear H1
    obtain ⟨y307,hy307⟩ : ∃ y_ : List (S46),y_ = (([(⟨a0,0,(l2.length : Int),(⟨#[]⟩ : ByteArray),(⟨#[]⟩ : ByteArray)⟩ : S46)] : List (S46))):=⟨_,rfl⟩
    replace H : (racewayref25_Made.l0 kj3 a0 l1 l2 y307 0) = some r:=by first|(rw [hy307];with_reducible exact H)|(have H2_:=(Option.bind_some _ _).symm.trans H;rw [hy307];with_reducible exact H2_)|(have H2_:=(Option.bind_some _ _).symm.trans H;with_reducible exact H2_)|with_reducible exact H|(rw [hy307];exact H)|exact H
    have Ny307:=Aside0.mk hy307
    clear hy307
    have H':=Aside0.mk H
    clear H
    go_wp2_with (first|((with_reducible refine gate_dst (N:=23) rfl ?_);(try (refine gate_guard (by rfl) ?_;dsimp only));refine Kd.R_lit k46 _ 46 ?hg (N:=23) ?hd (xs:=([(⟨a0,0,(l2.length : Int),(⟨#[]⟩ : ByteArray),(⟨#[]⟩ : ByteArray)⟩ : S46)] : List (S46))) (inner:=[.int .i64 a0,.int .i64 0,.int .i64 (l2.length : Int),.string (⟨#[]⟩ : ByteArray),.string (⟨#[]⟩ : ByteArray)]) (ok:=fun _ => True) (okp:=fun _ => True) ?hr ?hp (fun _ hk => hk) trivial (Below.refl _ _) (Nat.le_refl _) (by simp) ?_;(case hd => rfl);(case hg => rfl);(case hr => first|(go_simp;done)|(go_simp;rfl));(case hp => exact (Reps.c5 (show Kd.M k46 _ _ _ (⟨a0,0,(l2.length : Int),(⟨#[]⟩ : ByteArray),(⟨#[]⟩ : ByteArray)⟩ : S46) [.int .i64 a0,.int .i64 0,.int .i64 (l2.length : Int),.string (⟨#[]⟩ : ByteArray),.string (⟨#[]⟩ : ByteArray)] from (k46_mkM _ _ _ (⟨a0,0,(l2.length : Int),(⟨#[]⟩ : ByteArray),(⟨#[]⟩ : ByteArray)⟩ : S46) )) (Reps.none _ _)));intro v308 w7 ho8 hb hg_ hnew_;clear hg_ hnew_;(first|rw [← Ny307.out] at ho8|(simp only [Int.reduceToNat] at ho8;rw [← Ny307.out] at ho8));have n0_:=Aside0.mk (Kd.R_lower ho8 (below_size (by repeat (first|(with_reducible first|exact HB.out|apply below_alloc|apply pw_below_drewN|apply below_drew1)|exact HB.out))));have n1_:=Aside0.mk (below_step (by repeat (first|(with_reducible first|exact HB.out|apply below_alloc|apply pw_below_drewN|apply below_drew1)|exact HB.out)) hb);clear HB;have HO309:=n0_;have HB:=n1_;clear n0_ n1_;clear hb ho8))
    go_loopg [7,8] kj3 (fun kq v7 v8 w' => ∃ (x7_2 : List (S46)) (x8_2 : Int),v8 = .int .i64 x8_2 ∧ Aside0 (racewayref25_Made.l0 kq a0 l1 l2 x7_2 x8_2 = some r) ∧ Aside0 (kq ≤ kj3) ∧ Aside0 (Kd.R k46 46 w' w.heap.size (fun _ => True) v7 x7_2) ∧ Aside0 (Below w.heap.size w w'))
    case atStart => exact ⟨(y307),(0),(by first|rfl|(simp;done)|(simp;decide +kernel)|(simp [*];done)),(by first|exact H'|(subst_vars;exact H')),⟨Nat.le_refl _⟩,⟨by (with_reducible repeat (first|apply Kd.R_alloc|apply Kd.R_drewN|apply Kd.R_drew));exact HO309.out⟩,⟨by repeat (first|(with_reducible first|exact HB.out|apply below_alloc|apply pw_below_drewN|apply below_drew1)|exact HB.out)⟩⟩
    case round =>
     clear H'
     try clear c1
     try clear c2
     try clear p2
     try clear c5
     try clear c5b0
     try clear c5b1
     try clear c6
     try clear p2
     obtain ⟨x7_2,x8_2,rfl,HA,HK2,HO_7,HB⟩:=hrel
     cases gk with
     | zero => exact absurd HA.out (by simp [racewayref25_Made.l0])
     | succ k2 =>
      have H:=HA.out
      clear HA
      simp only [racewayref25_Made.l0] at H
      by_cases c9 : x8_2 < (l2.length : Int)
      ·rw [if_pos c9] at H
       have c9b0 : decide (x8_2 < (l2.length : Int)) = true:=decide_eq_true c9
       clear c9
       have HC10:=Aside0.mk H
       clear H
       go_upto_region 7 with (fail)
       go_cut [47] (fun v47 wc => ∃ (kq : Nat) (x47_9 : Bool),v47 = .bool x47_9 ∧ Aside0 (racewayref25_Made.j2 kq a0 l1 l2 x7_2 x8_2 x47_9 = some r) ∧ Aside0 (kq ≤ k2) ∧ Aside0 (Kd.R k46 46 wc w.heap.size (fun _ => True) u7 x7_2) ∧ Aside0 (Below w.heap.size w wc))
       case first =>
        have H:=HC10.out
        clear HC10
        by_cases c11 : 0 ≤ x8_2
        ·rw [if_pos c11] at H
         have c11b0 : decide (0 ≤ x8_2) = true:=decide_eq_true c11
         clear c11
         (first|rw [c11b0]|(simp only [i64_w,i32_w];rw [c11b0])|skip)
         replace H:=Option.bind_eq_some_iff.mp H
         obtain ⟨t312,A120,H⟩:=H
         replace H : (if t312 = 0 then (if a0 = 7 then (if x8_2 < (l1.length : Int) then ((racewayref25_Valid.f k2 (rdOf ByteArray.empty l1 x8_2)).bind fun t314 => (racewayref25_Made.j2 k2 a0 l1 l2 x7_2 x8_2 (!t314))) else (none)) else (racewayref25_Made.j2 k2 a0 l1 l2 x7_2 x8_2 false)) else (racewayref25_Made.j2 k2 a0 l1 l2 x7_2 x8_2 true)) = some r:=H
         have A12:=Aside0.mk A120
         clear A120
         by_cases c13 : t312 = 0
         ·rw [if_pos c13] at H
          have c13b0 : (t312 == 0) = true:=beq_iff_eq.mpr c13
          have c13b1 : (t312 != 0) = false:=bne_eq_false_iff_eq.mpr c13
          clear c13
          by_cases c14 : a0 = 7
          ·rw [if_pos c14] at H
           have c14b0 : (a0 == 7) = true:=beq_iff_eq.mpr c14
           have c14b1 : (a0 != 7) = false:=bne_eq_false_iff_eq.mpr c14
           clear c14
           by_cases c15 : x8_2 < (l1.length : Int)
           ·rw [if_pos c15] at H
            have c15b0 : decide (x8_2 < (l1.length : Int)) = true:=decide_eq_true c15
            clear c15
            replace H:=Option.bind_eq_some_iff.mp H
            obtain ⟨t314,A160,H⟩:=H
            replace H : (racewayref25_Made.j2 k2 a0 l1 l2 x7_2 x8_2 (!t314)) = some r:=H
            have A16:=Aside0.mk A160
            clear A160
            have H':=Aside0.mk H
            clear H
            have p311 : 0 ≤ (x8_2 : Int):=of_decide_eq_true (by first|(with_reducible assumption)|assumption)
            have q311 : x8_2 < (l2.length : Int):=of_decide_eq_true (by first|(with_reducible assumption)|assumption)
            obtain ⟨ad311,A311_0,c311_0,e311,hx311_0,hl311_0,hi311_0⟩:=at_L3 HR2.out x8_2 p311 q311
            cases e311
            replace hx311_0:=(HB.out.cell (World.block_lt_of_cell? w _ hx311_0)).trans hx311_0
            have HR311_0:=Aside0.mk hi311_0
            have HC311_0:=Aside0.mk hl311_0
            clear hi311_0 hl311_0
            replace p311:=eq_true p311
            replace q311:=eq_true q311
            go_wp2_with (first|((with_reducible refine gate_callee (f:=21) rfl ?_);refine goesL_ (some 34) rfl rfl Tryd.func21 (by kernel_rfl) rfl #[.slice A311_0 (rd_L3 l2 x8_2).length c311_0] rfl (by (try simp only [List.map_toArray,List.map_cons,List.map_nil]);first|done|rfl|(simp only [List.length_drop,List.length_take];rfl)) ?_;(with_reducible refine (racewayref25_Check.calls k2 _ _ (rd_L3 l2 x8_2) t312 _ ?side1 ?side2 A12.out).mono ?_);(case side1 => repeat (first|exact (Kd.C_below HR311_0.out HB.out)|(with_reducible refine Kd.C_alloc ?_ _)|(with_reducible refine Kd.C_drewN ?_ _)|(with_reducible refine Kd.C_drew ?_)));(case side2 => exact HC311_0.out);rintro e w17 ⟨rfl,hb⟩;refine ⟨_,rfl,?_⟩;have n0_:=Aside0.mk (Kd.R_below (by (with_reducible repeat (first|apply Kd.R_alloc|apply Kd.R_drewN|apply Kd.R_drew));exact HO_7.out) hb);have n1_:=Aside0.mk (below_step (by repeat (first|(with_reducible first|exact HB.out|apply below_alloc|apply pw_below_drewN|apply below_drew1)|exact HB.out)) hb);clear HO_7;clear HB;have HO_7:=n0_;have HB:=n1_;clear n0_ n1_;(try clear hb);(try clear hb2);(try clear hk);(try clear hi);have p313 : 0 ≤ (x8_2 : Int):=of_decide_eq_true (by first|(with_reducible assumption)|assumption);have q313 : x8_2 < (l1.length : Int):=of_decide_eq_true (by first|(with_reducible assumption)|assumption);obtain ⟨ad313,e313,hx313_0⟩:=Kd.at_string HR1.out x8_2 p313 q313;cases e313;replace hx313_0:=(HB.out.cell (World.block_lt_of_cell? w _ hx313_0)).trans hx313_0;replace p313:=eq_true p313;replace q313:=eq_true q313)|(go_at_call 30;(with_reducible refine (racewayref25_Valid.calls k2 (rdOf ByteArray.empty l1 x8_2) t314 _ A16.out).mono ?_);rintro e w' ⟨rfl,⟨nd,rfl⟩⟩))
            go_meet
            case rel => exact ⟨_,(!t314),(by first|rfl|(simp;done)|(simp;decide +kernel)|(simp [*];done)),(by first|exact H'|(subst_vars;exact H')),⟨by have:=HJ3.out;have:=HK2.out;first|omega|exact Nat.le_refl _⟩,⟨by (with_reducible repeat (first|apply Kd.R_alloc|apply Kd.R_drewN|apply Kd.R_drew));exact HO_7.out⟩,⟨by repeat (first|(with_reducible first|exact HB.out|apply below_alloc|apply pw_below_drewN|apply below_drew1)|exact HB.out)⟩⟩
           ·rw [if_neg c15] at H
            exact absurd H (by simp)
          ·rw [if_neg c14] at H
           have c14b0 : (a0 == 7) = false:=beq_eq_false_iff_ne.mpr c14
           have c14b1 : (a0 != 7) = true:=bne_iff_ne.mpr c14
           have H':=Aside0.mk H
           clear H
           have p311 : 0 ≤ (x8_2 : Int):=of_decide_eq_true (by first|(with_reducible assumption)|assumption)
           have q311 : x8_2 < (l2.length : Int):=of_decide_eq_true (by first|(with_reducible assumption)|assumption)
           obtain ⟨ad311,A311_0,c311_0,e311,hx311_0,hl311_0,hi311_0⟩:=at_L3 HR2.out x8_2 p311 q311
           cases e311
           replace hx311_0:=(HB.out.cell (World.block_lt_of_cell? w _ hx311_0)).trans hx311_0
           have HR311_0:=Aside0.mk hi311_0
           have HC311_0:=Aside0.mk hl311_0
           clear hi311_0 hl311_0
           replace p311:=eq_true p311
           replace q311:=eq_true q311
           go_wp2_with (first|((with_reducible refine gate_callee (f:=21) rfl ?_);refine goesL_ (some 34) rfl rfl Tryd.func21 (by kernel_rfl) rfl #[.slice A311_0 (rd_L3 l2 x8_2).length c311_0] rfl (by (try simp only [List.map_toArray,List.map_cons,List.map_nil]);first|done|rfl|(simp only [List.length_drop,List.length_take];rfl)) ?_;(with_reducible refine (racewayref25_Check.calls k2 _ _ (rd_L3 l2 x8_2) t312 _ ?side1 ?side2 A12.out).mono ?_);(case side1 => repeat (first|exact (Kd.C_below HR311_0.out HB.out)|(with_reducible refine Kd.C_alloc ?_ _)|(with_reducible refine Kd.C_drewN ?_ _)|(with_reducible refine Kd.C_drew ?_)));(case side2 => exact HC311_0.out);rintro e w18 ⟨rfl,hb⟩;refine ⟨_,rfl,?_⟩;have n0_:=Aside0.mk (Kd.R_below (by (with_reducible repeat (first|apply Kd.R_alloc|apply Kd.R_drewN|apply Kd.R_drew));exact HO_7.out) hb);have n1_:=Aside0.mk (below_step (by repeat (first|(with_reducible first|exact HB.out|apply below_alloc|apply pw_below_drewN|apply below_drew1)|exact HB.out)) hb);clear HO_7;clear HB;have HO_7:=n0_;have HB:=n1_;clear n0_ n1_;(try clear hb);(try clear hb2);(try clear hk);(try clear hi)))
           go_meet
           case rel => exact ⟨_,(false),(by first|rfl|(simp;done)|(simp;decide +kernel)|(simp [*];done)),(by first|exact H'|(subst_vars;exact H')),⟨by have:=HJ3.out;have:=HK2.out;first|omega|exact Nat.le_refl _⟩,⟨by (with_reducible repeat (first|apply Kd.R_alloc|apply Kd.R_drewN|apply Kd.R_drew));exact HO_7.out⟩,⟨by repeat (first|(with_reducible first|exact HB.out|apply below_alloc|apply pw_below_drewN|apply below_drew1)|exact HB.out)⟩⟩
         ·rw [if_neg c13] at H
          have c13b0 : (t312 == 0) = false:=beq_eq_false_iff_ne.mpr c13
          have c13b1 : (t312 != 0) = true:=bne_iff_ne.mpr c13
          have H':=Aside0.mk H
          clear H
          have p311 : 0 ≤ (x8_2 : Int):=of_decide_eq_true (by first|(with_reducible assumption)|assumption)
          have q311 : x8_2 < (l2.length : Int):=of_decide_eq_true (by first|(with_reducible assumption)|assumption)
          obtain ⟨ad311,A311_0,c311_0,e311,hx311_0,hl311_0,hi311_0⟩:=at_L3 HR2.out x8_2 p311 q311
          cases e311
          replace hx311_0:=(HB.out.cell (World.block_lt_of_cell? w _ hx311_0)).trans hx311_0
          have HR311_0:=Aside0.mk hi311_0
          have HC311_0:=Aside0.mk hl311_0
          clear hi311_0 hl311_0
          replace p311:=eq_true p311
          replace q311:=eq_true q311
          go_wp2_with (first|((with_reducible refine gate_callee (f:=21) rfl ?_);refine goesL_ (some 34) rfl rfl Tryd.func21 (by kernel_rfl) rfl #[.slice A311_0 (rd_L3 l2 x8_2).length c311_0] rfl (by (try simp only [List.map_toArray,List.map_cons,List.map_nil]);first|done|rfl|(simp only [List.length_drop,List.length_take];rfl)) ?_;(with_reducible refine (racewayref25_Check.calls k2 _ _ (rd_L3 l2 x8_2) t312 _ ?side1 ?side2 A12.out).mono ?_);(case side1 => repeat (first|exact (Kd.C_below HR311_0.out HB.out)|(with_reducible refine Kd.C_alloc ?_ _)|(with_reducible refine Kd.C_drewN ?_ _)|(with_reducible refine Kd.C_drew ?_)));(case side2 => exact HC311_0.out);rintro e w19 ⟨rfl,hb⟩;refine ⟨_,rfl,?_⟩;have n0_:=Aside0.mk (Kd.R_below (by (with_reducible repeat (first|apply Kd.R_alloc|apply Kd.R_drewN|apply Kd.R_drew));exact HO_7.out) hb);have n1_:=Aside0.mk (below_step (by repeat (first|(with_reducible first|exact HB.out|apply below_alloc|apply pw_below_drewN|apply below_drew1)|exact HB.out)) hb);clear HO_7;clear HB;have HO_7:=n0_;have HB:=n1_;clear n0_ n1_;(try clear hb);(try clear hb2);(try clear hk);(try clear hi)))
          go_meet
          case rel => exact ⟨_,(true),(by first|rfl|(simp;done)|(simp;decide +kernel)|(simp [*];done)),(by first|exact H'|(subst_vars;exact H')),⟨by have:=HJ3.out;have:=HK2.out;first|omega|exact Nat.le_refl _⟩,⟨by (with_reducible repeat (first|apply Kd.R_alloc|apply Kd.R_drewN|apply Kd.R_drew));exact HO_7.out⟩,⟨by repeat (first|(with_reducible first|exact HB.out|apply below_alloc|apply pw_below_drewN|apply below_drew1)|exact HB.out)⟩⟩
        ·rw [if_neg c11] at H
         exact absurd H (by simp)
       case rest =>
        clear HC10
        try clear c1
        try clear c2
        try clear p2
        try clear c3
        try clear p3
        try clear q3
        try clear hx3
        try clear c5
        try clear c5b0
        try clear c5b1
        try clear c6
        try clear c9
        try clear c9b0
        try clear c11
        try clear c11b0
        try clear c13
        try clear c13b0
        try clear c13b1
        try clear c14
        try clear c14b0
        try clear c14b1
        try clear c15
        try clear c15b0
        try clear c19
        try clear hx311_0
        try clear hx313_0
        try clear p2
        try clear p311
        try clear p313
        try clear q311
        try clear q313
        obtain ⟨kq,x47_9,rfl,HA,HJ9,HO_7,HB⟩:=hcut
        cases kq with
        | zero => exact absurd HA.out (by simp [racewayref25_Made.j2])
        | succ kj9 =>
         have H:=HA.out
         clear HA
         simp only [racewayref25_Made.j2] at H
         by_cases c20 : x47_9 = true
         ·subst c20
          have H1 : (some ([] : List (S46))) = some r:=by rw [if_pos rfl] at H;exact H
          clear H
          have H:=H1
          clear H1
          obtain rfl:=Option.some.inj H
          go_wp2
          go_ret
          exact ⟨_,by first|rfl|(simp [errW_none,errW_some] <;> rfl)|(simp [*,errW_none,errW_some] <;> rfl),by first|exact Kd.R_nil _ _ _ _ _|exact Kd.N_nil _ _ _ _ _|exact Kd.V_nil _ _ _ _ _|exact Kd.Q_nil _ _ _ _ _|exact Kd.S_nil _ _ _ _ _,by repeat (first|(with_reducible first|exact HB.out|apply below_alloc|apply pw_below_drewN|apply below_drew1)|exact HB.out)⟩
         ·replace c20:=Bool.eq_false_iff.mpr c20
          subst c20
          have H1 : (if 0 ≤ x8_2 then (if x8_2 < (l2.length : Int) then (if x7_2.length + (rd_L3 l2 x8_2).length < 2513169434916 then ((some (x7_2 ++ (rd_L3 l2 x8_2) : List (S46))).bind fun y316 => (if a0 = 7 then (if x8_2 < (l1.length : Int) then (if 0 ≤ (x7_2.length : Int) then (if (x7_2.length : Int) < (y316.length : Int) then (racewayref25_Made.l0 kj9 a0 l1 l2 (y316.set x7_2.length (⟨(rd_T46 y316 (x7_2.length : Int)).f0,(rd_T46 y316 (x7_2.length : Int)).f1,(rd_T46 y316 (x7_2.length : Int)).f2,rdOf ByteArray.empty l1 x8_2,(rd_T46 y316 (x7_2.length : Int)).f4⟩ : S46)) (wrap64 (x8_2 + 1))) else (none)) else (none)) else (none)) else (racewayref25_Made.l0 kj9 a0 l1 l2 y316 (wrap64 (x8_2 + 1))))) else (none)) else (none)) else (none)) = some r:=by rw [if_neg (show ¬ (false = true) by decide)] at H;exact H
          clear H
          have H:=H1
          clear H1
          by_cases c21 : 0 ≤ x8_2
          ·rw [if_pos c21] at H
           have c21b0 : decide (0 ≤ x8_2) = true:=decide_eq_true c21
           clear c21
           by_cases c22 : x8_2 < (l2.length : Int)
           ·rw [if_pos c22] at H
            have c22b0 : decide (x8_2 < (l2.length : Int)) = true:=decide_eq_true c22
            clear c22
            by_cases c23 : x7_2.length + (rd_L3 l2 x8_2).length < 2513169434916
            ·rw [if_pos c23] at H
             have LMc23:=Aside0.mk c23
             clear c23
             obtain ⟨y316,hy316⟩ : ∃ y_ : List (S46),y_ = (x7_2 ++ (rd_L3 l2 x8_2)):=⟨_,rfl⟩
             replace H : (if a0 = 7 then (if x8_2 < (l1.length : Int) then (if 0 ≤ (x7_2.length : Int) then (if (x7_2.length : Int) < (y316.length : Int) then (racewayref25_Made.l0 kj9 a0 l1 l2 (y316.set x7_2.length (⟨(rd_T46 y316 (x7_2.length : Int)).f0,(rd_T46 y316 (x7_2.length : Int)).f1,(rd_T46 y316 (x7_2.length : Int)).f2,rdOf ByteArray.empty l1 x8_2,(rd_T46 y316 (x7_2.length : Int)).f4⟩ : S46)) (wrap64 (x8_2 + 1))) else (none)) else (none)) else (none)) else (racewayref25_Made.l0 kj9 a0 l1 l2 y316 (wrap64 (x8_2 + 1)))) = some r:=by first|(rw [hy316];with_reducible exact H)|(have H2_:=(Option.bind_some _ _).symm.trans H;rw [hy316];with_reducible exact H2_)|(have H2_:=(Option.bind_some _ _).symm.trans H;with_reducible exact H2_)|with_reducible exact H|(rw [hy316];exact H)|exact H
             have Ny316:=Aside0.mk hy316
             clear hy316
             by_cases c24 : a0 = 7
             ·rw [if_pos c24] at H
              have c24b0 : (a0 == 7) = true:=beq_iff_eq.mpr c24
              have c24b1 : (a0 != 7) = false:=bne_eq_false_iff_eq.mpr c24
              clear c24
              by_cases c25 : x8_2 < (l1.length : Int)
              ·rw [if_pos c25] at H
               have c25b0 : decide (x8_2 < (l1.length : Int)) = true:=decide_eq_true c25
               clear c25
               by_cases c26 : 0 ≤ (x7_2.length : Int)
               ·rw [if_pos c26] at H
                have c26b0 : decide (0 ≤ (x7_2.length : Int)) = true:=decide_eq_true c26
                have c26b1 : decide (0 ≤ x7_2.length) = true:=decide_eq_true (by omega)
                clear c26
                by_cases c27 : (x7_2.length : Int) < (y316.length : Int)
                ·rw [if_pos c27] at H
                 have c27b0 : decide ((x7_2.length : Int) < (y316.length : Int)) = true:=decide_eq_true c27
                 have c27b1 : decide (x7_2.length < y316.length) = true:=decide_eq_true (Int.ofNat_lt.mp c27)
                 clear c27
                 obtain ⟨y320,hy320⟩ : ∃ y_ : List (S46),y_ = (y316.set x7_2.length (⟨(rd_T46 y316 (x7_2.length : Int)).f0,(rd_T46 y316 (x7_2.length : Int)).f1,(rd_T46 y316 (x7_2.length : Int)).f2,rdOf ByteArray.empty l1 x8_2,(rd_T46 y316 (x7_2.length : Int)).f4⟩ : S46)):=⟨_,rfl⟩
                 replace H : (racewayref25_Made.l0 kj9 a0 l1 l2 y320 (wrap64 (x8_2 + 1))) = some r:=by first|(rw [hy320];with_reducible exact H)|(have H2_:=(Option.bind_some _ _).symm.trans H;rw [hy320];with_reducible exact H2_)|(have H2_:=(Option.bind_some _ _).symm.trans H;with_reducible exact H2_)|with_reducible exact H|(rw [hy320];exact H)|exact H
                 have Ny320:=Aside0.mk hy320
                 clear hy320
                 have H':=Aside0.mk H
                 clear H
                 obtain ⟨Ao29,co29,eo29⟩:=Kd.R_slice HO_7.out
                 subst eo29
                 have p315 : 0 ≤ (x8_2 : Int):=of_decide_eq_true (by first|(with_reducible assumption)|assumption)
                 have q315 : x8_2 < (l2.length : Int):=of_decide_eq_true (by first|(with_reducible assumption)|assumption)
                 obtain ⟨ad315,A315_0,c315_0,e315,hx315_0,hl315_0,hi315_0⟩:=at_L3 HR2.out x8_2 p315 q315
                 cases e315
                 replace hx315_0:=(HB.out.cell (World.block_lt_of_cell? w _ hx315_0)).trans hx315_0
                 have HR315_0:=Aside0.mk hi315_0
                 have HC315_0:=Aside0.mk hl315_0
                 clear hi315_0 hl315_0
                 replace p315:=eq_true p315
                 replace q315:=eq_true q315
                 go_wp2_with (first|((with_reducible refine gate_builtin (b:=.append) (xs:=#[.tmp 50,.tmp 54]) rfl ?_);(try (refine gate_guard (by rfl) ?_;dsimp only));at_builtin;refine Kd.R_append_rows k46 (w0:=w) w.heap.size rfl (.tmp 50) (.tmp 54) 22 46 (.agg #[(.int .i64 0),(.int .i64 0),(.int .i64 0),(.string ⟨#[]⟩),(.string ⟨#[]⟩)]) 56 rfl Tryd.underlying22 info46 rfl (by decide) (by omega) (.slice Ao29 x7_2.length co29) x7_2 (rd_L3 l2 x8_2) _ _ _ (fun _ => True) (fun _ => False) rfl rfl ?aO ?aR (fun _ _ h => h) (fun _ h => h.elim) ?aF ?aB ?aS ?aL ?_;(case aR => repeat (first|exact (Kd.C_below HR315_0.out HB.out)|(with_reducible refine Kd.C_alloc ?_ _)|(with_reducible refine Kd.C_drewN ?_ _)|(with_reducible refine Kd.C_drew ?_)));(case aB => exact (by repeat (first|(with_reducible first|exact HB.out|apply below_alloc|apply pw_below_drewN|apply below_drew1)|exact HB.out)));(case aF => exact (fun _ _ => trivial));(case aO => exact (by (with_reducible repeat (first|apply Kd.R_alloc|apply Kd.R_drewN|apply Kd.R_drew));exact HO_7.out));(case aS => exact (below_size (by repeat (first|(with_reducible first|exact HB.out|apply below_alloc|apply pw_below_drewN|apply below_drew1)|exact HB.out))));(case aL => have:=LMc23.out;omega);intro v317 w30 ho hb hg hat;rw [← Ny316.out] at ho;have n0_:=Aside0.mk (hb);have n1_:=Aside0.mk (ho);clear HB;clear HO_7;have HB:=n0_;have HO318:=n1_;clear n0_ n1_;clear ho hb hg hat;have p319 : 0 ≤ (x8_2 : Int):=of_decide_eq_true (by first|(with_reducible assumption)|assumption);have q319 : x8_2 < (l1.length : Int):=of_decide_eq_true (by first|(with_reducible assumption)|assumption);obtain ⟨ad319,e319,hx319_0⟩:=Kd.at_string HR1.out x8_2 p319 q319;cases e319;replace hx319_0:=(HB.out.cell (World.block_lt_of_cell? w _ hx319_0)).trans hx319_0;replace p319:=eq_true p319;replace q319:=eq_true q319;have p28 : 0 ≤ ((x7_2.length : Int) : Int):=of_decide_eq_true (by first|(with_reducible assumption)|assumption);have q28 : ((x7_2.length : Int) : Int) < ((y316.length : Int) : Int):=of_decide_eq_true (by first|(with_reducible assumption)|assumption);obtain ⟨go28,co28,eo28,gb28,gl28,cl28,HG28⟩:=Kd.R_form HO318.out (by omega);(first|cases eo28|(injection eo28 with ea_ en_ ec_;(first|subst ea_|(injection ea_ with ea_;subst ea_));subst ec_;clear en_));have GB28:=Aside0.mk gb28;have GG28:=Aside0.mk HG28;clear gb28 gl28 HG28;obtain ⟨ce28,hcl28,hM28,hcc28,hfr28⟩:=Kd.R_elem HO318.out z46 ((x7_2.length : Int) : Int) p28 q28;obtain rfl:=k46_openM hM28;have hx28_0 : w30.cell? ⟨go28,x7_2.length * 5,none⟩ = some (.int .i64 ((rd_T46 y316 (x7_2.length : Int)).f0)):=hcc28 0 _ rfl;have hx28_1 : w30.cell? ⟨go28,x7_2.length * 5 + 1,none⟩ = some (.int .i64 ((rd_T46 y316 (x7_2.length : Int)).f1)):=hcc28 1 _ rfl;have hx28_2 : w30.cell? ⟨go28,x7_2.length * 5 + 2,none⟩ = some (.int .i64 ((rd_T46 y316 (x7_2.length : Int)).f2)):=hcc28 2 _ rfl;have hx28_3 : w30.cell? ⟨go28,x7_2.length * 5 + 3,none⟩ = some (.string ((rd_T46 y316 (x7_2.length : Int)).f3)):=hcc28 3 _ rfl;have hx28_4 : w30.cell? ⟨go28,x7_2.length * 5 + 4,none⟩ = some (.string ((rd_T46 y316 (x7_2.length : Int)).f4)):=hcc28 4 _ rfl;have hf28_0 : w30.frozen? ⟨go28,x7_2.length * 5,none⟩ = false:=hfr28 0;have hf28_1 : w30.frozen? ⟨go28,x7_2.length * 5 + 1,none⟩ = false:=hfr28 1;have hf28_2 : w30.frozen? ⟨go28,x7_2.length * 5 + 2,none⟩ = false:=hfr28 2;have hf28_3 : w30.frozen? ⟨go28,x7_2.length * 5 + 3,none⟩ = false:=hfr28 3;have hf28_4 : w30.frozen? ⟨go28,x7_2.length * 5 + 4,none⟩ = false:=hfr28 4;clear hcl28 hcc28 hfr28 hM28;replace p28:=eq_true p28;replace q28:=eq_true q28;have HX31:=Aside0.mk (show Kd.R k46 46 w30 w.heap.size (fun _ => True) (.slice (some ⟨go28,0,none⟩) y316.length co28) y316 from (by (with_reducible repeat (first|apply Kd.R_alloc|apply Kd.R_drewN|apply Kd.R_drew));exact HO318.out));obtain ⟨ce31,hcl31,hM31,hcc31,hfr31⟩:=Kd.R_elem HX31.out z46 ((x7_2.length : Int) : Int) (of_decide_eq_true (by first|(with_reducible assumption)|assumption)) (by have h_ : ((x7_2.length : Int) : Int) < ((y316.length : Int) : Int):=of_decide_eq_true (by first|(with_reducible assumption)|assumption);first|exact h_|(have e_:=(Kd.R_reads' HO318.out).1;omega)|simpa using h_);obtain rfl:=k46_openM hM31;have HP31:=Kd.R_seg HX31.out ((x7_2.length : Int) : Int) (of_decide_eq_true (by first|(with_reducible assumption)|assumption)) (by have h_ : ((x7_2.length : Int) : Int) < ((y316.length : Int) : Int):=of_decide_eq_true (by first|(with_reducible assumption)|assumption);first|exact h_|(have e_:=(Kd.R_reads' HO318.out).1;omega)|simpa using h_) (seg:=[.string (rdOf ByteArray.empty l1 x8_2)]) (j:=3) hcl31 hcc31 (show 4 ≤ 5 from by decide) (x':=(⟨(rd_T46 y316 (x7_2.length : Int)).f0,(rd_T46 y316 (x7_2.length : Int)).f1,(rd_T46 y316 (x7_2.length : Int)).f2,rdOf ByteArray.empty l1 x8_2,(rd_T46 y316 (x7_2.length : Int)).f4⟩ : S46)) (k46_mkM _ _ _ (⟨(rd_T46 y316 (x7_2.length : Int)).f0,(rd_T46 y316 (x7_2.length : Int)).f1,(rd_T46 y316 (x7_2.length : Int)).f2,rdOf ByteArray.empty l1 x8_2,(rd_T46 y316 (x7_2.length : Int)).f4⟩ : S46) ) (fun _ hk => hk);have hx31_3:=hcc31 3 _ rfl;(try simp only [show (k46).sz = 5 from rfl,Nat.mul_one,Nat.add_zero] at hx31_3);have hf31_3:=hfr31 3;(try simp only [show (k46).sz = 5 from rfl,Nat.mul_one,Nat.add_zero] at hf31_3);clear hcl31 hcc31 hfr31 hM31)|((with_reducible refine gate_store (t:=9) (p:=65) rfl ?_);refine store_event (t:=9) (p:=65) (v:=?vo_w32) (w1:=(w30.setCell ⟨go28,x7_2.length * 5 + 3,none⟩ (.string (rdOf ByteArray.empty l1 x8_2)))) ?hg ?ho ?hn ?hr ?_;(case ho => rfl);(case hg => rfl);(case hn => rfl);(case hr => first|(go_simp;done)|(go_simp;rfl));intro w32 hw;have hg : w30.grownBy w32 (some go28):=(by rw [hw];exact HP31.2);have hp_ : Kd.R k46 46 w32 w.heap.size (fun _ => True) (.slice (some ⟨go28,0,none⟩) y316.length co28) y320:=(by rw [hw,Ny320.out];exact HP31.1);clear HP31;have n0_:=Aside0.mk (hp_);have n1_:=Aside0.mk ((by rw [hw];exact below_set (HB.out) GB28.out : Below w.heap.size w w32));clear HO318;clear HB;have HO318:=n0_;have HB:=n1_;clear n0_ n1_;clear hg hw hp_))
                 go_roundg kj9
                 case measure => have:=HJ3.out;have:=HK2.out;have:=HJ9.out;omega
                 case rel => exact ⟨(y320),(wrap64 (x8_2 + 1)),(by first|rfl|(simp;done)|(simp;decide +kernel)|(simp [*];done)),(by first|exact H'|(subst_vars;exact H')),⟨by have:=HJ3.out;have:=HK2.out;have:=HJ9.out;omega⟩,⟨by (with_reducible repeat (first|apply Kd.R_alloc|apply Kd.R_drewN|apply Kd.R_drew));exact HO318.out⟩,⟨by repeat (first|(with_reducible first|exact HB.out|apply below_alloc|apply pw_below_drewN|apply below_drew1)|exact HB.out)⟩⟩
                ·rw [if_neg c27] at H
                 exact absurd H (by simp)
               ·rw [if_neg c26] at H
                exact absurd H (by simp)
              ·rw [if_neg c25] at H
               exact absurd H (by simp)
             ·rw [if_neg c24] at H
              have c24b0 : (a0 == 7) = false:=beq_eq_false_iff_ne.mpr c24
              have c24b1 : (a0 != 7) = true:=bne_iff_ne.mpr c24
              have H':=Aside0.mk H
              clear H
              obtain ⟨Ao33,co33,eo33⟩:=Kd.R_slice HO_7.out
              subst eo33
              have p315 : 0 ≤ (x8_2 : Int):=of_decide_eq_true (by first|(with_reducible assumption)|assumption)
              have q315 : x8_2 < (l2.length : Int):=of_decide_eq_true (by first|(with_reducible assumption)|assumption)
              obtain ⟨ad315,A315_0,c315_0,e315,hx315_0,hl315_0,hi315_0⟩:=at_L3 HR2.out x8_2 p315 q315
              cases e315
              replace hx315_0:=(HB.out.cell (World.block_lt_of_cell? w _ hx315_0)).trans hx315_0
              have HR315_0:=Aside0.mk hi315_0
              have HC315_0:=Aside0.mk hl315_0
              clear hi315_0 hl315_0
              replace p315:=eq_true p315
              replace q315:=eq_true q315
              go_wp2_with (first|((with_reducible refine gate_builtin (b:=.append) (xs:=#[.tmp 50,.tmp 54]) rfl ?_);(try (refine gate_guard (by rfl) ?_;dsimp only));at_builtin;refine Kd.R_append_rows k46 (w0:=w) w.heap.size rfl (.tmp 50) (.tmp 54) 22 46 (.agg #[(.int .i64 0),(.int .i64 0),(.int .i64 0),(.string ⟨#[]⟩),(.string ⟨#[]⟩)]) 56 rfl Tryd.underlying22 info46 rfl (by decide) (by omega) (.slice Ao33 x7_2.length co33) x7_2 (rd_L3 l2 x8_2) _ _ _ (fun _ => True) (fun _ => False) rfl rfl ?aO ?aR (fun _ _ h => h) (fun _ h => h.elim) ?aF ?aB ?aS ?aL ?_;(case aR => repeat (first|exact (Kd.C_below HR315_0.out HB.out)|(with_reducible refine Kd.C_alloc ?_ _)|(with_reducible refine Kd.C_drewN ?_ _)|(with_reducible refine Kd.C_drew ?_)));(case aB => exact (by repeat (first|(with_reducible first|exact HB.out|apply below_alloc|apply pw_below_drewN|apply below_drew1)|exact HB.out)));(case aF => exact (fun _ _ => trivial));(case aO => exact (by (with_reducible repeat (first|apply Kd.R_alloc|apply Kd.R_drewN|apply Kd.R_drew));exact HO_7.out));(case aS => exact (below_size (by repeat (first|(with_reducible first|exact HB.out|apply below_alloc|apply pw_below_drewN|apply below_drew1)|exact HB.out))));(case aL => have:=LMc23.out;omega);intro v317 w34 ho hb hg hat;rw [← Ny316.out] at ho;have n0_:=Aside0.mk (hb);have n1_:=Aside0.mk (ho);clear HB;clear HO_7;have HB:=n0_;have HO318:=n1_;clear n0_ n1_;clear ho hb hg hat))
              go_roundg kj9
              case measure => have:=HJ3.out;have:=HK2.out;have:=HJ9.out;omega
              case rel => exact ⟨(y316),(wrap64 (x8_2 + 1)),(by first|rfl|(simp;done)|(simp;decide +kernel)|(simp [*];done)),(by first|exact H'|(subst_vars;exact H')),⟨by have:=HJ3.out;have:=HK2.out;have:=HJ9.out;omega⟩,⟨by (with_reducible repeat (first|apply Kd.R_alloc|apply Kd.R_drewN|apply Kd.R_drew));exact HO318.out⟩,⟨by repeat (first|(with_reducible first|exact HB.out|apply below_alloc|apply pw_below_drewN|apply below_drew1)|exact HB.out)⟩⟩
            ·rw [if_neg c23] at H
             exact absurd H (by simp)
           ·rw [if_neg c22] at H
            exact absurd H (by simp)
          ·rw [if_neg c21] at H
           exact absurd H (by simp)
      ·rw [if_neg c9] at H
       have c9b0 : decide (x8_2 < (l2.length : Int)) = false:=decide_eq_false c9
       clear c9
       by_cases c35 : 0 < (x7_2.length : Int)
       ·rw [if_pos c35] at H
        have c35b0 : decide (0 < (x7_2.length : Int)) = true:=decide_eq_true c35
        have c35b1 : decide (0 < x7_2.length) = true:=decide_eq_true (by omega)
        clear c35
        obtain ⟨y310,hy310⟩ : ∃ y_ : List (S46),y_ = (x7_2.set (0 : Int).toNat (⟨(rd_T46 x7_2 0).f0,(x7_2.length : Int),(rd_T46 x7_2 0).f2,(rd_T46 x7_2 0).f3,(rd_T46 x7_2 0).f4⟩ : S46)):=⟨_,rfl⟩
        replace H : (some y310) = some r:=by first|(rw [hy310];with_reducible exact H)|(have H2_:=(Option.bind_some _ _).symm.trans H;rw [hy310];with_reducible exact H2_)|(have H2_:=(Option.bind_some _ _).symm.trans H;with_reducible exact H2_)|with_reducible exact H|(rw [hy310];exact H)|exact H
        have Ny310:=Aside0.mk hy310
        clear hy310
        obtain rfl:=Option.some.inj H
        obtain ⟨Ao37,co37,eo37⟩:=Kd.R_slice HO_7.out
        subst eo37
        have p36 : 0 ≤ (0 : Int):=(by omega)
        have q36 : (0 : Int) < ((x7_2.length : Int) : Int):=of_decide_eq_true (by first|(with_reducible assumption)|assumption)
        have qi36 : (0 < x7_2.length) = True:=eq_true (by omega)
        obtain ⟨go36,co36,eo36,gb36,gl36,cl36,HG36⟩:=Kd.R_form HO_7.out (by omega)
        (first|cases eo36|(injection eo36 with ea_ en_ ec_;(first|subst ea_|(injection ea_ with ea_;subst ea_));subst ec_;clear en_))
        have GB36:=Aside0.mk gb36
        have GG36:=Aside0.mk HG36
        clear gb36 gl36 HG36
        obtain ⟨ce36,hcl36,hM36,hcc36,hfr36⟩:=Kd.R_elem HO_7.out z46 (0 : Int) p36 q36
        obtain rfl:=k46_openM hM36
        have hx36_0 : wr.cell? ⟨go36,(0 : Int).toNat * 5,none⟩ = some (.int .i64 ((rd_T46 x7_2 0).f0)):=hcc36 0 _ rfl
        have hx36_1 : wr.cell? ⟨go36,(0 : Int).toNat * 5 + 1,none⟩ = some (.int .i64 ((rd_T46 x7_2 0).f1)):=hcc36 1 _ rfl
        have hx36_2 : wr.cell? ⟨go36,(0 : Int).toNat * 5 + 2,none⟩ = some (.int .i64 ((rd_T46 x7_2 0).f2)):=hcc36 2 _ rfl
        have hx36_3 : wr.cell? ⟨go36,(0 : Int).toNat * 5 + 3,none⟩ = some (.string ((rd_T46 x7_2 0).f3)):=hcc36 3 _ rfl
        have hx36_4 : wr.cell? ⟨go36,(0 : Int).toNat * 5 + 4,none⟩ = some (.string ((rd_T46 x7_2 0).f4)):=hcc36 4 _ rfl
        have hf36_0 : wr.frozen? ⟨go36,(0 : Int).toNat * 5,none⟩ = false:=hfr36 0
        have hf36_1 : wr.frozen? ⟨go36,(0 : Int).toNat * 5 + 1,none⟩ = false:=hfr36 1
        have hf36_2 : wr.frozen? ⟨go36,(0 : Int).toNat * 5 + 2,none⟩ = false:=hfr36 2
        have hf36_3 : wr.frozen? ⟨go36,(0 : Int).toNat * 5 + 3,none⟩ = false:=hfr36 3
        have hf36_4 : wr.frozen? ⟨go36,(0 : Int).toNat * 5 + 4,none⟩ = false:=hfr36 4
        clear hcl36 hcc36 hfr36 hM36
        (try rw [show ((0 : Int)).toNat = 0 from rfl] at hx36_0)
        (try simp only [Nat.reduceMul,Nat.zero_mul,Nat.zero_add,Nat.reduceAdd] at hx36_0)
        (try rw [show ((0 : Int)).toNat = 0 from rfl] at hf36_0)
        (try simp only [Nat.reduceMul,Nat.zero_mul,Nat.zero_add,Nat.reduceAdd] at hf36_0)
        (try rw [show ((0 : Int)).toNat = 0 from rfl] at hx36_1)
        (try simp only [Nat.reduceMul,Nat.zero_mul,Nat.zero_add,Nat.reduceAdd] at hx36_1)
        (try rw [show ((0 : Int)).toNat = 0 from rfl] at hf36_1)
        (try simp only [Nat.reduceMul,Nat.zero_mul,Nat.zero_add,Nat.reduceAdd] at hf36_1)
        (try rw [show ((0 : Int)).toNat = 0 from rfl] at hx36_2)
        (try simp only [Nat.reduceMul,Nat.zero_mul,Nat.zero_add,Nat.reduceAdd] at hx36_2)
        (try rw [show ((0 : Int)).toNat = 0 from rfl] at hf36_2)
        (try simp only [Nat.reduceMul,Nat.zero_mul,Nat.zero_add,Nat.reduceAdd] at hf36_2)
        (try rw [show ((0 : Int)).toNat = 0 from rfl] at hx36_3)
        (try simp only [Nat.reduceMul,Nat.zero_mul,Nat.zero_add,Nat.reduceAdd] at hx36_3)
        (try rw [show ((0 : Int)).toNat = 0 from rfl] at hf36_3)
        (try simp only [Nat.reduceMul,Nat.zero_mul,Nat.zero_add,Nat.reduceAdd] at hf36_3)
        (try rw [show ((0 : Int)).toNat = 0 from rfl] at hx36_4)
        (try simp only [Nat.reduceMul,Nat.zero_mul,Nat.zero_add,Nat.reduceAdd] at hx36_4)
        (try rw [show ((0 : Int)).toNat = 0 from rfl] at hf36_4)
        (try simp only [Nat.reduceMul,Nat.zero_mul,Nat.zero_add,Nat.reduceAdd] at hf36_4)
        replace p36:=eq_true p36
        replace q36:=eq_true q36
        have HX38:=Aside0.mk (show Kd.R k46 46 wr w.heap.size (fun _ => True) (.slice (some ⟨go36,0,none⟩) x7_2.length co37) x7_2 from (by (with_reducible repeat (first|apply Kd.R_alloc|apply Kd.R_drewN|apply Kd.R_drew));exact HO_7.out))
        obtain ⟨ce38,hcl38,hM38,hcc38,hfr38⟩:=Kd.R_elem HX38.out z46 (0 : Int) (by omega) (by have h_ : (0 : Int) < ((x7_2.length : Int) : Int):=of_decide_eq_true (by first|(with_reducible assumption)|assumption);first|exact h_|(have e_:=(Kd.R_reads' HO_7.out).1;omega)|simpa using h_)
        obtain rfl:=k46_openM hM38
        have HP38:=Kd.R_seg HX38.out (0 : Int) (by omega) (by have h_ : (0 : Int) < ((x7_2.length : Int) : Int):=of_decide_eq_true (by first|(with_reducible assumption)|assumption);first|exact h_|(have e_:=(Kd.R_reads' HO_7.out).1;omega)|simpa using h_) (seg:=[.int .i64 (x7_2.length : Int)]) (j:=1) hcl38 hcc38 (show 2 ≤ 5 from by decide) (x':=(⟨(rd_T46 x7_2 0).f0,(x7_2.length : Int),(rd_T46 x7_2 0).f2,(rd_T46 x7_2 0).f3,(rd_T46 x7_2 0).f4⟩ : S46)) (k46_mkM _ _ _ (⟨(rd_T46 x7_2 0).f0,(x7_2.length : Int),(rd_T46 x7_2 0).f2,(rd_T46 x7_2 0).f3,(rd_T46 x7_2 0).f4⟩ : S46) ) (fun _ hk => hk)
        have hx38_1:=hcc38 1 _ rfl
        (try simp only [show (k46).sz = 5 from rfl,Nat.mul_one,Nat.add_zero] at hx38_1)
        (try rw [show ((0 : Int)).toNat = 0 from rfl] at hx38_1)
        (try simp only [Nat.reduceMul,Nat.zero_mul,Nat.zero_add,Nat.reduceAdd] at hx38_1)
        have hf38_1:=hfr38 1
        (try simp only [show (k46).sz = 5 from rfl,Nat.mul_one,Nat.add_zero] at hf38_1)
        (try rw [show ((0 : Int)).toNat = 0 from rfl] at hf38_1)
        (try simp only [Nat.reduceMul,Nat.zero_mul,Nat.zero_add,Nat.reduceAdd] at hf38_1)
        clear hcl38 hcc38 hfr38 hM38
        go_wp2_with (first|((with_reducible refine gate_store (t:=3) (p:=70) rfl ?_);refine store_event (t:=3) (p:=70) (v:=?vo_w39) (w1:=(wr.setCell ⟨go36,1,none⟩ (.int .i64 (x7_2.length : Int)))) ?hg ?ho ?hn ?hr ?_;(case ho => rfl);(case hg => rfl);(case hn => rfl);(case hr => first|(go_simp;done)|(go_simp;rfl));intro w39 hw;have hg : wr.grownBy w39 (some go36):=(by rw [hw];exact HP38.2);have hp_ : Kd.R k46 46 w39 w.heap.size (fun _ => True) (.slice (some ⟨go36,0,none⟩) x7_2.length co37) y310:=(by rw [hw,Ny310.out];exact HP38.1);clear HP38;have n0_:=Aside0.mk (hp_);have n1_:=Aside0.mk ((by rw [hw];exact below_set (HB.out) GB36.out : Below w.heap.size w w39));clear HO_7;clear HB;have HO_7:=n0_;have HB:=n1_;clear n0_ n1_;clear hg hw hp_))
        go_ret
        exact ⟨_,by first|rfl|(simp [errW_none,errW_some] <;> rfl)|(simp [*,errW_none,errW_some] <;> rfl),by (with_reducible repeat (first|apply Kd.R_alloc|apply Kd.R_drewN|apply Kd.R_drew));exact HO_7.out,by repeat (first|(with_reducible first|exact HB.out|apply below_alloc|apply pw_below_drewN|apply below_drew1)|exact HB.out)⟩
       ·rw [if_neg c35] at H
        exact absurd H (by simp)
end Go.Proofs.YtadfkeipcebmfaaDoor.X
namespace Go.Proofs.YtadfkeipcebmfaaDoor.X
open Go.RowKit Go.Proofs.YtadfkeipcebmfaaDoorW.PrintWords Go.Proofs.YtadfkeipcebmfaaDoorW.PrintLast Go.Proofs.YtadfkeipcebmfaaDoorW.PrintMore
attribute [local go_sem] max2_int min2_int max_two min_two max_three min_three max_four min_four
set_option linter.unusedVariables false
set_option linter.unusedSimpArgs false
def jsontext_Object.f (k : Nat) (l0 : List ByteArray) (l1 : List (List (S46))) : Option ((List (S46))):=if (l0.length : Int) = (l1.length : Int) then ((jsontext_made.f k 7 l0 l1).bind fun t321 => (some t321)) else (some ([] : List (S46)))
set_option maxHeartbeats 8000000 in
set_option maxRecDepth 100000 in
theorem jsontext_Object.calls (k : Nat) (A0 : Option Addr) (c0 : Nat) (l0 : List ByteArray) (A1 : Option Addr) (c1 : Nat) (l1 : List (List (S46))) (r : List (S46)) (w : World) (hGU8 : GlobU8 w) (hr0 : Kd.C Kd.string w A0 l0.length l0) (hc0 : l0.length ≤ c0) (hr1 : Kd.C (Kd.slice 46 k46) w A1 l1.length l1) (hc1 : l1.length ≤ c1) (h : jsontext_Object.f k l0 l1 = some r) :
  Calls Tryd.prog 20 #[.slice A0 l0.length c0,.slice A1 l1.length c1] w fun e w' => ∃ v0_ : Value,e = .returned (v0_) ∧ Kd.R k46 46 w' w.heap.size (fun _ => True) v0_ r ∧ Below w.heap.size w w':=by
 have HGU8:=Aside0.mk hGU8
 clear hGU8
 have HR0:=Aside0.mk hr0
 have HC0:=Aside0.mk hc0
 clear hr0 hc0
 have HR1:=Aside0.mk hr1
 have HC1:=Aside0.mk hc1
 clear hr1 hc1
 have HB:=Aside0.mk (Below.refl w.heap.size w)
 have H : (if (l0.length : Int) = (l1.length : Int) then ((jsontext_made.f k 7 l0 l1).bind fun t321 => (some t321)) else (some ([] : List (S46)))) = some r:=h
 clear h
 by_cases c3 : (l0.length : Int) = (l1.length : Int)
 ·rw [if_pos c3] at H
  have c3b0 : ((l0.length : Int) == (l1.length : Int)) = true:=beq_iff_eq.mpr c3
  have c3b1 : ((l0.length : Int) != (l1.length : Int)) = false:=bne_eq_false_iff_eq.mpr c3
  have c3b2 : (l0.length == l1.length) = true:=by first|simpa using c3|(simp at c3 ⊢;omega)
  clear c3
  replace H:=Option.bind_eq_some_iff.mp H
  obtain ⟨t321,A40,H⟩:=H
  replace H : (some t321) = some r:=H
  have A4:=Aside0.mk A40
  clear A40
  obtain rfl:=Option.some.inj H
  go_enter Tryd.func20,Tryd.ntmps20
  go_wp2_with (first|((with_reducible refine gate_callee (f:=40) rfl ?_);refine goesL_ (some 12) rfl rfl Tryd.func40 (by kernel_rfl) rfl #[.int .i64 7,.slice A0 l0.length c0,.slice A1 l1.length c1] rfl (by (try simp only [List.map_toArray,List.map_cons,List.map_nil]);first|done|rfl|(simp only [List.length_drop,List.length_take];rfl)) ?_;(with_reducible refine (jsontext_made.calls k 7 _ _ l0 _ _ l1 t321 _ ?side5 ?side1 ?side2 ?side3 ?side4 A4.out).mono ?_);(case side1 => repeat (first|exact HR0.out|(with_reducible refine Kd.C_alloc ?_ _)|(with_reducible refine Kd.C_drewN ?_ _)|(with_reducible refine Kd.C_drew ?_)));(case side2 => exact HC0.out);(case side3 => repeat (first|exact HR1.out|(with_reducible refine Kd.C_alloc ?_ _)|(with_reducible refine Kd.C_drewN ?_ _)|(with_reducible refine Kd.C_drew ?_)));(case side4 => exact HC1.out);(case side5 => first|exact HGU8.out|exact GlobU8.below HGU8.out (by repeat (first|(with_reducible first|exact HB.out|apply below_alloc|apply pw_below_drewN|apply below_drew1)|exact HB.out))|exact GlobU8.drawn HGU8.out (by repeat (first|exact Drawn0.refl _|apply Drawn0.step)));rintro e w5 ⟨v322,rfl,ho0,hb⟩;refine ⟨_,rfl,?_⟩;have n0_:=Aside0.mk (Kd.R_lower ho0 (below_size (by repeat (first|(with_reducible first|exact HB.out|apply below_alloc|apply pw_below_drewN|apply below_drew1)|exact HB.out))));have n1_:=Aside0.mk (below_step (by repeat (first|(with_reducible first|exact HB.out|apply below_alloc|apply pw_below_drewN|apply below_drew1)|exact HB.out)) hb);clear HB;have HO323:=n0_;have HB:=n1_;clear n0_ n1_;(try clear hb);(try clear hb2);(try clear hk);(try clear hi);(try clear ho0)))
  go_ret
  exact ⟨_,by first|rfl|(simp [errW_none,errW_some] <;> rfl)|(simp [*,errW_none,errW_some] <;> rfl),by (with_reducible repeat (first|apply Kd.R_alloc|apply Kd.R_drewN|apply Kd.R_drew));exact HO323.out,by repeat (first|(with_reducible first|exact HB.out|apply below_alloc|apply pw_below_drewN|apply below_drew1)|exact HB.out)⟩
 ·rw [if_neg c3] at H
  have c3b0 : ((l0.length : Int) == (l1.length : Int)) = false:=beq_eq_false_iff_ne.mpr c3
  have c3b1 : ((l0.length : Int) != (l1.length : Int)) = true:=bne_iff_ne.mpr c3
  have c3b2 : (l0.length == l1.length) = false:=by first|simpa using c3|(simp at c3 ⊢;omega)
  obtain rfl:=Option.some.inj H
  go_enter Tryd.func20,Tryd.ntmps20
  go_wp2
  go_ret
  exact ⟨_,by first|rfl|(simp [errW_none,errW_some] <;> rfl)|(simp [*,errW_none,errW_some] <;> rfl),by first|exact Kd.R_nil _ _ _ _ _|exact Kd.N_nil _ _ _ _ _|exact Kd.V_nil _ _ _ _ _|exact Kd.Q_nil _ _ _ _ _|exact Kd.S_nil _ _ _ _ _,by repeat (first|(with_reducible first|exact HB.out|apply below_alloc|apply pw_below_drewN|apply below_drew1)|exact HB.out)⟩
end Go.Proofs.YtadfkeipcebmfaaDoor.X
namespace Go.Proofs.YtadfkeipcebmfaaDoor.X
open Go.RowKit Go.Proofs.YtadfkeipcebmfaaDoorW.PrintWords Go.Proofs.YtadfkeipcebmfaaDoorW.PrintLast Go.Proofs.YtadfkeipcebmfaaDoorW.PrintMore
attribute [local go_sem] max2_int min2_int max_two min_two max_three min_three max_four min_four
set_option linter.unusedVariables false
set_option linter.unusedSimpArgs false
mutual
def racewaylaw25_JsontextMakes.j1 : Nat → List (S46) → List (S46) → List ByteArray → Option (Bool)
 | 0,_,_,_ => none
 | k + 1,x0,x1,x7 => (jsontext_List.f k (([x0,x1] : List (List (S46))))).bind fun t242 => ((racewayref25_Made.f k 6 ([] : List ByteArray) (([x0,x1] : List (List (S46))))).bind fun t248 => ((racewayref25_Same.f k t242 t248).bind fun t251 => (if t251 = true then ((jsontext_Object.f k x7 (([x0,x1] : List (List (S46))))).bind fun t255 => ((racewayref25_Made.f k 7 x7 (([x0,x1] : List (List (S46))))).bind fun t261 => ((racewayref25_Same.f k t255 t261).bind fun t264 => (racewaylaw25_JsontextMakes.j2 k x0 (!t264))))) else (racewaylaw25_JsontextMakes.j2 k x0 true))))
def racewaylaw25_JsontextMakes.j2 : Nat → List (S46) → Bool → Option (Bool)
 | 0,_,_ => none
 | k + 1,x0,x64 => if x64 = true then (some false) else (racewaylaw25_JsontextMakes.l1 k x0 (x0.length : Int) 0)
def racewaylaw25_JsontextMakes.l1 : Nat → List (S46) → Int → Int → Option (Bool)
 | 0,_,_,_ => none
 | k + 1,x65,x66,x67 => if x67 < x66 then (if 0 ≤ x67 then (if x67 < (x65.length : Int) then ((jsontext_Leaf.f k ((rd_T46 x65 x67).f0) ((rd_T46 x65 x67).f4)).bind fun t268 => ((some (([(⟨(rd_T46 x65 x67).f0,1,0,(⟨#[]⟩ : ByteArray),(rd_T46 x65 x67).f4⟩ : S46)] : List (S46)) : List (S46))).bind fun y271 => (if ((rd_T46 x65 x67).f0) ≥ 6 then (racewaylaw25_JsontextMakes.j4 k t268 y271 x65 x66 x67 true) else ((racewayref25_Check.f k y271).bind fun t274 => (racewaylaw25_JsontextMakes.j4 k t268 y271 x65 x66 x67 (t274 != 0)))))) else (none)) else (none)) else ((racewaylaw25_works.f).bind fun t265 => (some t265))
def racewaylaw25_JsontextMakes.j4 : Nat → List (S46) → List (S46) → List (S46) → Int → Int → Bool → Option (Bool)
 | 0,_,_,_,_,_,_ => none
 | k + 1,x11,x12,x65,x66,x67,x89 => if x89 = true then ((racewayref25_Same.f k x11 ([] : List (S46))).bind fun t275 => (if t275 = true then (racewaylaw25_JsontextMakes.l1 k x65 x66 (wrap64 (x67 + 1))) else (some false))) else ((racewayref25_Same.f k x11 x12).bind fun t276 => (if t276 = true then (racewaylaw25_JsontextMakes.l1 k x65 x66 (wrap64 (x67 + 1))) else (some false)))
def racewaylaw25_JsontextMakes.l0 : Nat → List (S46) → List (S46) → List ByteArray → List ByteArray → Int → Option (Bool)
 | 0,_,_,_,_,_ => none
 | k + 1,x0,x1,x2,x7,x8 => if x8 < (x2.length : Int) then (if x8 < 3 then (if 0 ≤ x8 then (if 0 ≤ (mn ((rdOf ByteArray.empty x2 x8).size : Int) 100) then (if (mn ((rdOf ByteArray.empty x2 x8).size : Int) 100) ≤ ((rdOf ByteArray.empty x2 x8).size : Int) then (if x7.length < 8796093022208 then (racewaylaw25_JsontextMakes.l0 k x0 x1 x2 (x7 ++ [(rdOf ByteArray.empty x2 x8).extract 0 ((mn ((rdOf ByteArray.empty x2 x8).size : Int) 100) : Int).toNat]) (wrap64 (x8 + 1))) else (none)) else (none)) else (none)) else (none)) else (racewaylaw25_JsontextMakes.j1 k x0 x1 x7)) else (racewaylaw25_JsontextMakes.j1 k x0 x1 x7)
end
def racewaylaw25_JsontextMakes.f (k : Nat) (l0 : List (S46)) (l1 : List (S46)) (l2 : List ByteArray) : Option (Bool):=(racewaylaw25_few.f k l0).bind fun t228 => ((racewaylaw25_few.f k l1).bind fun t231 => (racewaylaw25_JsontextMakes.l0 k t228 t231 l2 ([] : List ByteArray) 0))
def racewaylaw25_JsontextMakes.T6 : Bool × List (List Nat × List Nat):=(true,[([],[]),([],[]),([],[]),([1,2],[1,2]),([3],[3]),([],[]),([],[]),([5,6],[5,6]),([7],[7]),([8],[8]),([9],[9]),([4,10],[4,10]),([11],[11]),([0,12],[0,12]),([13,13,0,1,2,3,4,5,6,7,8,9,10,11,12,13],[0,13])])
def racewaylaw25_JsontextMakes.B6 : List Nat:=[0,0,0,6,14,0,0,96,224,480,992,2046,4094,8191,16383]
theorem racewaylaw25_JsontextMakes.tab6 : rtab .any (opsOf Tryd.f7 6) = racewaylaw25_JsontextMakes.T6:=by kernel_rfl
theorem racewaylaw25_JsontextMakes.bits6 : waitsOk racewaylaw25_JsontextMakes.T6.2 racewaylaw25_JsontextMakes.B6 = true:=by kernel_rfl
set_option maxHeartbeats 8000000 in
set_option maxRecDepth 100000 in
theorem racewaylaw25_JsontextMakes.calls (k : Nat) (A0 : Option Addr) (c0 : Nat) (l0 : List (S46)) (A1 : Option Addr) (c1 : Nat) (l1 : List (S46)) (A2 : Option Addr) (c2 : Nat) (l2 : List ByteArray) (r : Bool) (w : World) (hGU8 : GlobU8 w) (hr0 : Kd.C k46 w A0 l0.length l0) (hc0 : l0.length ≤ c0) (hr1 : Kd.C k46 w A1 l1.length l1) (hc1 : l1.length ≤ c1) (hr2 : Kd.C Kd.string w A2 l2.length l2) (hc2 : l2.length ≤ c2) (h : racewaylaw25_JsontextMakes.f k l0 l1 l2 = some r) :
  Calls Tryd.prog 7 #[.slice A0 l0.length c0,.slice A1 l1.length c1,.slice A2 l2.length c2] w fun e w' => e = .returned (.bool r) ∧ Below w.heap.size w w':=by
 have hu46:=Tryd.underlying46
 have HGU8:=Aside0.mk hGU8
 clear hGU8
 have HR0:=Aside0.mk hr0
 have HC0:=Aside0.mk hc0
 clear hr0 hc0
 have HR1:=Aside0.mk hr1
 have HC1:=Aside0.mk hc1
 clear hr1 hc1
 have HR2:=Aside0.mk hr2
 have HC2:=Aside0.mk hc2
 clear hr2 hc2
 have HB:=Aside0.mk (Below.refl w.heap.size w)
 have H : ((racewaylaw25_few.f k l0).bind fun t228 => ((racewaylaw25_few.f k l1).bind fun t231 => (racewaylaw25_JsontextMakes.l0 k t228 t231 l2 ([] : List ByteArray) 0))) = some r:=h
 clear h
 replace H:=Option.bind_eq_some_iff.mp H
 obtain ⟨t228,A40,H⟩:=H
 replace H : ((racewaylaw25_few.f k l1).bind fun t231 => (racewaylaw25_JsontextMakes.l0 k t228 t231 l2 ([] : List ByteArray) 0)) = some r:=H
 have A4:=Aside0.mk A40
 clear A40
 replace H:=Option.bind_eq_some_iff.mp H
 obtain ⟨t231,A50,H⟩:=H
 replace H : (racewaylaw25_JsontextMakes.l0 k t228 t231 l2 ([] : List ByteArray) 0) = some r:=H
 have A5:=Aside0.mk A50
 clear A50
 have HC6:=Aside0.mk H
 clear H
 go_enter Tryd.func7,Tryd.ntmps7
 go_upto_block 0 with (first|((with_reducible refine gate_callee (f:=14) rfl ?_);refine goesL_ (some 14) rfl rfl Tryd.func14 (by kernel_rfl) rfl #[.slice A0 l0.length c0] rfl (by (try simp only [List.map_toArray,List.map_cons,List.map_nil]);first|done|rfl|(simp only [List.length_drop,List.length_take];rfl)) ?_;(with_reducible refine (racewaylaw25_few.calls k _ _ l0 t228 _ ?side1 ?side2 A4.out).mono ?_);(case side1 => repeat (first|exact HR0.out|(with_reducible refine Kd.C_alloc ?_ _)|(with_reducible refine Kd.C_drewN ?_ _)|(with_reducible refine Kd.C_drew ?_)));(case side2 => exact HC0.out);rintro e w7 ⟨v229,rfl,ho0,hb⟩;refine ⟨_,rfl,?_⟩;have n0_:=Aside0.mk (Kd.R_lower ho0 (below_size (by repeat (first|(with_reducible first|exact HB.out|apply below_alloc|apply pw_below_drewN|apply below_drew1)|exact HB.out))));have n1_:=Aside0.mk (below_step (by repeat (first|(with_reducible first|exact HB.out|apply below_alloc|apply pw_below_drewN|apply below_drew1)|exact HB.out)) hb);clear HB;have HO230:=n0_;have HB:=n1_;clear n0_ n1_;(try clear hb);(try clear hb2);(try clear hk);(try clear hi);(try clear ho0))|((with_reducible refine gate_callee (f:=14) rfl ?_);refine goesL_ (some 16) rfl rfl Tryd.func14 (by kernel_rfl) rfl #[.slice A1 l1.length c1] rfl (by (try simp only [List.map_toArray,List.map_cons,List.map_nil]);first|done|rfl|(simp only [List.length_drop,List.length_take];rfl)) ?_;(with_reducible refine (racewaylaw25_few.calls k _ _ l1 t231 _ ?side1 ?side2 A5.out).mono ?_);(case side1 => repeat (first|exact (Kd.C_below HR1.out HB.out)|(with_reducible refine Kd.C_alloc ?_ _)|(with_reducible refine Kd.C_drewN ?_ _)|(with_reducible refine Kd.C_drew ?_)));(case side2 => exact HC1.out);rintro e w8 ⟨v232,rfl,ho0,hb⟩;refine ⟨_,rfl,?_⟩;have n0_:=Aside0.mk (Kd.R_elder' (by (with_reducible repeat (first|apply Kd.R_alloc|apply Kd.R_drewN|apply Kd.R_drew));exact HO230.out) (Kd.R_base ho0) hb);have n1_:=Aside0.mk (Kd.R_lower (Kd.R_new' ho0 (Kd.R_lt (by (with_reducible repeat (first|apply Kd.R_alloc|apply Kd.R_drewN|apply Kd.R_drew));exact HO230.out))) (below_size (by repeat (first|(with_reducible first|exact HB.out|apply below_alloc|apply pw_below_drewN|apply below_drew1)|exact HB.out))));have n2_:=Aside0.mk (below_step (by repeat (first|(with_reducible first|exact HB.out|apply below_alloc|apply pw_below_drewN|apply below_drew1)|exact HB.out)) hb);clear HO230;clear HB;have HO230:=n0_;have HO233:=n1_;have HB:=n2_;clear n0_ n1_ n2_;(try clear hb);(try clear hb2);(try clear hk);(try clear hi);(try clear ho0)))
 (try simp only [Act.put,List.setIfInBounds_toArray,List.set_cons_zero,List.set_cons_succ])
 go_cut [7] (fun v7 wc => ∃ (kq : Nat) (x7_5 : List ByteArray),Aside0 (racewaylaw25_JsontextMakes.j1 kq t228 t231 x7_5 = some r) ∧ Aside0 (kq ≤ k) ∧ Aside0 (Kd.R k46 46 wc w.heap.size (fun k_ => some k_ ≠ (v232 : Value).ownBlock) v229 t228) ∧ Aside0 (Kd.R k46 46 wc w.heap.size (fun k_ => some k_ ≠ (v229 : Value).ownBlock) v232 t231) ∧ Aside0 (Kd.R Kd.string 9 wc w.heap.size (fun _ => True) v7 x7_5) ∧ Aside0 (Below w.heap.size w wc))
 case first =>
  have H:=HC6.out
  clear HC6
  have H':=Aside0.mk H
  clear H
  go_wp2
  go_loopg [7,8] k (fun kq v7 v8 w' => ∃ (x7_1 : List ByteArray) (x8_1 : Int),v8 = .int .i64 x8_1 ∧ Aside0 (racewaylaw25_JsontextMakes.l0 kq t228 t231 l2 x7_1 x8_1 = some r) ∧ Aside0 (kq ≤ k) ∧ Aside0 (Kd.R k46 46 w' w.heap.size (fun k_ => some k_ ≠ (v232 : Value).ownBlock) v229 t228) ∧ Aside0 (Kd.R k46 46 w' w.heap.size (fun k_ => some k_ ≠ (v229 : Value).ownBlock) v232 t231) ∧ Aside0 (Kd.R Kd.string 9 w' w.heap.size (fun _ => True) v7 x7_1) ∧ Aside0 (Below w.heap.size w w'))
  case atStart => exact ⟨(([] : List ByteArray)),(0),(by first|rfl|(simp;done)|(simp;decide +kernel)|(simp [*];done)),(by first|exact H'|(subst_vars;exact H')),⟨Nat.le_refl _⟩,⟨by (with_reducible repeat (first|apply Kd.R_alloc|apply Kd.R_drewN|apply Kd.R_drew));exact Kd.R_mono HO230.out (fun _ hk => hk.2)⟩,⟨by (with_reducible repeat (first|apply Kd.R_alloc|apply Kd.R_drewN|apply Kd.R_drew));exact Kd.R_mono HO233.out (fun _ hk => hk.2)⟩,⟨by first|exact Kd.R_nil _ _ _ _ _|exact Kd.N_nil _ _ _ _ _|exact Kd.V_nil _ _ _ _ _|exact Kd.Q_nil _ _ _ _ _|exact Kd.S_nil _ _ _ _ _⟩,⟨by repeat (first|(with_reducible first|exact HB.out|apply below_alloc|apply pw_below_drewN|apply below_drew1)|exact HB.out)⟩⟩
  case round =>
   clear H'
   try clear c1
   try clear c2
   try clear p2
   try clear c7
   obtain ⟨x7_1,x8_1,rfl,HA,HK1,HO_0,HO_1,HO_7,HB⟩:=hrel
   cases gk with
   | zero => exact absurd HA.out (by simp [racewaylaw25_JsontextMakes.l0])
   | succ k1 =>
    have H:=HA.out
    clear HA
    simp only [racewaylaw25_JsontextMakes.l0] at H
    by_cases c9 : x8_1 < (l2.length : Int)
    ·rw [if_pos c9] at H
     have c9b0 : decide (x8_1 < (l2.length : Int)) = true:=decide_eq_true c9
     clear c9
     (first|rw [c9b0]|(simp only [i64_w,i32_w];rw [c9b0])|skip)
     by_cases c10 : x8_1 < 3
     ·rw [if_pos c10] at H
      have c10b0 : decide (x8_1 < 3) = true:=decide_eq_true c10
      clear c10
      by_cases c11 : 0 ≤ x8_1
      ·rw [if_pos c11] at H
       have c11b0 : decide (0 ≤ x8_1) = true:=decide_eq_true c11
       clear c11
       obtain ⟨ji12,hji12⟩ : ∃ j_ : Int,(mn ((rdOf ByteArray.empty l2 x8_1).size : Int) 100) = j_:=⟨_,rfl⟩
       replace H : (if 0 ≤ (ji12) then (if (ji12) ≤ ((rdOf ByteArray.empty l2 x8_1).size : Int) then (if x7_1.length < 8796093022208 then (racewaylaw25_JsontextMakes.l0 k1 t228 t231 l2 (x7_1 ++ [(rdOf ByteArray.empty l2 x8_1).extract 0 ((ji12) : Int).toNat]) (wrap64 (x8_1 + 1))) else (none)) else (none)) else (none)) = some r:=by first|(rw [hji12] at H;exact H)|(simp only [hji12] at H ⊢;exact H)
       have hji12_ : (if 100 < ((rdOf ByteArray.empty l2 x8_1).size : Int) then 100 else ((rdOf ByteArray.empty l2 x8_1).size : Int)) = ji12:=hji12
       by_cases c13 : 0 ≤ (ji12)
       ·rw [if_pos c13] at H
        have c13b0:=eq_true c13
        have c13b1 : decide (0 ≤ (ji12)) = true:=decide_eq_true c13
        clear c13
        by_cases c14 : (ji12) ≤ ((rdOf ByteArray.empty l2 x8_1).size : Int)
        ·rw [if_pos c14] at H
         have c14b0:=eq_true c14
         have c14b1 : decide ((ji12) ≤ ((rdOf ByteArray.empty l2 x8_1).size : Int)) = true:=decide_eq_true c14
         clear c14
         by_cases c15 : x7_1.length < 8796093022208
         ·rw [if_pos c15] at H
          have LMc15:=Aside0.mk c15
          clear c15
          obtain ⟨y236,hy236⟩ : ∃ y_ : List ByteArray,y_ = (x7_1 ++ [(rdOf ByteArray.empty l2 x8_1).extract 0 ((ji12) : Int).toNat]):=⟨_,rfl⟩
          replace H : (racewaylaw25_JsontextMakes.l0 k1 t228 t231 l2 y236 (wrap64 (x8_1 + 1))) = some r:=by first|(rw [hy236];with_reducible exact H)|(have H2_:=(Option.bind_some _ _).symm.trans H;rw [hy236];with_reducible exact H2_)|(have H2_:=(Option.bind_some _ _).symm.trans H;with_reducible exact H2_)|with_reducible exact H|(rw [hy236];exact H)|exact H
          have Ny236:=Aside0.mk hy236
          clear hy236
          have H':=Aside0.mk H
          clear H
          try go_wp2
          have n0_:=Aside0.mk (Kd.R_drew HO_0.out)
          have n1_:=Aside0.mk (Kd.R_drew HO_1.out)
          have n2_:=Aside0.mk (Kd.R_drew HO_7.out)
          have n3_:=Aside0.mk (below_drew1 HB.out)
          clear HO_0
          clear HO_1
          clear HO_7
          clear HB
          have HO_0:=n0_
          have HO_1:=n1_
          have HO_7:=n2_
          have HB:=n3_
          clear n0_ n1_ n2_ n3_
          have p234 : 0 ≤ (x8_1 : Int):=of_decide_eq_true (by first|(with_reducible assumption)|assumption)
          have q234 : x8_1 < (l2.length : Int):=of_decide_eq_true (by first|(with_reducible assumption)|assumption)
          obtain ⟨ad234,e234,hx234_0⟩:=Kd.at_string HR2.out x8_1 p234 q234
          have hw234_0:=hx234_0
          cases e234
          replace hx234_0:=(HB.out.cell (World.block_lt_of_cell? w _ hx234_0)).trans hx234_0
          replace p234:=eq_true p234
          replace q234:=eq_true q234
          have p235 : 0 ≤ (x8_1 : Int):=of_decide_eq_true (by first|(with_reducible assumption)|assumption)
          have q235 : x8_1 < (l2.length : Int):=of_decide_eq_true (by first|(with_reducible assumption)|assumption)
          obtain ⟨ad235,e235,hx235_0⟩:=Kd.at_string HR2.out x8_1 p235 q235
          have hw235_0:=hx235_0
          obtain rfl : ad234 = ad235:=(by injection e235)
          replace hx235_0:=(HB.out.cell (World.block_lt_of_cell? w _ hx235_0)).trans hx235_0
          replace p235:=eq_true p235
          replace q235:=eq_true q235
          refine start_ (n:=15) (S:=fun w' => w'.cell? (ad234.add (x8_1).toNat) = some (.string (rdOf ByteArray.empty l2 x8_1)) ∧ w'.cell? (ad234.add (x8_1).toNat) = some (.string (rdOf ByteArray.empty l2 x8_1))) (ds:=[]) #[false,false,false,false,false,false,false,false,false,false,false,false,false,false,false] (by kernel_rfl) rfl rfl ⟨((HB.out.cell (World.block_lt_of_cell? w _ hw234_0)).trans hw234_0),((HB.out.cell (World.block_lt_of_cell? w _ hw235_0)).trans hw235_0)⟩ (fun hHeld => ?_);refine with_tabW racewaylaw25_JsontextMakes.tab6 racewaylaw25_JsontextMakes.bits6 (fun HT_ HW_ => ?_)
          generalize wr.drew = w16 at HO_0 HO_1 HO_7 HB hx234_0 hx235_0 hHeld ⊢
          refine pure_ (i:=0) (N:=some 27) (v:=?_) (a':=?_) #[true,false,false,false,false,false,false,false,false,false,false,false,false,false,false] rfl rfl (any_of HT_.out (by kernel_rfl)) (fun _ _ _ h => h) (Or.inl ⟨by rfl,?_⟩) ?_ ?_
          rotate_left
          ·intro w'
           go_simp
           with_reducible rfl
          rotate_left
          ·simp only [Act.put,List.setIfInBounds_toArray,List.set_cons_zero,List.set_cons_succ,i64_w,i32_w]
           rfl
          refine pure_ (i:=1) (N:=some 28) (v:=?_) (a':=?_) #[true,true,false,false,false,false,false,false,false,false,false,false,false,false,false] rfl rfl (any_of HT_.out (by kernel_rfl)) (fun _ _ _ h => h) (Or.inl ⟨by rfl,?_⟩) ?_ ?_
          rotate_left
          ·intro w'
           go_simp
           with_reducible rfl
          rotate_left
          ·simp only [Act.put,List.setIfInBounds_toArray,List.set_cons_zero,List.set_cons_succ,i64_w,i32_w]
           rfl
          refine pure_ (i:=2) (N:=some 29) (v:=?_) (a':=?_) #[true,true,true,false,false,false,false,false,false,false,false,false,false,false,false] rfl rfl (any_of HT_.out (by kernel_rfl)) (fun _ _ _ h => h) (Or.inl ⟨by rfl,?_⟩) ?_ ?_
          rotate_left
          ·intro w'
           go_simp
           with_reducible rfl
          rotate_left
          ·simp only [Act.put,List.setIfInBounds_toArray,List.set_cons_zero,List.set_cons_succ,i64_w,i32_w]
           rfl
          refine pure_ (i:=3) (N:=some 30) (v:=?_) (a':=?_) #[true,true,true,true,false,false,false,false,false,false,false,false,false,false,false] rfl rfl (any_of HT_.out (by kernel_rfl)) (fun _ _ _ h => h) (Or.inl ⟨by rfl,?_⟩) ?_ ?_
          rotate_left
          ·intro w'
           go_simp
           with_reducible rfl
          rotate_left
          ·simp only [Act.put,List.setIfInBounds_toArray,List.set_cons_zero,List.set_cons_succ,i64_w,i32_w]
           rfl
          refine pure_ (i:=5) (N:=some 32) (v:=?_) (a':=?_) #[true,true,true,true,false,true,false,false,false,false,false,false,false,false,false] rfl rfl (any_of HT_.out (by kernel_rfl)) (fun _ _ _ h => h) (Or.inl ⟨by rfl,?_⟩) ?_ ?_
          rotate_left
          ·intro w'
           go_simp
           with_reducible rfl
          rotate_left
          ·simp only [Act.put,List.setIfInBounds_toArray,List.set_cons_zero,List.set_cons_succ,i64_w,i32_w]
           rfl
          refine pure_ (i:=6) (N:=some 33) (v:=?_) (a':=?_) #[true,true,true,true,false,true,true,false,false,false,false,false,false,false,false] rfl rfl (any_of HT_.out (by kernel_rfl)) (fun _ _ _ h => h) (Or.inl ⟨by rfl,?_⟩) ?_ ?_
          rotate_left
          ·intro w'
           go_simp
           with_reducible rfl
          rotate_left
          ·simp only [Act.put,List.setIfInBounds_toArray,List.set_cons_zero,List.set_cons_succ,i64_w,i32_w]
           rfl
          refine pure_ (i:=7) (N:=some 34) (v:=?_) (a':=?_) #[true,true,true,true,false,true,true,true,false,false,false,false,false,false,false] rfl rfl (any_of HT_.out (by kernel_rfl)) (fun _ _ _ h => h) (Or.inl ⟨by rfl,?_⟩) ?_ ?_
          rotate_left
          ·intro w'
           go_simp
           with_reducible rfl
          rotate_left
          ·simp only [Act.put,List.setIfInBounds_toArray,List.set_cons_zero,List.set_cons_succ,i64_w,i32_w]
           rfl
          refine take_ (i:=4) (N:=some 31) (v:=?_) (a':=?_) #[true,true,true,true,true,true,true,true,false,false,false,false,false,false,false] rfl rfl (take_ofW HT_.out HW_.out (by kernel_rfl)) (fun _ _ _ h => h) (Or.inl ⟨by rfl,?_⟩) hHeld ?_ ?_
          rotate_left
          ·rintro w' ⟨s0,s1⟩
           go_simp
           with_reducible rfl
          rotate_left
          ·simp only [Act.put,List.setIfInBounds_toArray,List.set_cons_zero,List.set_cons_succ,i64_w,i32_w]
           rfl
          refine take_ (i:=8) (N:=some 35) (v:=?_) (a':=?_) #[true,true,true,true,true,true,true,true,true,false,false,false,false,false,false] rfl rfl (take_ofW HT_.out HW_.out (by kernel_rfl)) (fun _ _ _ h => h) (Or.inl ⟨by rfl,?_⟩) hHeld ?_ ?_
          rotate_left
          ·rintro w' ⟨s0,s1⟩
           go_simp
           with_reducible rfl
          rotate_left
          ·simp only [Act.put,List.setIfInBounds_toArray,List.set_cons_zero,List.set_cons_succ,i64_w,i32_w]
           rfl
          refine pure_ (i:=9) (N:=some 36) (v:=?_) (a':=?_) #[true,true,true,true,true,true,true,true,true,true,false,false,false,false,false] rfl rfl (any_of HT_.out (by kernel_rfl)) (fun _ _ _ h => h) (Or.inl ⟨by rfl,?_⟩) ?_ ?_
          rotate_left
          ·intro w'
           go_simp
           with_reducible rfl
          rotate_left
          ·simp only [Act.put,List.setIfInBounds_toArray,List.set_cons_zero,List.set_cons_succ,i64_w,i32_w]
           rfl
          refine pure_ (i:=10) (N:=some 37) (v:=?_) (a':=?_) #[true,true,true,true,true,true,true,true,true,true,true,false,false,false,false] rfl rfl (any_of HT_.out (by kernel_rfl)) (fun _ _ _ h => h) (Or.inl ⟨by rfl,?_⟩) ?_ ?_
          rotate_left
          ·intro w'
           go_simp
           with_reducible rfl
          rotate_left
          ·simp only [Act.put,List.setIfInBounds_toArray,List.set_cons_zero,List.set_cons_succ,i64_w,i32_w]
           rfl
          refine pure_ (i:=11) (N:=some 38) (v:=?_) (a':=?_) #[true,true,true,true,true,true,true,true,true,true,true,true,false,false,false] rfl rfl (any_of HT_.out (by kernel_rfl)) (fun _ _ _ h => h) (Or.inl ⟨by rfl,?_⟩) ?_ ?_
          rotate_left
          ·intro w'
           go_simp
           with_reducible rfl
          rotate_left
          ·simp only [Act.put,List.setIfInBounds_toArray,List.set_cons_zero,List.set_cons_succ,i64_w,i32_w]
           rfl
          refine one_ (i:=12) (N:=some 39) #[true,true,true,true,true,true,true,true,true,true,true,true,true,false,false] rfl rfl (one_of HT_.out (by kernel_rfl)) (by decide) (fun K hK => ?_)
          refine value_ (w1:=?_) (v:=?_) (by rfl) rfl ?_ ?_
          rotate_left 2
          ·go_simp
           constructor
           ·rfl
           ·rfl
          refine hK.out _ _ ⟨(World.cell?_alloc_lt _ _ _ (World.block_lt_of_cell? _ _ (((HB.out.cell (World.block_lt_of_cell? w _ hw234_0)).trans hw234_0)))).trans (((HB.out.cell (World.block_lt_of_cell? w _ hw234_0)).trans hw234_0)),(World.cell?_alloc_lt _ _ _ (World.block_lt_of_cell? _ _ (((HB.out.cell (World.block_lt_of_cell? w _ hw235_0)).trans hw235_0)))).trans (((HB.out.cell (World.block_lt_of_cell? w _ hw235_0)).trans hw235_0))⟩ (fun hHeld => ?_)
          clear hK K
          refine norm_ (a':=?_) ?_ ?_
          rotate_left
          ·show Act.put _ (some 39) _ = _
           simp only [Act.put,List.setIfInBounds_toArray,List.set_cons_zero,List.set_cons_succ,i64_w,i32_w]
           rfl
          refine one_ (i:=13) (N:=some 40) #[true,true,true,true,true,true,true,true,true,true,true,true,true,true,false] rfl rfl (one_of HT_.out (by kernel_rfl)) (by decide) (fun K hK => ?_)
          refine Kd.R_append_step Kd.string (w0:=w) w.heap.size (by rfl) (.tmp 27) (.tmp 39) 41 9 (.string ⟨#[]⟩) 16 rfl Tryd.underlying41 info9 rfl (by decide) (by omega) u7 x7_1 ((rdOf ByteArray.empty l2 x8_1).extract 0 ((ji12) : Int).toNat) [.string ((rdOf ByteArray.empty l2 x8_1).extract 0 ((ji12) : Int).toNat)] (fun _ => True) (fun _ => False) rfl rfl ?aP (fun _ hk => hk.elim) ?aF ?aO ?aB ?aS ?aL ?_
          (case aP => exact rfl)
          (case aB => exact (by repeat (first|(with_reducible first|exact HB.out|apply below_alloc|apply pw_below_drewN|apply below_drew1)|exact HB.out)))
          (case aF => exact (fun _ _ => trivial))
          (case aO => exact (by (with_reducible repeat (first|apply Kd.R_alloc|apply Kd.R_drewN|apply Kd.R_drew));exact HO_7.out))
          (case aS => exact (below_size (by repeat (first|(with_reducible first|exact HB.out|apply below_alloc|apply pw_below_drewN|apply below_drew1)|exact HB.out))))
          (case aL => have:=LMc15.out;omega)
          intro v237 w17 ho hb hg hat
          rw [← Ny236.out] at ho
          have n0_:=Aside0.mk (Kd.R_over' (by (with_reducible repeat (first|apply Kd.R_alloc|apply Kd.R_drewN|apply Kd.R_drew));exact HO_0.out) (Kd.R_typed (by (with_reducible repeat (first|apply Kd.R_alloc|apply Kd.R_drewN|apply Kd.R_drew));exact HO_7.out)) (by decide) hg)
          have n1_:=Aside0.mk (Kd.R_over' (by (with_reducible repeat (first|apply Kd.R_alloc|apply Kd.R_drewN|apply Kd.R_drew));exact HO_1.out) (Kd.R_typed (by (with_reducible repeat (first|apply Kd.R_alloc|apply Kd.R_drewN|apply Kd.R_drew));exact HO_7.out)) (by decide) hg)
          have n2_:=Aside0.mk (hb)
          have n3_:=Aside0.mk (ho)
          clear HO_0
          clear HO_1
          clear HB
          clear HO_7
          have HO_0:=n0_
          have HO_1:=n1_
          have HB:=n2_
          have HO238:=n3_
          clear n0_ n1_ n2_ n3_
          clear ho hb hg hat
          refine hK.out _ _ ⟨((HB.out.cell (World.block_lt_of_cell? w _ hw234_0)).trans hw234_0),((HB.out.cell (World.block_lt_of_cell? w _ hw235_0)).trans hw235_0)⟩ (fun hHeld => ?_)
          clear hK K
          refine norm_ (a':=?_) ?_ ?_
          rotate_left
          ·show Act.put _ (some 40) _ = _
           simp only [Act.put,List.setIfInBounds_toArray,List.set_cons_zero,List.set_cons_succ,i64_w,i32_w]
           rfl
          refine pure_ (i:=14) (N:=some 7) (v:=?_) (a':=?_) #[true,true,true,true,true,true,true,true,true,true,true,true,true,true,true] rfl rfl (any_of HT_.out (by kernel_rfl)) (fun _ _ _ h => h) (Or.inl ⟨by rfl,?_⟩) ?_ ?_
          rotate_left
          ·intro w'
           go_simp
           with_reducible rfl
          rotate_left
          ·simp only [Act.put,List.setIfInBounds_toArray,List.set_cons_zero,List.set_cons_succ,i64_w,i32_w]
           rfl
          refine done_ (done_of HT_.out (by kernel_rfl)) ?_
          try go_wp2
          go_roundg k1
          case measure => have:=HK1.out;omega
          case rel => exact ⟨(y236),(wrap64 (x8_1 + 1)),(by first|rfl|(simp;done)|(simp;decide +kernel)|(simp [*];done)),(by first|exact H'|(subst_vars;exact H')),⟨by have:=HK1.out;omega⟩,⟨by (with_reducible repeat (first|apply Kd.R_alloc|apply Kd.R_drewN|apply Kd.R_drew));exact HO_0.out⟩,⟨by (with_reducible repeat (first|apply Kd.R_alloc|apply Kd.R_drewN|apply Kd.R_drew));exact HO_1.out⟩,⟨by (with_reducible repeat (first|apply Kd.R_alloc|apply Kd.R_drewN|apply Kd.R_drew));exact HO238.out⟩,⟨by repeat (first|(with_reducible first|exact HB.out|apply below_alloc|apply pw_below_drewN|apply below_drew1)|exact HB.out)⟩⟩
         ·rw [if_neg c15] at H
          exact absurd H (by simp)
        ·rw [if_neg c14] at H
         exact absurd H (by simp)
       ·rw [if_neg c13] at H
        exact absurd H (by simp)
      ·rw [if_neg c11] at H
       exact absurd H (by simp)
     ·rw [if_neg c10] at H
      have c10b0 : decide (x8_1 < 3) = false:=decide_eq_false c10
      clear c10
      have H':=Aside0.mk H
      clear H
      go_wp2
      go_meet
      case rel => exact ⟨_,(x7_1),(by first|exact H'|(subst_vars;exact H')),⟨by have:=HK1.out;first|omega|exact Nat.le_refl _⟩,⟨by (with_reducible repeat (first|apply Kd.R_alloc|apply Kd.R_drewN|apply Kd.R_drew));exact HO_0.out⟩,⟨by (with_reducible repeat (first|apply Kd.R_alloc|apply Kd.R_drewN|apply Kd.R_drew));exact HO_1.out⟩,⟨by (with_reducible repeat (first|apply Kd.R_alloc|apply Kd.R_drewN|apply Kd.R_drew));exact HO_7.out⟩,⟨by repeat (first|(with_reducible first|exact HB.out|apply below_alloc|apply pw_below_drewN|apply below_drew1)|exact HB.out)⟩⟩
    ·rw [if_neg c9] at H
     have c9b0 : decide (x8_1 < (l2.length : Int)) = false:=decide_eq_false c9
     clear c9
     (first|rw [c9b0]|(simp only [i64_w,i32_w];rw [c9b0])|skip)
     have H':=Aside0.mk H
     clear H
     go_wp2
     go_meet
     case rel => exact ⟨_,(x7_1),(by first|exact H'|(subst_vars;exact H')),⟨by have:=HK1.out;first|omega|exact Nat.le_refl _⟩,⟨by (with_reducible repeat (first|apply Kd.R_alloc|apply Kd.R_drewN|apply Kd.R_drew));exact HO_0.out⟩,⟨by (with_reducible repeat (first|apply Kd.R_alloc|apply Kd.R_drewN|apply Kd.R_drew));exact HO_1.out⟩,⟨by (with_reducible repeat (first|apply Kd.R_alloc|apply Kd.R_drewN|apply Kd.R_drew));exact HO_7.out⟩,⟨by repeat (first|(with_reducible first|exact HB.out|apply below_alloc|apply pw_below_drewN|apply below_drew1)|exact HB.out)⟩⟩
 case rest =>
  clear HC6
  try clear c1
  try clear c2
  try clear p2
  try clear q2
  try clear hx2
  try clear p6
  try clear c7
  try clear c9
  try clear c9b0
  try clear c10
  try clear c10b0
  try clear c11
  try clear c11b0
  try clear c13
  try clear c13b0
  try clear c13b1
  try clear c14
  try clear c14b0
  try clear c14b1
  try clear c15
  try clear hx234_0
  try clear hx235_0
  try clear p2
  try clear p234
  try clear p235
  try clear q234
  try clear q235
  obtain ⟨kq,x7_5,HA,HJ5,HO_0,HO_1,HO_7,HB⟩:=hcut
  cases kq with
  | zero => exact absurd HA.out (by simp [racewaylaw25_JsontextMakes.j1])
  | succ kj5 =>
   have H:=HA.out
   clear HA
   simp only [racewaylaw25_JsontextMakes.j1] at H
   have HC18:=Aside0.mk H
   clear H
   go_upto_region 7 with (fail)
   go_cut [64] (fun v64 wc => ∃ (kq : Nat) (x64_17 : Bool),v64 = .bool x64_17 ∧ Aside0 (racewaylaw25_JsontextMakes.j2 kq t228 x64_17 = some r) ∧ Aside0 (kq ≤ kj5) ∧ Aside0 (Kd.R k46 46 wc w.heap.size (fun _ => True) v229 t228) ∧ Aside0 (Below w.heap.size w wc))
   case first =>
    have H:=HC18.out
    clear HC18
    obtain ⟨y239,hy239⟩ : ∃ y_ : List (List (S46)),y_ = (([t228,t231] : List (List (S46)))):=⟨_,rfl⟩
    replace H : ((jsontext_List.f kj5 y239).bind fun t242 => ((racewayref25_Made.f kj5 6 ([] : List ByteArray) (([t228,t231] : List (List (S46))))).bind fun t248 => ((racewayref25_Same.f kj5 t242 t248).bind fun t251 => (if t251 = true then ((jsontext_Object.f kj5 x7_5 (([t228,t231] : List (List (S46))))).bind fun t255 => ((racewayref25_Made.f kj5 7 x7_5 (([t228,t231] : List (List (S46))))).bind fun t261 => ((racewayref25_Same.f kj5 t255 t261).bind fun t264 => (racewaylaw25_JsontextMakes.j2 kj5 t228 (!t264))))) else (racewaylaw25_JsontextMakes.j2 kj5 t228 true))))) = some r:=by first|(rw [hy239];with_reducible exact H)|(have H2_:=(Option.bind_some _ _).symm.trans H;rw [hy239];with_reducible exact H2_)|(have H2_:=(Option.bind_some _ _).symm.trans H;with_reducible exact H2_)|with_reducible exact H|(rw [hy239];exact H)|exact H
    have Ny239:=Aside0.mk hy239
    clear hy239
    replace H:=Option.bind_eq_some_iff.mp H
    obtain ⟨t242,A190,H⟩:=H
    replace H : ((racewayref25_Made.f kj5 6 ([] : List ByteArray) (([t228,t231] : List (List (S46))))).bind fun t248 => ((racewayref25_Same.f kj5 t242 t248).bind fun t251 => (if t251 = true then ((jsontext_Object.f kj5 x7_5 (([t228,t231] : List (List (S46))))).bind fun t255 => ((racewayref25_Made.f kj5 7 x7_5 (([t228,t231] : List (List (S46))))).bind fun t261 => ((racewayref25_Same.f kj5 t255 t261).bind fun t264 => (racewaylaw25_JsontextMakes.j2 kj5 t228 (!t264))))) else (racewaylaw25_JsontextMakes.j2 kj5 t228 true)))) = some r:=H
    have A19:=Aside0.mk A190
    clear A190
    obtain ⟨y245,hy245⟩ : ∃ y_ : List (List (S46)),y_ = (([t228,t231] : List (List (S46)))):=⟨_,rfl⟩
    replace H : ((racewayref25_Made.f kj5 6 ([] : List ByteArray) y245).bind fun t248 => ((racewayref25_Same.f kj5 t242 t248).bind fun t251 => (if t251 = true then ((jsontext_Object.f kj5 x7_5 (([t228,t231] : List (List (S46))))).bind fun t255 => ((racewayref25_Made.f kj5 7 x7_5 (([t228,t231] : List (List (S46))))).bind fun t261 => ((racewayref25_Same.f kj5 t255 t261).bind fun t264 => (racewaylaw25_JsontextMakes.j2 kj5 t228 (!t264))))) else (racewaylaw25_JsontextMakes.j2 kj5 t228 true)))) = some r:=by first|(rw [hy245];with_reducible exact H)|(have H2_:=(Option.bind_some _ _).symm.trans H;rw [hy245];with_reducible exact H2_)|(have H2_:=(Option.bind_some _ _).symm.trans H;with_reducible exact H2_)|with_reducible exact H|(rw [hy245];exact H)|exact H
    have Ny245:=Aside0.mk hy245
    clear hy245
    replace H:=Option.bind_eq_some_iff.mp H
    obtain ⟨t248,A200,H⟩:=H
    replace H : ((racewayref25_Same.f kj5 t242 t248).bind fun t251 => (if t251 = true then ((jsontext_Object.f kj5 x7_5 (([t228,t231] : List (List (S46))))).bind fun t255 => ((racewayref25_Made.f kj5 7 x7_5 (([t228,t231] : List (List (S46))))).bind fun t261 => ((racewayref25_Same.f kj5 t255 t261).bind fun t264 => (racewaylaw25_JsontextMakes.j2 kj5 t228 (!t264))))) else (racewaylaw25_JsontextMakes.j2 kj5 t228 true))) = some r:=H
    have A20:=Aside0.mk A200
    clear A200
    replace H:=Option.bind_eq_some_iff.mp H
    obtain ⟨t251,A210,H⟩:=H
    replace H : (if t251 = true then ((jsontext_Object.f kj5 x7_5 (([t228,t231] : List (List (S46))))).bind fun t255 => ((racewayref25_Made.f kj5 7 x7_5 (([t228,t231] : List (List (S46))))).bind fun t261 => ((racewayref25_Same.f kj5 t255 t261).bind fun t264 => (racewaylaw25_JsontextMakes.j2 kj5 t228 (!t264))))) else (racewaylaw25_JsontextMakes.j2 kj5 t228 true)) = some r:=H
    have A21:=Aside0.mk A210
    clear A210
    by_cases c22 : t251 = true
    ·subst c22
     have H1 : ((jsontext_Object.f kj5 x7_5 (([t228,t231] : List (List (S46))))).bind fun t255 => ((racewayref25_Made.f kj5 7 x7_5 (([t228,t231] : List (List (S46))))).bind fun t261 => ((racewayref25_Same.f kj5 t255 t261).bind fun t264 => (racewaylaw25_JsontextMakes.j2 kj5 t228 (!t264))))) = some r:=by rw [if_pos rfl] at H;exact H
     clear H
     have H:=H1
     clear H1
     obtain ⟨y252,hy252⟩ : ∃ y_ : List (List (S46)),y_ = (([t228,t231] : List (List (S46)))):=⟨_,rfl⟩
     replace H : ((jsontext_Object.f kj5 x7_5 y252).bind fun t255 => ((racewayref25_Made.f kj5 7 x7_5 (([t228,t231] : List (List (S46))))).bind fun t261 => ((racewayref25_Same.f kj5 t255 t261).bind fun t264 => (racewaylaw25_JsontextMakes.j2 kj5 t228 (!t264))))) = some r:=by first|(rw [hy252];with_reducible exact H)|(have H2_:=(Option.bind_some _ _).symm.trans H;rw [hy252];with_reducible exact H2_)|(have H2_:=(Option.bind_some _ _).symm.trans H;with_reducible exact H2_)|with_reducible exact H|(rw [hy252];exact H)|exact H
     have Ny252:=Aside0.mk hy252
     clear hy252
     replace H:=Option.bind_eq_some_iff.mp H
     obtain ⟨t255,A230,H⟩:=H
     replace H : ((racewayref25_Made.f kj5 7 x7_5 (([t228,t231] : List (List (S46))))).bind fun t261 => ((racewayref25_Same.f kj5 t255 t261).bind fun t264 => (racewaylaw25_JsontextMakes.j2 kj5 t228 (!t264)))) = some r:=H
     have A23:=Aside0.mk A230
     clear A230
     obtain ⟨y258,hy258⟩ : ∃ y_ : List (List (S46)),y_ = (([t228,t231] : List (List (S46)))):=⟨_,rfl⟩
     replace H : ((racewayref25_Made.f kj5 7 x7_5 y258).bind fun t261 => ((racewayref25_Same.f kj5 t255 t261).bind fun t264 => (racewaylaw25_JsontextMakes.j2 kj5 t228 (!t264)))) = some r:=by first|(rw [hy258];with_reducible exact H)|(have H2_:=(Option.bind_some _ _).symm.trans H;rw [hy258];with_reducible exact H2_)|(have H2_:=(Option.bind_some _ _).symm.trans H;with_reducible exact H2_)|with_reducible exact H|(rw [hy258];exact H)|exact H
     have Ny258:=Aside0.mk hy258
     clear hy258
     replace H:=Option.bind_eq_some_iff.mp H
     obtain ⟨t261,A240,H⟩:=H
     replace H : ((racewayref25_Same.f kj5 t255 t261).bind fun t264 => (racewaylaw25_JsontextMakes.j2 kj5 t228 (!t264))) = some r:=H
     have A24:=Aside0.mk A240
     clear A240
     replace H:=Option.bind_eq_some_iff.mp H
     obtain ⟨t264,A250,H⟩:=H
     replace H : (racewaylaw25_JsontextMakes.j2 kj5 t228 (!t264)) = some r:=H
     have A25:=Aside0.mk A250
     clear A250
     have H':=Aside0.mk H
     clear H
     obtain ⟨Ao26,co26,eo26⟩:=Kd.R_slice HO_0.out
     subst eo26
     obtain ⟨Ao27,co27,eo27⟩:=Kd.R_slice HO_1.out
     subst eo27
     go_wp2_with (first|((with_reducible refine gate_dst (N:=43) rfl ?_);(try (refine gate_guard (by rfl) ?_;dsimp only));refine Kd.N_lit (Kd.slice 46 k46) _ 22 ?hg (N':=43) ?hd (xs:=([t228,t231] : List (List (S46)))) (inner:=[.slice Ao26 t228.length co26,.slice Ao27 t231.length co27]) (ok:=(fun k_ => some k_ ≠ (u7 : Value).ownBlock)) (okp:=(fun k_ => some k_ ≠ (u7 : Value).ownBlock)) ?hr ?hp (fun _ hk => hk) ((show ∀ k_,wc.heap.size ≤ k_ → (fun k_ => some k_ ≠ (u7 : Value).ownBlock) k_ from fun k_ hk => Kd.fresh' (Kd.R_lt (by (with_reducible repeat (first|apply Kd.R_alloc|apply Kd.R_drewN|apply Kd.R_drew));exact HO_7.out)) k_ hk) _ (Nat.le_refl _)) (Below.refl _ _) (Nat.le_refl _) (by simp) ?_;(case hd => rfl);(case hg => rfl);(case hr => first|(go_simp;done)|(go_simp;rfl));(case hp => exact (Reps.one (show Kd.FK (Kd.slice 46 k46) _ _ t228 [.slice Ao26 t228.length co26] from (Kd.FK_slice_mk (Kd.R_reads' (Kd.R_mono (ok':=(fun k_ => some k_ ≠ (u7 : Value).ownBlock)) (Kd.R_apart' (HO_0.out) (Kd.R_typed HO_7.out) (by decide)) (fun k_ hk => hk.2))).2.1 (Kd.R_F (Kd.R_mono (ok':=(fun k_ => some k_ ≠ (u7 : Value).ownBlock)) (Kd.R_apart' (HO_0.out) (Kd.R_typed HO_7.out) (by decide)) (fun k_ hk => hk.2))))) (Reps.one (show Kd.FK (Kd.slice 46 k46) _ _ t231 [.slice Ao27 t231.length co27] from (Kd.FK_slice_mk (Kd.R_reads' (Kd.R_mono (ok':=(fun k_ => some k_ ≠ (u7 : Value).ownBlock)) (Kd.R_apart' (HO_1.out) (Kd.R_typed HO_7.out) (by decide)) (fun k_ hk => hk.2))).2.1 (Kd.R_F (Kd.R_mono (ok':=(fun k_ => some k_ ≠ (u7 : Value).ownBlock)) (Kd.R_apart' (HO_1.out) (Kd.R_typed HO_7.out) (by decide)) (fun k_ hk => hk.2))))) (Reps.none _ _))));intro v240 w28 ho29 hb hg_ hnew_;clear hg_ hnew_;(first|rw [← Ny239.out] at ho29|(simp only [Int.reduceToNat] at ho29;rw [← Ny239.out] at ho29));have n0_:=Aside0.mk (Kd.R_below (by (with_reducible repeat (first|apply Kd.R_alloc|apply Kd.R_drewN|apply Kd.R_drew));exact HO_0.out) hb);have n1_:=Aside0.mk (Kd.R_below (by (with_reducible repeat (first|apply Kd.R_alloc|apply Kd.R_drewN|apply Kd.R_drew));exact HO_1.out) hb);have n2_:=Aside0.mk (Kd.R_below (by (with_reducible repeat (first|apply Kd.R_alloc|apply Kd.R_drewN|apply Kd.R_drew));exact HO_7.out) hb);have n3_:=Aside0.mk (Kd.N_lower ho29 (below_size (by repeat (first|(with_reducible first|exact HB.out|apply below_alloc|apply pw_below_drewN|apply below_drew1)|exact HB.out))));have n4_:=Aside0.mk (below_step (by repeat (first|(with_reducible first|exact HB.out|apply below_alloc|apply pw_below_drewN|apply below_drew1)|exact HB.out)) hb);clear HO_0;clear HO_1;clear HO_7;clear HB;have HO_0:=n0_;have HO_1:=n1_;have HO_7:=n2_;have HO241:=n3_;have HB:=n4_;clear n0_ n1_ n2_ n3_ n4_;clear hb ho29;obtain ⟨Ao30,co30,eo30⟩:=Kd.N_slice HO241.out;subst eo30)|((with_reducible refine gate_callee (f:=18) rfl ?_);refine goesL_ (some 44) rfl rfl Tryd.func18 (by kernel_rfl) rfl #[.slice Ao30 y239.length co30] rfl (by (try simp only [List.map_toArray,List.map_cons,List.map_nil]);first|done|rfl|(simp only [List.length_drop,List.length_take];rfl)) ?_;(with_reducible refine (jsontext_List.calls kj5 _ _ y239 t242 _ ?side3 ?side1 ?side2 A19.out).mono ?_);(case side1 => repeat (first|exact (Kd.N_reads' HO241.out).2.2|(with_reducible refine Kd.C_alloc ?_ _)|(with_reducible refine Kd.C_drewN ?_ _)|(with_reducible refine Kd.C_drew ?_)));(case side2 => exact (Kd.N_reads' HO241.out).2.1);(case side3 => first|exact HGU8.out|exact GlobU8.below HGU8.out (by repeat (first|(with_reducible first|exact HB.out|apply below_alloc|apply pw_below_drewN|apply below_drew1)|exact HB.out))|exact GlobU8.drawn HGU8.out (by repeat (first|exact Drawn0.refl _|apply Drawn0.step)));rintro e w31 ⟨v243,rfl,ho0,hb⟩;refine ⟨_,rfl,?_⟩;have n0_:=Aside0.mk (Kd.R_elder' (by (with_reducible repeat (first|apply Kd.R_alloc|apply Kd.R_drewN|apply Kd.R_drew));exact HO_0.out) (Kd.R_base ho0) hb);have n1_:=Aside0.mk (Kd.R_elder' (by (with_reducible repeat (first|apply Kd.R_alloc|apply Kd.R_drewN|apply Kd.R_drew));exact HO_1.out) (Kd.R_base ho0) hb);have n2_:=Aside0.mk (Kd.R_below (by (with_reducible repeat (first|apply Kd.R_alloc|apply Kd.R_drewN|apply Kd.R_drew));exact HO_7.out) hb);have n3_:=Aside0.mk (Kd.N_elder' (by (with_reducible repeat (first|apply Kd.N_alloc|apply Kd.N_drewN|apply Kd.N_drew));exact HO241.out) (Kd.R_base ho0) hb);have n4_:=Aside0.mk (Kd.R_lower (Kd.R_new' (Kd.R_new' ho0 (Kd.R_lt (by (with_reducible repeat (first|apply Kd.R_alloc|apply Kd.R_drewN|apply Kd.R_drew));exact HO_0.out))) (Kd.R_lt (by (with_reducible repeat (first|apply Kd.R_alloc|apply Kd.R_drewN|apply Kd.R_drew));exact HO_1.out))) (below_size (by repeat (first|(with_reducible first|exact HB.out|apply below_alloc|apply pw_below_drewN|apply below_drew1)|exact HB.out))));have n5_:=Aside0.mk (below_step (by repeat (first|(with_reducible first|exact HB.out|apply below_alloc|apply pw_below_drewN|apply below_drew1)|exact HB.out)) hb);clear HO_0;clear HO_1;clear HO_7;clear HO241;clear HB;have HO_0:=n0_;have HO_1:=n1_;have HO_7:=n2_;have HO241:=n3_;have HO244:=n4_;have HB:=n5_;clear n0_ n1_ n2_ n3_ n4_ n5_;(try clear hb);(try clear hb2);(try clear hk);(try clear hi);(try clear ho0))|((with_reducible refine gate_dst (N:=47) rfl ?_);(try (refine gate_guard (by rfl) ?_;dsimp only));refine Kd.N_lit (Kd.slice 46 k46) _ 22 ?hg (N':=47) ?hd (xs:=([t228,t231] : List (List (S46)))) (inner:=[.slice Ao26 t228.length co26,.slice Ao27 t231.length co27]) (ok:=(fun k_ => some k_ ≠ (u7 : Value).ownBlock ∧ some k_ ≠ (.slice Ao30 y239.length co30 : Value).ownBlock ∧ some k_ ≠ (v243 : Value).ownBlock)) (okp:=(fun k_ => some k_ ≠ (u7 : Value).ownBlock ∧ some k_ ≠ (.slice Ao30 y239.length co30 : Value).ownBlock ∧ some k_ ≠ (v243 : Value).ownBlock)) ?hr ?hp (fun _ hk => hk) ((show ∀ k_,w31.heap.size ≤ k_ → (fun k_ => some k_ ≠ (u7 : Value).ownBlock ∧ some k_ ≠ (.slice Ao30 y239.length co30 : Value).ownBlock ∧ some k_ ≠ (v243 : Value).ownBlock) k_ from fun k_ hk => ⟨Kd.fresh' (Kd.R_lt (by (with_reducible repeat (first|apply Kd.R_alloc|apply Kd.R_drewN|apply Kd.R_drew));exact HO_7.out)) k_ hk,Kd.fresh' (Kd.N_lt (by (with_reducible repeat (first|apply Kd.N_alloc|apply Kd.N_drewN|apply Kd.N_drew));exact HO241.out)) k_ hk,Kd.fresh' (Kd.R_lt (by (with_reducible repeat (first|apply Kd.R_alloc|apply Kd.R_drewN|apply Kd.R_drew));exact HO244.out)) k_ hk⟩) _ (Nat.le_refl _)) (Below.refl _ _) (Nat.le_refl _) (by simp) ?_;(case hd => rfl);(case hg => rfl);(case hr => first|(go_simp;done)|(go_simp;rfl));(case hp => exact (Reps.one (show Kd.FK (Kd.slice 46 k46) _ _ t228 [.slice Ao26 t228.length co26] from (Kd.FK_slice_mk (Kd.R_reads' (Kd.R_mono (ok':=(fun k_ => some k_ ≠ (u7 : Value).ownBlock ∧ some k_ ≠ (.slice Ao30 y239.length co30 : Value).ownBlock ∧ some k_ ≠ (v243 : Value).ownBlock)) (Kd.R_apart' (Kd.R_apart' (HO_0.out) (Kd.R_typed HO_7.out) (by decide)) (Kd.N_typed HO241.out) (by decide)) (fun k_ hk => ⟨hk.1.2,⟨hk.2,hk.1.1.2⟩⟩))).2.1 (Kd.R_F (Kd.R_mono (ok':=(fun k_ => some k_ ≠ (u7 : Value).ownBlock ∧ some k_ ≠ (.slice Ao30 y239.length co30 : Value).ownBlock ∧ some k_ ≠ (v243 : Value).ownBlock)) (Kd.R_apart' (Kd.R_apart' (HO_0.out) (Kd.R_typed HO_7.out) (by decide)) (Kd.N_typed HO241.out) (by decide)) (fun k_ hk => ⟨hk.1.2,⟨hk.2,hk.1.1.2⟩⟩))))) (Reps.one (show Kd.FK (Kd.slice 46 k46) _ _ t231 [.slice Ao27 t231.length co27] from (Kd.FK_slice_mk (Kd.R_reads' (Kd.R_mono (ok':=(fun k_ => some k_ ≠ (u7 : Value).ownBlock ∧ some k_ ≠ (.slice Ao30 y239.length co30 : Value).ownBlock ∧ some k_ ≠ (v243 : Value).ownBlock)) (Kd.R_apart' (Kd.R_apart' (HO_1.out) (Kd.R_typed HO_7.out) (by decide)) (Kd.N_typed HO241.out) (by decide)) (fun k_ hk => ⟨hk.1.2,⟨hk.2,hk.1.1.2⟩⟩))).2.1 (Kd.R_F (Kd.R_mono (ok':=(fun k_ => some k_ ≠ (u7 : Value).ownBlock ∧ some k_ ≠ (.slice Ao30 y239.length co30 : Value).ownBlock ∧ some k_ ≠ (v243 : Value).ownBlock)) (Kd.R_apart' (Kd.R_apart' (HO_1.out) (Kd.R_typed HO_7.out) (by decide)) (Kd.N_typed HO241.out) (by decide)) (fun k_ hk => ⟨hk.1.2,⟨hk.2,hk.1.1.2⟩⟩))))) (Reps.none _ _))));intro v246 w32 ho33 hb hg_ hnew_;clear hg_ hnew_;(first|rw [← Ny245.out] at ho33|(simp only [Int.reduceToNat] at ho33;rw [← Ny245.out] at ho33));have n0_:=Aside0.mk (Kd.R_below (by (with_reducible repeat (first|apply Kd.R_alloc|apply Kd.R_drewN|apply Kd.R_drew));exact HO_0.out) hb);have n1_:=Aside0.mk (Kd.R_below (by (with_reducible repeat (first|apply Kd.R_alloc|apply Kd.R_drewN|apply Kd.R_drew));exact HO_1.out) hb);have n2_:=Aside0.mk (Kd.R_below (by (with_reducible repeat (first|apply Kd.R_alloc|apply Kd.R_drewN|apply Kd.R_drew));exact HO_7.out) hb);have n3_:=Aside0.mk (Kd.N_elder' (by (with_reducible repeat (first|apply Kd.N_alloc|apply Kd.N_drewN|apply Kd.N_drew));exact HO241.out) (Kd.N_base ho33) hb);have n4_:=Aside0.mk (Kd.R_below (by (with_reducible repeat (first|apply Kd.R_alloc|apply Kd.R_drewN|apply Kd.R_drew));exact HO244.out) hb);have n5_:=Aside0.mk (Kd.N_lower ho33 (below_size (by repeat (first|(with_reducible first|exact HB.out|apply below_alloc|apply pw_below_drewN|apply below_drew1)|exact HB.out))));have n6_:=Aside0.mk (below_step (by repeat (first|(with_reducible first|exact HB.out|apply below_alloc|apply pw_below_drewN|apply below_drew1)|exact HB.out)) hb);clear HO_0;clear HO_1;clear HO_7;clear HO241;clear HO244;clear HB;have HO_0:=n0_;have HO_1:=n1_;have HO_7:=n2_;have HO241:=n3_;have HO244:=n4_;have HO247:=n5_;have HB:=n6_;clear n0_ n1_ n2_ n3_ n4_ n5_ n6_;clear hb ho33;obtain ⟨Ao34,co34,eo34⟩:=Kd.N_slice HO247.out;subst eo34)|((with_reducible refine gate_callee (f:=19) rfl ?_);refine goesL_ (some 48) rfl rfl Tryd.func19 (by kernel_rfl) rfl #[.int .i64 6,.slice none 0 0,.slice Ao34 y245.length co34] rfl (by (try simp only [List.map_toArray,List.map_cons,List.map_nil]);first|done|rfl|(simp only [List.length_drop,List.length_take];rfl)) ?_;(refine (racewayref25_Made.calls kj5 6 _ _ ([] : List ByteArray) _ _ y245 t248 _ ?side1 ?side2 ?side3 ?side4 A20.out).mono ?_);(case side1 => exact Kd.C_nil _ _);(case side2 => exact Nat.le_refl _);(case side3 => repeat (first|exact (Kd.N_reads' HO247.out).2.2|(with_reducible refine Kd.C_alloc ?_ _)|(with_reducible refine Kd.C_drewN ?_ _)|(with_reducible refine Kd.C_drew ?_)));(case side4 => exact (Kd.N_reads' HO247.out).2.1);rintro e w35 ⟨v249,rfl,ho0,hb⟩;refine ⟨_,rfl,?_⟩;have n0_:=Aside0.mk (Kd.R_elder' (by (with_reducible repeat (first|apply Kd.R_alloc|apply Kd.R_drewN|apply Kd.R_drew));exact HO_0.out) (Kd.R_base ho0) hb);have n1_:=Aside0.mk (Kd.R_elder' (by (with_reducible repeat (first|apply Kd.R_alloc|apply Kd.R_drewN|apply Kd.R_drew));exact HO_1.out) (Kd.R_base ho0) hb);have n2_:=Aside0.mk (Kd.R_below (by (with_reducible repeat (first|apply Kd.R_alloc|apply Kd.R_drewN|apply Kd.R_drew));exact HO_7.out) hb);have n3_:=Aside0.mk (Kd.N_elder' (by (with_reducible repeat (first|apply Kd.N_alloc|apply Kd.N_drewN|apply Kd.N_drew));exact HO241.out) (Kd.R_base ho0) hb);have n4_:=Aside0.mk (Kd.R_elder' (by (with_reducible repeat (first|apply Kd.R_alloc|apply Kd.R_drewN|apply Kd.R_drew));exact HO244.out) (Kd.R_base ho0) hb);have n5_:=Aside0.mk (Kd.N_elder' (by (with_reducible repeat (first|apply Kd.N_alloc|apply Kd.N_drewN|apply Kd.N_drew));exact HO247.out) (Kd.R_base ho0) hb);have n6_:=Aside0.mk (Kd.R_lower (Kd.R_new' (Kd.R_new' (Kd.R_new' ho0 (Kd.R_lt (by (with_reducible repeat (first|apply Kd.R_alloc|apply Kd.R_drewN|apply Kd.R_drew));exact HO_0.out))) (Kd.R_lt (by (with_reducible repeat (first|apply Kd.R_alloc|apply Kd.R_drewN|apply Kd.R_drew));exact HO_1.out))) (Kd.R_lt (by (with_reducible repeat (first|apply Kd.R_alloc|apply Kd.R_drewN|apply Kd.R_drew));exact HO244.out))) (below_size (by repeat (first|(with_reducible first|exact HB.out|apply below_alloc|apply pw_below_drewN|apply below_drew1)|exact HB.out))));have n7_:=Aside0.mk (below_step (by repeat (first|(with_reducible first|exact HB.out|apply below_alloc|apply pw_below_drewN|apply below_drew1)|exact HB.out)) hb);clear HO_0;clear HO_1;clear HO_7;clear HO241;clear HO244;clear HO247;clear HB;have HO_0:=n0_;have HO_1:=n1_;have HO_7:=n2_;have HO241:=n3_;have HO244:=n4_;have HO247:=n5_;have HO250:=n6_;have HB:=n7_;clear n0_ n1_ n2_ n3_ n4_ n5_ n6_ n7_;(try clear hb);(try clear hb2);(try clear hk);(try clear hi);(try clear ho0);obtain ⟨Ao36,co36,eo36⟩:=Kd.R_slice HO244.out;subst eo36;obtain ⟨Ao37,co37,eo37⟩:=Kd.R_slice HO250.out;subst eo37)|((with_reducible refine gate_callee (f:=12) rfl ?_);refine goesL_ (some 49) rfl rfl Tryd.func12 (by kernel_rfl) rfl #[.slice Ao36 t242.length co36,.slice Ao37 t248.length co37] rfl (by (try simp only [List.map_toArray,List.map_cons,List.map_nil]);first|done|rfl|(simp only [List.length_drop,List.length_take];rfl)) ?_;(with_reducible refine (racewayref25_Same.calls kj5 _ _ t242 _ _ t248 true _ ?side1 ?side2 ?side3 ?side4 A21.out).mono ?_);(case side1 => repeat (first|exact (Kd.R_reads' HO244.out).2.2|(with_reducible refine Kd.C_alloc ?_ _)|(with_reducible refine Kd.C_drewN ?_ _)|(with_reducible refine Kd.C_drew ?_)));(case side2 => exact (Kd.R_reads' HO244.out).2.1);(case side3 => repeat (first|exact (Kd.R_reads' HO250.out).2.2|(with_reducible refine Kd.C_alloc ?_ _)|(with_reducible refine Kd.C_drewN ?_ _)|(with_reducible refine Kd.C_drew ?_)));(case side4 => exact (Kd.R_reads' HO250.out).2.1);rintro e w' ⟨rfl,⟨nd,rfl⟩⟩;refine ⟨_,rfl,?_⟩)|((with_reducible refine gate_dst (N:=55) rfl ?_);(try (refine gate_guard (by rfl) ?_;dsimp only));refine Kd.N_lit (Kd.slice 46 k46) _ 22 ?hg (N':=55) ?hd (xs:=([t228,t231] : List (List (S46)))) (inner:=[.slice Ao26 t228.length co26,.slice Ao27 t231.length co27]) (ok:=(fun k_ => some k_ ≠ (u7 : Value).ownBlock ∧ some k_ ≠ (.slice Ao30 y239.length co30 : Value).ownBlock ∧ some k_ ≠ (.slice Ao36 t242.length co36 : Value).ownBlock ∧ some k_ ≠ (.slice Ao34 y245.length co34 : Value).ownBlock ∧ some k_ ≠ (.slice Ao37 t248.length co37 : Value).ownBlock)) (okp:=(fun k_ => some k_ ≠ (u7 : Value).ownBlock ∧ some k_ ≠ (.slice Ao30 y239.length co30 : Value).ownBlock ∧ some k_ ≠ (.slice Ao36 t242.length co36 : Value).ownBlock ∧ some k_ ≠ (.slice Ao34 y245.length co34 : Value).ownBlock ∧ some k_ ≠ (.slice Ao37 t248.length co37 : Value).ownBlock)) ?hr ?hp (fun _ hk => hk) ((show ∀ k_,w35.heap.size ≤ k_ → (fun k_ => some k_ ≠ (u7 : Value).ownBlock ∧ some k_ ≠ (.slice Ao30 y239.length co30 : Value).ownBlock ∧ some k_ ≠ (.slice Ao36 t242.length co36 : Value).ownBlock ∧ some k_ ≠ (.slice Ao34 y245.length co34 : Value).ownBlock ∧ some k_ ≠ (.slice Ao37 t248.length co37 : Value).ownBlock) k_ from fun k_ hk => ⟨Kd.fresh' (Kd.R_lt (by (with_reducible repeat (first|apply Kd.R_alloc|apply Kd.R_drewN|apply Kd.R_drew));exact HO_7.out)) k_ hk,Kd.fresh' (Kd.N_lt (by (with_reducible repeat (first|apply Kd.N_alloc|apply Kd.N_drewN|apply Kd.N_drew));exact HO241.out)) k_ hk,Kd.fresh' (Kd.R_lt (by (with_reducible repeat (first|apply Kd.R_alloc|apply Kd.R_drewN|apply Kd.R_drew));exact HO244.out)) k_ hk,Kd.fresh' (Kd.N_lt (by (with_reducible repeat (first|apply Kd.N_alloc|apply Kd.N_drewN|apply Kd.N_drew));exact HO247.out)) k_ hk,Kd.fresh' (Kd.R_lt (by (with_reducible repeat (first|apply Kd.R_alloc|apply Kd.R_drewN|apply Kd.R_drew));exact HO250.out)) k_ hk⟩) _ (Nat.le_refl _)) (Below.refl _ _) (Nat.le_refl _) (by simp) ?_;(case hd => rfl);(case hg => rfl);(case hr => first|(go_simp;done)|(go_simp;rfl));(case hp => exact (Reps.one (show Kd.FK (Kd.slice 46 k46) _ _ t228 [.slice Ao26 t228.length co26] from (Kd.FK_slice_mk (Kd.R_reads' (Kd.R_mono (ok':=(fun k_ => some k_ ≠ (u7 : Value).ownBlock ∧ some k_ ≠ (.slice Ao30 y239.length co30 : Value).ownBlock ∧ some k_ ≠ (.slice Ao36 t242.length co36 : Value).ownBlock ∧ some k_ ≠ (.slice Ao34 y245.length co34 : Value).ownBlock ∧ some k_ ≠ (.slice Ao37 t248.length co37 : Value).ownBlock)) (Kd.R_apart' (Kd.R_apart' (Kd.R_apart' (HO_0.out) (Kd.R_typed HO_7.out) (by decide)) (Kd.N_typed HO241.out) (by decide)) (Kd.N_typed HO247.out) (by decide)) (fun k_ hk => ⟨hk.1.1.2,⟨hk.1.2,⟨hk.1.1.1.1.2,⟨hk.2,hk.1.1.1.2⟩⟩⟩⟩))).2.1 (Kd.R_F (Kd.R_mono (ok':=(fun k_ => some k_ ≠ (u7 : Value).ownBlock ∧ some k_ ≠ (.slice Ao30 y239.length co30 : Value).ownBlock ∧ some k_ ≠ (.slice Ao36 t242.length co36 : Value).ownBlock ∧ some k_ ≠ (.slice Ao34 y245.length co34 : Value).ownBlock ∧ some k_ ≠ (.slice Ao37 t248.length co37 : Value).ownBlock)) (Kd.R_apart' (Kd.R_apart' (Kd.R_apart' (HO_0.out) (Kd.R_typed HO_7.out) (by decide)) (Kd.N_typed HO241.out) (by decide)) (Kd.N_typed HO247.out) (by decide)) (fun k_ hk => ⟨hk.1.1.2,⟨hk.1.2,⟨hk.1.1.1.1.2,⟨hk.2,hk.1.1.1.2⟩⟩⟩⟩))))) (Reps.one (show Kd.FK (Kd.slice 46 k46) _ _ t231 [.slice Ao27 t231.length co27] from (Kd.FK_slice_mk (Kd.R_reads' (Kd.R_mono (ok':=(fun k_ => some k_ ≠ (u7 : Value).ownBlock ∧ some k_ ≠ (.slice Ao30 y239.length co30 : Value).ownBlock ∧ some k_ ≠ (.slice Ao36 t242.length co36 : Value).ownBlock ∧ some k_ ≠ (.slice Ao34 y245.length co34 : Value).ownBlock ∧ some k_ ≠ (.slice Ao37 t248.length co37 : Value).ownBlock)) (Kd.R_apart' (Kd.R_apart' (Kd.R_apart' (HO_1.out) (Kd.R_typed HO_7.out) (by decide)) (Kd.N_typed HO241.out) (by decide)) (Kd.N_typed HO247.out) (by decide)) (fun k_ hk => ⟨hk.1.1.2,⟨hk.1.2,⟨hk.1.1.1.1.2,⟨hk.2,hk.1.1.1.2⟩⟩⟩⟩))).2.1 (Kd.R_F (Kd.R_mono (ok':=(fun k_ => some k_ ≠ (u7 : Value).ownBlock ∧ some k_ ≠ (.slice Ao30 y239.length co30 : Value).ownBlock ∧ some k_ ≠ (.slice Ao36 t242.length co36 : Value).ownBlock ∧ some k_ ≠ (.slice Ao34 y245.length co34 : Value).ownBlock ∧ some k_ ≠ (.slice Ao37 t248.length co37 : Value).ownBlock)) (Kd.R_apart' (Kd.R_apart' (Kd.R_apart' (HO_1.out) (Kd.R_typed HO_7.out) (by decide)) (Kd.N_typed HO241.out) (by decide)) (Kd.N_typed HO247.out) (by decide)) (fun k_ hk => ⟨hk.1.1.2,⟨hk.1.2,⟨hk.1.1.1.1.2,⟨hk.2,hk.1.1.1.2⟩⟩⟩⟩))))) (Reps.none _ _))));intro v253 w38 ho39 hb hg_ hnew_;clear hg_ hnew_;(first|rw [← Ny252.out] at ho39|(simp only [Int.reduceToNat] at ho39;rw [← Ny252.out] at ho39));have n0_:=Aside0.mk (Kd.R_below (by (with_reducible repeat (first|apply Kd.R_alloc|apply Kd.R_drewN|apply Kd.R_drew));exact HO_0.out) hb);have n1_:=Aside0.mk (Kd.R_below (by (with_reducible repeat (first|apply Kd.R_alloc|apply Kd.R_drewN|apply Kd.R_drew));exact HO_1.out) hb);have n2_:=Aside0.mk (Kd.R_below (by (with_reducible repeat (first|apply Kd.R_alloc|apply Kd.R_drewN|apply Kd.R_drew));exact HO_7.out) hb);have n3_:=Aside0.mk (Kd.N_elder' (by (with_reducible repeat (first|apply Kd.N_alloc|apply Kd.N_drewN|apply Kd.N_drew));exact HO241.out) (Kd.N_base ho39) hb);have n4_:=Aside0.mk (Kd.R_below (by (with_reducible repeat (first|apply Kd.R_alloc|apply Kd.R_drewN|apply Kd.R_drew));exact HO244.out) hb);have n5_:=Aside0.mk (Kd.N_elder' (by (with_reducible repeat (first|apply Kd.N_alloc|apply Kd.N_drewN|apply Kd.N_drew));exact HO247.out) (Kd.N_base ho39) hb);have n6_:=Aside0.mk (Kd.R_below (by (with_reducible repeat (first|apply Kd.R_alloc|apply Kd.R_drewN|apply Kd.R_drew));exact HO250.out) hb);have n7_:=Aside0.mk (Kd.N_lower ho39 (below_size (by repeat (first|(with_reducible first|exact HB.out|apply below_alloc|apply pw_below_drewN|apply below_drew1)|exact HB.out))));have n8_:=Aside0.mk (below_step (by repeat (first|(with_reducible first|exact HB.out|apply below_alloc|apply pw_below_drewN|apply below_drew1)|exact HB.out)) hb);clear HO_0;clear HO_1;clear HO_7;clear HO241;clear HO244;clear HO247;clear HO250;clear HB;have HO_0:=n0_;have HO_1:=n1_;have HO_7:=n2_;have HO241:=n3_;have HO244:=n4_;have HO247:=n5_;have HO250:=n6_;have HO254:=n7_;have HB:=n8_;clear n0_ n1_ n2_ n3_ n4_ n5_ n6_ n7_ n8_;clear hb ho39;obtain ⟨Ao40,co40,eo40⟩:=Kd.R_slice HO_7.out;subst eo40;obtain ⟨Ao41,co41,eo41⟩:=Kd.N_slice HO254.out;subst eo41)|(go_at_call 20;(with_reducible refine (jsontext_Object.calls kj5 _ _ x7_5 _ _ y252 t255 _ ?side5 ?side1 ?side2 ?side3 ?side4 A23.out).mono ?_);(case side1 => repeat (first|exact (Kd.R_reads' HO_7.out).2.2|(with_reducible refine Kd.C_alloc ?_ _)|(with_reducible refine Kd.C_drewN ?_ _)|(with_reducible refine Kd.C_drew ?_)));(case side2 => exact (Kd.R_reads' HO_7.out).2.1);(case side3 => repeat (first|exact (Kd.N_reads' HO254.out).2.2|(with_reducible refine Kd.C_alloc ?_ _)|(with_reducible refine Kd.C_drewN ?_ _)|(with_reducible refine Kd.C_drew ?_)));(case side4 => exact (Kd.N_reads' HO254.out).2.1);(case side5 => first|exact HGU8.out|exact GlobU8.below HGU8.out (by repeat (first|(with_reducible first|exact HB.out|apply below_alloc|apply pw_below_drewN|apply below_drew1)|exact HB.out))|exact GlobU8.drawn HGU8.out (by repeat (first|exact Drawn0.refl _|apply Drawn0.step)));rintro e w42 ⟨v256,rfl,ho0,hb⟩;have n0_:=Aside0.mk (Kd.R_elder' (by (with_reducible repeat (first|apply Kd.R_alloc|apply Kd.R_drewN|apply Kd.R_drew));exact HO_0.out) (Kd.R_base ho0) hb);have n1_:=Aside0.mk (Kd.R_elder' (by (with_reducible repeat (first|apply Kd.R_alloc|apply Kd.R_drewN|apply Kd.R_drew));exact HO_1.out) (Kd.R_base ho0) hb);have n2_:=Aside0.mk (Kd.R_below (by (with_reducible repeat (first|apply Kd.R_alloc|apply Kd.R_drewN|apply Kd.R_drew));exact HO_7.out) hb);have n3_:=Aside0.mk (Kd.N_elder' (by (with_reducible repeat (first|apply Kd.N_alloc|apply Kd.N_drewN|apply Kd.N_drew));exact HO241.out) (Kd.R_base ho0) hb);have n4_:=Aside0.mk (Kd.R_elder' (by (with_reducible repeat (first|apply Kd.R_alloc|apply Kd.R_drewN|apply Kd.R_drew));exact HO244.out) (Kd.R_base ho0) hb);have n5_:=Aside0.mk (Kd.N_elder' (by (with_reducible repeat (first|apply Kd.N_alloc|apply Kd.N_drewN|apply Kd.N_drew));exact HO247.out) (Kd.R_base ho0) hb);have n6_:=Aside0.mk (Kd.R_elder' (by (with_reducible repeat (first|apply Kd.R_alloc|apply Kd.R_drewN|apply Kd.R_drew));exact HO250.out) (Kd.R_base ho0) hb);have n7_:=Aside0.mk (Kd.N_elder' (by (with_reducible repeat (first|apply Kd.N_alloc|apply Kd.N_drewN|apply Kd.N_drew));exact HO254.out) (Kd.R_base ho0) hb);have n8_:=Aside0.mk (Kd.R_lower (Kd.R_new' (Kd.R_new' (Kd.R_new' (Kd.R_new' ho0 (Kd.R_lt (by (with_reducible repeat (first|apply Kd.R_alloc|apply Kd.R_drewN|apply Kd.R_drew));exact HO_0.out))) (Kd.R_lt (by (with_reducible repeat (first|apply Kd.R_alloc|apply Kd.R_drewN|apply Kd.R_drew));exact HO_1.out))) (Kd.R_lt (by (with_reducible repeat (first|apply Kd.R_alloc|apply Kd.R_drewN|apply Kd.R_drew));exact HO244.out))) (Kd.R_lt (by (with_reducible repeat (first|apply Kd.R_alloc|apply Kd.R_drewN|apply Kd.R_drew));exact HO250.out))) (below_size (by repeat (first|(with_reducible first|exact HB.out|apply below_alloc|apply pw_below_drewN|apply below_drew1)|exact HB.out))));have n9_:=Aside0.mk (below_step (by repeat (first|(with_reducible first|exact HB.out|apply below_alloc|apply pw_below_drewN|apply below_drew1)|exact HB.out)) hb);clear HO_0;clear HO_1;clear HO_7;clear HO241;clear HO244;clear HO247;clear HO250;clear HO254;clear HB;have HO_0:=n0_;have HO_1:=n1_;have HO_7:=n2_;have HO241:=n3_;have HO244:=n4_;have HO247:=n5_;have HO250:=n6_;have HO254:=n7_;have HO257:=n8_;have HB:=n9_;clear n0_ n1_ n2_ n3_ n4_ n5_ n6_ n7_ n8_ n9_;(try clear hb);(try clear hb2);(try clear hk);(try clear hi);(try clear ho0))|((with_reducible refine gate_dst (N:=60) rfl ?_);(try (refine gate_guard (by rfl) ?_;dsimp only));refine Kd.N_lit (Kd.slice 46 k46) _ 22 ?hg (N':=60) ?hd (xs:=([t228,t231] : List (List (S46)))) (inner:=[.slice Ao26 t228.length co26,.slice Ao27 t231.length co27]) (ok:=(fun k_ => some k_ ≠ (.slice Ao40 x7_5.length co40 : Value).ownBlock ∧ some k_ ≠ (.slice Ao30 y239.length co30 : Value).ownBlock ∧ some k_ ≠ (.slice Ao36 t242.length co36 : Value).ownBlock ∧ some k_ ≠ (.slice Ao34 y245.length co34 : Value).ownBlock ∧ some k_ ≠ (.slice Ao37 t248.length co37 : Value).ownBlock ∧ some k_ ≠ (.slice Ao41 y252.length co41 : Value).ownBlock ∧ some k_ ≠ (v256 : Value).ownBlock)) (okp:=(fun k_ => some k_ ≠ (.slice Ao40 x7_5.length co40 : Value).ownBlock ∧ some k_ ≠ (.slice Ao30 y239.length co30 : Value).ownBlock ∧ some k_ ≠ (.slice Ao36 t242.length co36 : Value).ownBlock ∧ some k_ ≠ (.slice Ao34 y245.length co34 : Value).ownBlock ∧ some k_ ≠ (.slice Ao37 t248.length co37 : Value).ownBlock ∧ some k_ ≠ (.slice Ao41 y252.length co41 : Value).ownBlock ∧ some k_ ≠ (v256 : Value).ownBlock)) ?hr ?hp (fun _ hk => hk) ((show ∀ k_,w42.heap.size ≤ k_ → (fun k_ => some k_ ≠ (.slice Ao40 x7_5.length co40 : Value).ownBlock ∧ some k_ ≠ (.slice Ao30 y239.length co30 : Value).ownBlock ∧ some k_ ≠ (.slice Ao36 t242.length co36 : Value).ownBlock ∧ some k_ ≠ (.slice Ao34 y245.length co34 : Value).ownBlock ∧ some k_ ≠ (.slice Ao37 t248.length co37 : Value).ownBlock ∧ some k_ ≠ (.slice Ao41 y252.length co41 : Value).ownBlock ∧ some k_ ≠ (v256 : Value).ownBlock) k_ from fun k_ hk => ⟨Kd.fresh' (Kd.R_lt (by (with_reducible repeat (first|apply Kd.R_alloc|apply Kd.R_drewN|apply Kd.R_drew));exact HO_7.out)) k_ hk,Kd.fresh' (Kd.N_lt (by (with_reducible repeat (first|apply Kd.N_alloc|apply Kd.N_drewN|apply Kd.N_drew));exact HO241.out)) k_ hk,Kd.fresh' (Kd.R_lt (by (with_reducible repeat (first|apply Kd.R_alloc|apply Kd.R_drewN|apply Kd.R_drew));exact HO244.out)) k_ hk,Kd.fresh' (Kd.N_lt (by (with_reducible repeat (first|apply Kd.N_alloc|apply Kd.N_drewN|apply Kd.N_drew));exact HO247.out)) k_ hk,Kd.fresh' (Kd.R_lt (by (with_reducible repeat (first|apply Kd.R_alloc|apply Kd.R_drewN|apply Kd.R_drew));exact HO250.out)) k_ hk,Kd.fresh' (Kd.N_lt (by (with_reducible repeat (first|apply Kd.N_alloc|apply Kd.N_drewN|apply Kd.N_drew));exact HO254.out)) k_ hk,Kd.fresh' (Kd.R_lt (by (with_reducible repeat (first|apply Kd.R_alloc|apply Kd.R_drewN|apply Kd.R_drew));exact HO257.out)) k_ hk⟩) _ (Nat.le_refl _)) (Below.refl _ _) (Nat.le_refl _) (by simp) ?_;(case hd => rfl);(case hg => rfl);(case hr => first|(go_simp;done)|(go_simp;rfl));(case hp => exact (Reps.one (show Kd.FK (Kd.slice 46 k46) _ _ t228 [.slice Ao26 t228.length co26] from (Kd.FK_slice_mk (Kd.R_reads' (Kd.R_mono (ok':=(fun k_ => some k_ ≠ (.slice Ao40 x7_5.length co40 : Value).ownBlock ∧ some k_ ≠ (.slice Ao30 y239.length co30 : Value).ownBlock ∧ some k_ ≠ (.slice Ao36 t242.length co36 : Value).ownBlock ∧ some k_ ≠ (.slice Ao34 y245.length co34 : Value).ownBlock ∧ some k_ ≠ (.slice Ao37 t248.length co37 : Value).ownBlock ∧ some k_ ≠ (.slice Ao41 y252.length co41 : Value).ownBlock ∧ some k_ ≠ (v256 : Value).ownBlock)) (Kd.R_apart' (Kd.R_apart' (Kd.R_apart' (Kd.R_apart' (HO_0.out) (Kd.R_typed HO_7.out) (by decide)) (Kd.N_typed HO241.out) (by decide)) (Kd.N_typed HO247.out) (by decide)) (Kd.N_typed HO254.out) (by decide)) (fun k_ hk => ⟨hk.1.1.1.2,⟨hk.1.1.2,⟨hk.1.1.1.1.1.1.2,⟨hk.1.2,⟨hk.1.1.1.1.1.2,⟨hk.2,hk.1.1.1.1.2⟩⟩⟩⟩⟩⟩))).2.1 (Kd.R_F (Kd.R_mono (ok':=(fun k_ => some k_ ≠ (.slice Ao40 x7_5.length co40 : Value).ownBlock ∧ some k_ ≠ (.slice Ao30 y239.length co30 : Value).ownBlock ∧ some k_ ≠ (.slice Ao36 t242.length co36 : Value).ownBlock ∧ some k_ ≠ (.slice Ao34 y245.length co34 : Value).ownBlock ∧ some k_ ≠ (.slice Ao37 t248.length co37 : Value).ownBlock ∧ some k_ ≠ (.slice Ao41 y252.length co41 : Value).ownBlock ∧ some k_ ≠ (v256 : Value).ownBlock)) (Kd.R_apart' (Kd.R_apart' (Kd.R_apart' (Kd.R_apart' (HO_0.out) (Kd.R_typed HO_7.out) (by decide)) (Kd.N_typed HO241.out) (by decide)) (Kd.N_typed HO247.out) (by decide)) (Kd.N_typed HO254.out) (by decide)) (fun k_ hk => ⟨hk.1.1.1.2,⟨hk.1.1.2,⟨hk.1.1.1.1.1.1.2,⟨hk.1.2,⟨hk.1.1.1.1.1.2,⟨hk.2,hk.1.1.1.1.2⟩⟩⟩⟩⟩⟩))))) (Reps.one (show Kd.FK (Kd.slice 46 k46) _ _ t231 [.slice Ao27 t231.length co27] from (Kd.FK_slice_mk (Kd.R_reads' (Kd.R_mono (ok':=(fun k_ => some k_ ≠ (.slice Ao40 x7_5.length co40 : Value).ownBlock ∧ some k_ ≠ (.slice Ao30 y239.length co30 : Value).ownBlock ∧ some k_ ≠ (.slice Ao36 t242.length co36 : Value).ownBlock ∧ some k_ ≠ (.slice Ao34 y245.length co34 : Value).ownBlock ∧ some k_ ≠ (.slice Ao37 t248.length co37 : Value).ownBlock ∧ some k_ ≠ (.slice Ao41 y252.length co41 : Value).ownBlock ∧ some k_ ≠ (v256 : Value).ownBlock)) (Kd.R_apart' (Kd.R_apart' (Kd.R_apart' (Kd.R_apart' (HO_1.out) (Kd.R_typed HO_7.out) (by decide)) (Kd.N_typed HO241.out) (by decide)) (Kd.N_typed HO247.out) (by decide)) (Kd.N_typed HO254.out) (by decide)) (fun k_ hk => ⟨hk.1.1.1.2,⟨hk.1.1.2,⟨hk.1.1.1.1.1.1.2,⟨hk.1.2,⟨hk.1.1.1.1.1.2,⟨hk.2,hk.1.1.1.1.2⟩⟩⟩⟩⟩⟩))).2.1 (Kd.R_F (Kd.R_mono (ok':=(fun k_ => some k_ ≠ (.slice Ao40 x7_5.length co40 : Value).ownBlock ∧ some k_ ≠ (.slice Ao30 y239.length co30 : Value).ownBlock ∧ some k_ ≠ (.slice Ao36 t242.length co36 : Value).ownBlock ∧ some k_ ≠ (.slice Ao34 y245.length co34 : Value).ownBlock ∧ some k_ ≠ (.slice Ao37 t248.length co37 : Value).ownBlock ∧ some k_ ≠ (.slice Ao41 y252.length co41 : Value).ownBlock ∧ some k_ ≠ (v256 : Value).ownBlock)) (Kd.R_apart' (Kd.R_apart' (Kd.R_apart' (Kd.R_apart' (HO_1.out) (Kd.R_typed HO_7.out) (by decide)) (Kd.N_typed HO241.out) (by decide)) (Kd.N_typed HO247.out) (by decide)) (Kd.N_typed HO254.out) (by decide)) (fun k_ hk => ⟨hk.1.1.1.2,⟨hk.1.1.2,⟨hk.1.1.1.1.1.1.2,⟨hk.1.2,⟨hk.1.1.1.1.1.2,⟨hk.2,hk.1.1.1.1.2⟩⟩⟩⟩⟩⟩))))) (Reps.none _ _))));intro v259 w43 ho44 hb hg_ hnew_;clear hg_ hnew_;(first|rw [← Ny258.out] at ho44|(simp only [Int.reduceToNat] at ho44;rw [← Ny258.out] at ho44));have n0_:=Aside0.mk (Kd.R_below (by (with_reducible repeat (first|apply Kd.R_alloc|apply Kd.R_drewN|apply Kd.R_drew));exact HO_0.out) hb);have n1_:=Aside0.mk (Kd.R_below (by (with_reducible repeat (first|apply Kd.R_alloc|apply Kd.R_drewN|apply Kd.R_drew));exact HO_1.out) hb);have n2_:=Aside0.mk (Kd.R_below (by (with_reducible repeat (first|apply Kd.R_alloc|apply Kd.R_drewN|apply Kd.R_drew));exact HO_7.out) hb);have n3_:=Aside0.mk (Kd.N_elder' (by (with_reducible repeat (first|apply Kd.N_alloc|apply Kd.N_drewN|apply Kd.N_drew));exact HO241.out) (Kd.N_base ho44) hb);have n4_:=Aside0.mk (Kd.R_below (by (with_reducible repeat (first|apply Kd.R_alloc|apply Kd.R_drewN|apply Kd.R_drew));exact HO244.out) hb);have n5_:=Aside0.mk (Kd.N_elder' (by (with_reducible repeat (first|apply Kd.N_alloc|apply Kd.N_drewN|apply Kd.N_drew));exact HO247.out) (Kd.N_base ho44) hb);have n6_:=Aside0.mk (Kd.R_below (by (with_reducible repeat (first|apply Kd.R_alloc|apply Kd.R_drewN|apply Kd.R_drew));exact HO250.out) hb);have n7_:=Aside0.mk (Kd.N_elder' (by (with_reducible repeat (first|apply Kd.N_alloc|apply Kd.N_drewN|apply Kd.N_drew));exact HO254.out) (Kd.N_base ho44) hb);have n8_:=Aside0.mk (Kd.R_below (by (with_reducible repeat (first|apply Kd.R_alloc|apply Kd.R_drewN|apply Kd.R_drew));exact HO257.out) hb);have n9_:=Aside0.mk (Kd.N_lower ho44 (below_size (by repeat (first|(with_reducible first|exact HB.out|apply below_alloc|apply pw_below_drewN|apply below_drew1)|exact HB.out))));have n10_:=Aside0.mk (below_step (by repeat (first|(with_reducible first|exact HB.out|apply below_alloc|apply pw_below_drewN|apply below_drew1)|exact HB.out)) hb);clear HO_0;clear HO_1;clear HO_7;clear HO241;clear HO244;clear HO247;clear HO250;clear HO254;clear HO257;clear HB;have HO_0:=n0_;have HO_1:=n1_;have HO_7:=n2_;have HO241:=n3_;have HO244:=n4_;have HO247:=n5_;have HO250:=n6_;have HO254:=n7_;have HO257:=n8_;have HO260:=n9_;have HB:=n10_;clear n0_ n1_ n2_ n3_ n4_ n5_ n6_ n7_ n8_ n9_ n10_;clear hb ho44;obtain ⟨Ao45,co45,eo45⟩:=Kd.N_slice HO260.out;subst eo45)|(go_at_call 19;(with_reducible refine (racewayref25_Made.calls kj5 7 _ _ x7_5 _ _ y258 t261 _ ?side1 ?side2 ?side3 ?side4 A24.out).mono ?_);(case side1 => repeat (first|exact (Kd.R_reads' HO_7.out).2.2|(with_reducible refine Kd.C_alloc ?_ _)|(with_reducible refine Kd.C_drewN ?_ _)|(with_reducible refine Kd.C_drew ?_)));(case side2 => exact (Kd.R_reads' HO_7.out).2.1);(case side3 => repeat (first|exact (Kd.N_reads' HO260.out).2.2|(with_reducible refine Kd.C_alloc ?_ _)|(with_reducible refine Kd.C_drewN ?_ _)|(with_reducible refine Kd.C_drew ?_)));(case side4 => exact (Kd.N_reads' HO260.out).2.1);rintro e w46 ⟨v262,rfl,ho0,hb⟩;have n0_:=Aside0.mk (Kd.R_elder' (by (with_reducible repeat (first|apply Kd.R_alloc|apply Kd.R_drewN|apply Kd.R_drew));exact HO_0.out) (Kd.R_base ho0) hb);have n1_:=Aside0.mk (Kd.R_elder' (by (with_reducible repeat (first|apply Kd.R_alloc|apply Kd.R_drewN|apply Kd.R_drew));exact HO_1.out) (Kd.R_base ho0) hb);have n2_:=Aside0.mk (Kd.R_below (by (with_reducible repeat (first|apply Kd.R_alloc|apply Kd.R_drewN|apply Kd.R_drew));exact HO_7.out) hb);have n3_:=Aside0.mk (Kd.N_elder' (by (with_reducible repeat (first|apply Kd.N_alloc|apply Kd.N_drewN|apply Kd.N_drew));exact HO241.out) (Kd.R_base ho0) hb);have n4_:=Aside0.mk (Kd.R_elder' (by (with_reducible repeat (first|apply Kd.R_alloc|apply Kd.R_drewN|apply Kd.R_drew));exact HO244.out) (Kd.R_base ho0) hb);have n5_:=Aside0.mk (Kd.N_elder' (by (with_reducible repeat (first|apply Kd.N_alloc|apply Kd.N_drewN|apply Kd.N_drew));exact HO247.out) (Kd.R_base ho0) hb);have n6_:=Aside0.mk (Kd.R_elder' (by (with_reducible repeat (first|apply Kd.R_alloc|apply Kd.R_drewN|apply Kd.R_drew));exact HO250.out) (Kd.R_base ho0) hb);have n7_:=Aside0.mk (Kd.N_elder' (by (with_reducible repeat (first|apply Kd.N_alloc|apply Kd.N_drewN|apply Kd.N_drew));exact HO254.out) (Kd.R_base ho0) hb);have n8_:=Aside0.mk (Kd.R_elder' (by (with_reducible repeat (first|apply Kd.R_alloc|apply Kd.R_drewN|apply Kd.R_drew));exact HO257.out) (Kd.R_base ho0) hb);have n9_:=Aside0.mk (Kd.N_elder' (by (with_reducible repeat (first|apply Kd.N_alloc|apply Kd.N_drewN|apply Kd.N_drew));exact HO260.out) (Kd.R_base ho0) hb);have n10_:=Aside0.mk (Kd.R_lower (Kd.R_new' (Kd.R_new' (Kd.R_new' (Kd.R_new' (Kd.R_new' ho0 (Kd.R_lt (by (with_reducible repeat (first|apply Kd.R_alloc|apply Kd.R_drewN|apply Kd.R_drew));exact HO_0.out))) (Kd.R_lt (by (with_reducible repeat (first|apply Kd.R_alloc|apply Kd.R_drewN|apply Kd.R_drew));exact HO_1.out))) (Kd.R_lt (by (with_reducible repeat (first|apply Kd.R_alloc|apply Kd.R_drewN|apply Kd.R_drew));exact HO244.out))) (Kd.R_lt (by (with_reducible repeat (first|apply Kd.R_alloc|apply Kd.R_drewN|apply Kd.R_drew));exact HO250.out))) (Kd.R_lt (by (with_reducible repeat (first|apply Kd.R_alloc|apply Kd.R_drewN|apply Kd.R_drew));exact HO257.out))) (below_size (by repeat (first|(with_reducible first|exact HB.out|apply below_alloc|apply pw_below_drewN|apply below_drew1)|exact HB.out))));have n11_:=Aside0.mk (below_step (by repeat (first|(with_reducible first|exact HB.out|apply below_alloc|apply pw_below_drewN|apply below_drew1)|exact HB.out)) hb);clear HO_0;clear HO_1;clear HO_7;clear HO241;clear HO244;clear HO247;clear HO250;clear HO254;clear HO257;clear HO260;clear HB;have HO_0:=n0_;have HO_1:=n1_;have HO_7:=n2_;have HO241:=n3_;have HO244:=n4_;have HO247:=n5_;have HO250:=n6_;have HO254:=n7_;have HO257:=n8_;have HO260:=n9_;have HO263:=n10_;have HB:=n11_;clear n0_ n1_ n2_ n3_ n4_ n5_ n6_ n7_ n8_ n9_ n10_ n11_;(try clear hb);(try clear hb2);(try clear hk);(try clear hi);(try clear ho0);obtain ⟨Ao47,co47,eo47⟩:=Kd.R_slice HO257.out;subst eo47;obtain ⟨Ao48,co48,eo48⟩:=Kd.R_slice HO263.out;subst eo48)|(go_at_call 12;(with_reducible refine (racewayref25_Same.calls kj5 _ _ t255 _ _ t261 t264 _ ?side1 ?side2 ?side3 ?side4 A25.out).mono ?_);(case side1 => repeat (first|exact (Kd.R_reads' HO257.out).2.2|(with_reducible refine Kd.C_alloc ?_ _)|(with_reducible refine Kd.C_drewN ?_ _)|(with_reducible refine Kd.C_drew ?_)));(case side2 => exact (Kd.R_reads' HO257.out).2.1);(case side3 => repeat (first|exact (Kd.R_reads' HO263.out).2.2|(with_reducible refine Kd.C_alloc ?_ _)|(with_reducible refine Kd.C_drewN ?_ _)|(with_reducible refine Kd.C_drew ?_)));(case side4 => exact (Kd.R_reads' HO263.out).2.1);rintro e w' ⟨rfl,⟨nd,rfl⟩⟩))
     go_meet
     case rel => exact ⟨_,(!t264),(by first|rfl|(simp;done)|(simp;decide +kernel)|(simp [*];done)),(by first|exact H'|(subst_vars;exact H')),⟨by have:=HJ5.out;first|omega|exact Nat.le_refl _⟩,⟨by (with_reducible repeat (first|apply Kd.R_alloc|apply Kd.R_drewN|apply Kd.R_drew));exact Kd.R_mono HO_0.out (fun _ hk => trivial)⟩,⟨by repeat (first|(with_reducible first|exact HB.out|apply below_alloc|apply pw_below_drewN|apply below_drew1)|exact HB.out)⟩⟩
    ·replace c22:=Bool.eq_false_iff.mpr c22
     subst c22
     have H1 : (racewaylaw25_JsontextMakes.j2 kj5 t228 true) = some r:=by rw [if_neg (show ¬ (false = true) by decide)] at H;exact H
     clear H
     have H:=H1
     clear H1
     have H':=Aside0.mk H
     clear H
     obtain ⟨Ao49,co49,eo49⟩:=Kd.R_slice HO_0.out
     subst eo49
     obtain ⟨Ao50,co50,eo50⟩:=Kd.R_slice HO_1.out
     subst eo50
     go_wp2_with (first|((with_reducible refine gate_dst (N:=43) rfl ?_);(try (refine gate_guard (by rfl) ?_;dsimp only));refine Kd.N_lit (Kd.slice 46 k46) _ 22 ?hg (N':=43) ?hd (xs:=([t228,t231] : List (List (S46)))) (inner:=[.slice Ao49 t228.length co49,.slice Ao50 t231.length co50]) (ok:=(fun k_ => some k_ ≠ (u7 : Value).ownBlock)) (okp:=(fun k_ => some k_ ≠ (u7 : Value).ownBlock)) ?hr ?hp (fun _ hk => hk) ((show ∀ k_,wc.heap.size ≤ k_ → (fun k_ => some k_ ≠ (u7 : Value).ownBlock) k_ from fun k_ hk => Kd.fresh' (Kd.R_lt (by (with_reducible repeat (first|apply Kd.R_alloc|apply Kd.R_drewN|apply Kd.R_drew));exact HO_7.out)) k_ hk) _ (Nat.le_refl _)) (Below.refl _ _) (Nat.le_refl _) (by simp) ?_;(case hd => rfl);(case hg => rfl);(case hr => first|(go_simp;done)|(go_simp;rfl));(case hp => exact (Reps.one (show Kd.FK (Kd.slice 46 k46) _ _ t228 [.slice Ao49 t228.length co49] from (Kd.FK_slice_mk (Kd.R_reads' (Kd.R_mono (ok':=(fun k_ => some k_ ≠ (u7 : Value).ownBlock)) (Kd.R_apart' (HO_0.out) (Kd.R_typed HO_7.out) (by decide)) (fun k_ hk => hk.2))).2.1 (Kd.R_F (Kd.R_mono (ok':=(fun k_ => some k_ ≠ (u7 : Value).ownBlock)) (Kd.R_apart' (HO_0.out) (Kd.R_typed HO_7.out) (by decide)) (fun k_ hk => hk.2))))) (Reps.one (show Kd.FK (Kd.slice 46 k46) _ _ t231 [.slice Ao50 t231.length co50] from (Kd.FK_slice_mk (Kd.R_reads' (Kd.R_mono (ok':=(fun k_ => some k_ ≠ (u7 : Value).ownBlock)) (Kd.R_apart' (HO_1.out) (Kd.R_typed HO_7.out) (by decide)) (fun k_ hk => hk.2))).2.1 (Kd.R_F (Kd.R_mono (ok':=(fun k_ => some k_ ≠ (u7 : Value).ownBlock)) (Kd.R_apart' (HO_1.out) (Kd.R_typed HO_7.out) (by decide)) (fun k_ hk => hk.2))))) (Reps.none _ _))));intro v240 w51 ho52 hb hg_ hnew_;clear hg_ hnew_;(first|rw [← Ny239.out] at ho52|(simp only [Int.reduceToNat] at ho52;rw [← Ny239.out] at ho52));have n0_:=Aside0.mk (Kd.R_below (by (with_reducible repeat (first|apply Kd.R_alloc|apply Kd.R_drewN|apply Kd.R_drew));exact HO_0.out) hb);have n1_:=Aside0.mk (Kd.R_below (by (with_reducible repeat (first|apply Kd.R_alloc|apply Kd.R_drewN|apply Kd.R_drew));exact HO_1.out) hb);have n2_:=Aside0.mk (Kd.R_below (by (with_reducible repeat (first|apply Kd.R_alloc|apply Kd.R_drewN|apply Kd.R_drew));exact HO_7.out) hb);have n3_:=Aside0.mk (Kd.N_lower ho52 (below_size (by repeat (first|(with_reducible first|exact HB.out|apply below_alloc|apply pw_below_drewN|apply below_drew1)|exact HB.out))));have n4_:=Aside0.mk (below_step (by repeat (first|(with_reducible first|exact HB.out|apply below_alloc|apply pw_below_drewN|apply below_drew1)|exact HB.out)) hb);clear HO_0;clear HO_1;clear HO_7;clear HB;have HO_0:=n0_;have HO_1:=n1_;have HO_7:=n2_;have HO241:=n3_;have HB:=n4_;clear n0_ n1_ n2_ n3_ n4_;clear hb ho52;obtain ⟨Ao53,co53,eo53⟩:=Kd.N_slice HO241.out;subst eo53)|((with_reducible refine gate_callee (f:=18) rfl ?_);refine goesL_ (some 44) rfl rfl Tryd.func18 (by kernel_rfl) rfl #[.slice Ao53 y239.length co53] rfl (by (try simp only [List.map_toArray,List.map_cons,List.map_nil]);first|done|rfl|(simp only [List.length_drop,List.length_take];rfl)) ?_;(with_reducible refine (jsontext_List.calls kj5 _ _ y239 t242 _ ?side3 ?side1 ?side2 A19.out).mono ?_);(case side1 => repeat (first|exact (Kd.N_reads' HO241.out).2.2|(with_reducible refine Kd.C_alloc ?_ _)|(with_reducible refine Kd.C_drewN ?_ _)|(with_reducible refine Kd.C_drew ?_)));(case side2 => exact (Kd.N_reads' HO241.out).2.1);(case side3 => first|exact HGU8.out|exact GlobU8.below HGU8.out (by repeat (first|(with_reducible first|exact HB.out|apply below_alloc|apply pw_below_drewN|apply below_drew1)|exact HB.out))|exact GlobU8.drawn HGU8.out (by repeat (first|exact Drawn0.refl _|apply Drawn0.step)));rintro e w54 ⟨v243,rfl,ho0,hb⟩;refine ⟨_,rfl,?_⟩;have n0_:=Aside0.mk (Kd.R_elder' (by (with_reducible repeat (first|apply Kd.R_alloc|apply Kd.R_drewN|apply Kd.R_drew));exact HO_0.out) (Kd.R_base ho0) hb);have n1_:=Aside0.mk (Kd.R_elder' (by (with_reducible repeat (first|apply Kd.R_alloc|apply Kd.R_drewN|apply Kd.R_drew));exact HO_1.out) (Kd.R_base ho0) hb);have n2_:=Aside0.mk (Kd.R_below (by (with_reducible repeat (first|apply Kd.R_alloc|apply Kd.R_drewN|apply Kd.R_drew));exact HO_7.out) hb);have n3_:=Aside0.mk (Kd.N_elder' (by (with_reducible repeat (first|apply Kd.N_alloc|apply Kd.N_drewN|apply Kd.N_drew));exact HO241.out) (Kd.R_base ho0) hb);have n4_:=Aside0.mk (Kd.R_lower (Kd.R_new' (Kd.R_new' ho0 (Kd.R_lt (by (with_reducible repeat (first|apply Kd.R_alloc|apply Kd.R_drewN|apply Kd.R_drew));exact HO_0.out))) (Kd.R_lt (by (with_reducible repeat (first|apply Kd.R_alloc|apply Kd.R_drewN|apply Kd.R_drew));exact HO_1.out))) (below_size (by repeat (first|(with_reducible first|exact HB.out|apply below_alloc|apply pw_below_drewN|apply below_drew1)|exact HB.out))));have n5_:=Aside0.mk (below_step (by repeat (first|(with_reducible first|exact HB.out|apply below_alloc|apply pw_below_drewN|apply below_drew1)|exact HB.out)) hb);clear HO_0;clear HO_1;clear HO_7;clear HO241;clear HB;have HO_0:=n0_;have HO_1:=n1_;have HO_7:=n2_;have HO241:=n3_;have HO244:=n4_;have HB:=n5_;clear n0_ n1_ n2_ n3_ n4_ n5_;(try clear hb);(try clear hb2);(try clear hk);(try clear hi);(try clear ho0))|((with_reducible refine gate_dst (N:=47) rfl ?_);(try (refine gate_guard (by rfl) ?_;dsimp only));refine Kd.N_lit (Kd.slice 46 k46) _ 22 ?hg (N':=47) ?hd (xs:=([t228,t231] : List (List (S46)))) (inner:=[.slice Ao49 t228.length co49,.slice Ao50 t231.length co50]) (ok:=(fun k_ => some k_ ≠ (u7 : Value).ownBlock ∧ some k_ ≠ (.slice Ao53 y239.length co53 : Value).ownBlock ∧ some k_ ≠ (v243 : Value).ownBlock)) (okp:=(fun k_ => some k_ ≠ (u7 : Value).ownBlock ∧ some k_ ≠ (.slice Ao53 y239.length co53 : Value).ownBlock ∧ some k_ ≠ (v243 : Value).ownBlock)) ?hr ?hp (fun _ hk => hk) ((show ∀ k_,w54.heap.size ≤ k_ → (fun k_ => some k_ ≠ (u7 : Value).ownBlock ∧ some k_ ≠ (.slice Ao53 y239.length co53 : Value).ownBlock ∧ some k_ ≠ (v243 : Value).ownBlock) k_ from fun k_ hk => ⟨Kd.fresh' (Kd.R_lt (by (with_reducible repeat (first|apply Kd.R_alloc|apply Kd.R_drewN|apply Kd.R_drew));exact HO_7.out)) k_ hk,Kd.fresh' (Kd.N_lt (by (with_reducible repeat (first|apply Kd.N_alloc|apply Kd.N_drewN|apply Kd.N_drew));exact HO241.out)) k_ hk,Kd.fresh' (Kd.R_lt (by (with_reducible repeat (first|apply Kd.R_alloc|apply Kd.R_drewN|apply Kd.R_drew));exact HO244.out)) k_ hk⟩) _ (Nat.le_refl _)) (Below.refl _ _) (Nat.le_refl _) (by simp) ?_;(case hd => rfl);(case hg => rfl);(case hr => first|(go_simp;done)|(go_simp;rfl));(case hp => exact (Reps.one (show Kd.FK (Kd.slice 46 k46) _ _ t228 [.slice Ao49 t228.length co49] from (Kd.FK_slice_mk (Kd.R_reads' (Kd.R_mono (ok':=(fun k_ => some k_ ≠ (u7 : Value).ownBlock ∧ some k_ ≠ (.slice Ao53 y239.length co53 : Value).ownBlock ∧ some k_ ≠ (v243 : Value).ownBlock)) (Kd.R_apart' (Kd.R_apart' (HO_0.out) (Kd.R_typed HO_7.out) (by decide)) (Kd.N_typed HO241.out) (by decide)) (fun k_ hk => ⟨hk.1.2,⟨hk.2,hk.1.1.2⟩⟩))).2.1 (Kd.R_F (Kd.R_mono (ok':=(fun k_ => some k_ ≠ (u7 : Value).ownBlock ∧ some k_ ≠ (.slice Ao53 y239.length co53 : Value).ownBlock ∧ some k_ ≠ (v243 : Value).ownBlock)) (Kd.R_apart' (Kd.R_apart' (HO_0.out) (Kd.R_typed HO_7.out) (by decide)) (Kd.N_typed HO241.out) (by decide)) (fun k_ hk => ⟨hk.1.2,⟨hk.2,hk.1.1.2⟩⟩))))) (Reps.one (show Kd.FK (Kd.slice 46 k46) _ _ t231 [.slice Ao50 t231.length co50] from (Kd.FK_slice_mk (Kd.R_reads' (Kd.R_mono (ok':=(fun k_ => some k_ ≠ (u7 : Value).ownBlock ∧ some k_ ≠ (.slice Ao53 y239.length co53 : Value).ownBlock ∧ some k_ ≠ (v243 : Value).ownBlock)) (Kd.R_apart' (Kd.R_apart' (HO_1.out) (Kd.R_typed HO_7.out) (by decide)) (Kd.N_typed HO241.out) (by decide)) (fun k_ hk => ⟨hk.1.2,⟨hk.2,hk.1.1.2⟩⟩))).2.1 (Kd.R_F (Kd.R_mono (ok':=(fun k_ => some k_ ≠ (u7 : Value).ownBlock ∧ some k_ ≠ (.slice Ao53 y239.length co53 : Value).ownBlock ∧ some k_ ≠ (v243 : Value).ownBlock)) (Kd.R_apart' (Kd.R_apart' (HO_1.out) (Kd.R_typed HO_7.out) (by decide)) (Kd.N_typed HO241.out) (by decide)) (fun k_ hk => ⟨hk.1.2,⟨hk.2,hk.1.1.2⟩⟩))))) (Reps.none _ _))));intro v246 w55 ho56 hb hg_ hnew_;clear hg_ hnew_;(first|rw [← Ny245.out] at ho56|(simp only [Int.reduceToNat] at ho56;rw [← Ny245.out] at ho56));have n0_:=Aside0.mk (Kd.R_below (by (with_reducible repeat (first|apply Kd.R_alloc|apply Kd.R_drewN|apply Kd.R_drew));exact HO_0.out) hb);have n1_:=Aside0.mk (Kd.R_below (by (with_reducible repeat (first|apply Kd.R_alloc|apply Kd.R_drewN|apply Kd.R_drew));exact HO_1.out) hb);have n2_:=Aside0.mk (Kd.R_below (by (with_reducible repeat (first|apply Kd.R_alloc|apply Kd.R_drewN|apply Kd.R_drew));exact HO_7.out) hb);have n3_:=Aside0.mk (Kd.N_elder' (by (with_reducible repeat (first|apply Kd.N_alloc|apply Kd.N_drewN|apply Kd.N_drew));exact HO241.out) (Kd.N_base ho56) hb);have n4_:=Aside0.mk (Kd.R_below (by (with_reducible repeat (first|apply Kd.R_alloc|apply Kd.R_drewN|apply Kd.R_drew));exact HO244.out) hb);have n5_:=Aside0.mk (Kd.N_lower ho56 (below_size (by repeat (first|(with_reducible first|exact HB.out|apply below_alloc|apply pw_below_drewN|apply below_drew1)|exact HB.out))));have n6_:=Aside0.mk (below_step (by repeat (first|(with_reducible first|exact HB.out|apply below_alloc|apply pw_below_drewN|apply below_drew1)|exact HB.out)) hb);clear HO_0;clear HO_1;clear HO_7;clear HO241;clear HO244;clear HB;have HO_0:=n0_;have HO_1:=n1_;have HO_7:=n2_;have HO241:=n3_;have HO244:=n4_;have HO247:=n5_;have HB:=n6_;clear n0_ n1_ n2_ n3_ n4_ n5_ n6_;clear hb ho56;obtain ⟨Ao57,co57,eo57⟩:=Kd.N_slice HO247.out;subst eo57)|((with_reducible refine gate_callee (f:=19) rfl ?_);refine goesL_ (some 48) rfl rfl Tryd.func19 (by kernel_rfl) rfl #[.int .i64 6,.slice none 0 0,.slice Ao57 y245.length co57] rfl (by (try simp only [List.map_toArray,List.map_cons,List.map_nil]);first|done|rfl|(simp only [List.length_drop,List.length_take];rfl)) ?_;(refine (racewayref25_Made.calls kj5 6 _ _ ([] : List ByteArray) _ _ y245 t248 _ ?side1 ?side2 ?side3 ?side4 A20.out).mono ?_);(case side1 => exact Kd.C_nil _ _);(case side2 => exact Nat.le_refl _);(case side3 => repeat (first|exact (Kd.N_reads' HO247.out).2.2|(with_reducible refine Kd.C_alloc ?_ _)|(with_reducible refine Kd.C_drewN ?_ _)|(with_reducible refine Kd.C_drew ?_)));(case side4 => exact (Kd.N_reads' HO247.out).2.1);rintro e w58 ⟨v249,rfl,ho0,hb⟩;refine ⟨_,rfl,?_⟩;have n0_:=Aside0.mk (Kd.R_elder' (by (with_reducible repeat (first|apply Kd.R_alloc|apply Kd.R_drewN|apply Kd.R_drew));exact HO_0.out) (Kd.R_base ho0) hb);have n1_:=Aside0.mk (Kd.R_elder' (by (with_reducible repeat (first|apply Kd.R_alloc|apply Kd.R_drewN|apply Kd.R_drew));exact HO_1.out) (Kd.R_base ho0) hb);have n2_:=Aside0.mk (Kd.R_below (by (with_reducible repeat (first|apply Kd.R_alloc|apply Kd.R_drewN|apply Kd.R_drew));exact HO_7.out) hb);have n3_:=Aside0.mk (Kd.N_elder' (by (with_reducible repeat (first|apply Kd.N_alloc|apply Kd.N_drewN|apply Kd.N_drew));exact HO241.out) (Kd.R_base ho0) hb);have n4_:=Aside0.mk (Kd.R_elder' (by (with_reducible repeat (first|apply Kd.R_alloc|apply Kd.R_drewN|apply Kd.R_drew));exact HO244.out) (Kd.R_base ho0) hb);have n5_:=Aside0.mk (Kd.N_elder' (by (with_reducible repeat (first|apply Kd.N_alloc|apply Kd.N_drewN|apply Kd.N_drew));exact HO247.out) (Kd.R_base ho0) hb);have n6_:=Aside0.mk (Kd.R_lower (Kd.R_new' (Kd.R_new' (Kd.R_new' ho0 (Kd.R_lt (by (with_reducible repeat (first|apply Kd.R_alloc|apply Kd.R_drewN|apply Kd.R_drew));exact HO_0.out))) (Kd.R_lt (by (with_reducible repeat (first|apply Kd.R_alloc|apply Kd.R_drewN|apply Kd.R_drew));exact HO_1.out))) (Kd.R_lt (by (with_reducible repeat (first|apply Kd.R_alloc|apply Kd.R_drewN|apply Kd.R_drew));exact HO244.out))) (below_size (by repeat (first|(with_reducible first|exact HB.out|apply below_alloc|apply pw_below_drewN|apply below_drew1)|exact HB.out))));have n7_:=Aside0.mk (below_step (by repeat (first|(with_reducible first|exact HB.out|apply below_alloc|apply pw_below_drewN|apply below_drew1)|exact HB.out)) hb);clear HO_0;clear HO_1;clear HO_7;clear HO241;clear HO244;clear HO247;clear HB;have HO_0:=n0_;have HO_1:=n1_;have HO_7:=n2_;have HO241:=n3_;have HO244:=n4_;have HO247:=n5_;have HO250:=n6_;have HB:=n7_;clear n0_ n1_ n2_ n3_ n4_ n5_ n6_ n7_;(try clear hb);(try clear hb2);(try clear hk);(try clear hi);(try clear ho0);obtain ⟨Ao59,co59,eo59⟩:=Kd.R_slice HO244.out;subst eo59;obtain ⟨Ao60,co60,eo60⟩:=Kd.R_slice HO250.out;subst eo60)|((with_reducible refine gate_callee (f:=12) rfl ?_);refine goesL_ (some 49) rfl rfl Tryd.func12 (by kernel_rfl) rfl #[.slice Ao59 t242.length co59,.slice Ao60 t248.length co60] rfl (by (try simp only [List.map_toArray,List.map_cons,List.map_nil]);first|done|rfl|(simp only [List.length_drop,List.length_take];rfl)) ?_;(with_reducible refine (racewayref25_Same.calls kj5 _ _ t242 _ _ t248 false _ ?side1 ?side2 ?side3 ?side4 A21.out).mono ?_);(case side1 => repeat (first|exact (Kd.R_reads' HO244.out).2.2|(with_reducible refine Kd.C_alloc ?_ _)|(with_reducible refine Kd.C_drewN ?_ _)|(with_reducible refine Kd.C_drew ?_)));(case side2 => exact (Kd.R_reads' HO244.out).2.1);(case side3 => repeat (first|exact (Kd.R_reads' HO250.out).2.2|(with_reducible refine Kd.C_alloc ?_ _)|(with_reducible refine Kd.C_drewN ?_ _)|(with_reducible refine Kd.C_drew ?_)));(case side4 => exact (Kd.R_reads' HO250.out).2.1);rintro e w' ⟨rfl,⟨nd,rfl⟩⟩;refine ⟨_,rfl,?_⟩))
     go_meet
     case rel => exact ⟨_,(true),(by first|rfl|(simp;done)|(simp;decide +kernel)|(simp [*];done)),(by first|exact H'|(subst_vars;exact H')),⟨by have:=HJ5.out;first|omega|exact Nat.le_refl _⟩,⟨by (with_reducible repeat (first|apply Kd.R_alloc|apply Kd.R_drewN|apply Kd.R_drew));exact Kd.R_mono HO_0.out (fun _ hk => trivial)⟩,⟨by repeat (first|(with_reducible first|exact HB.out|apply below_alloc|apply pw_below_drewN|apply below_drew1)|exact HB.out)⟩⟩
   case rest =>
    clear HC18
    try clear c1
    try clear c2
    try clear p2
    try clear q2
    try clear hx2
    try clear p6
    try clear c7
    try clear c9
    try clear c9b0
    try clear c10
    try clear c10b0
    try clear c11
    try clear c11b0
    try clear c12
    try clear c13
    try clear c13b0
    try clear c13b1
    try clear c14
    try clear c14b0
    try clear c14b1
    try clear c15
    try clear c18
    try clear c19
    try clear c22
    try clear p23
    try clear q23
    try clear hx23
    try clear hx234_0
    try clear hx235_0
    try clear p2
    try clear p234
    try clear p235
    try clear p6
    try clear q2
    try clear q234
    try clear q235
    obtain ⟨kq,x64_17,rfl,HA,HJ17,HO_0,HB⟩:=hcut
    cases kq with
    | zero => exact absurd HA.out (by simp [racewaylaw25_JsontextMakes.j2])
    | succ kj17 =>
     have H:=HA.out
     clear HA
     simp only [racewaylaw25_JsontextMakes.j2] at H
     by_cases c61 : x64_17 = true
     ·subst c61
      have H1 : (some false) = some r:=by rw [if_pos rfl] at H;exact H
      clear H
      have H:=H1
      clear H1
      obtain rfl:=Option.some.inj H
      go_wp2
      go_ret
      exact ⟨by first|rfl|(simp [errW_none,errW_some] <;> rfl)|(simp [*,errW_none,errW_some] <;> rfl),by repeat (first|(with_reducible first|exact HB.out|apply below_alloc|apply pw_below_drewN|apply below_drew1)|exact HB.out)⟩
     ·replace c61:=Bool.eq_false_iff.mpr c61
      subst c61
      have H1 : (racewaylaw25_JsontextMakes.l1 kj17 t228 (t228.length : Int) 0) = some r:=by rw [if_neg (show ¬ (false = true) by decide)] at H;exact H
      clear H
      have H:=H1
      clear H1
      have H':=Aside0.mk H
      clear H
      obtain ⟨Ao62,co62,eo62⟩:=Kd.R_slice HO_0.out
      subst eo62
      go_wp2
      go_loopg [67] kj17 (fun kq v67 w' => ∃ (x67_3 : Int),v67 = .int .i64 x67_3 ∧ Aside0 (racewaylaw25_JsontextMakes.l1 kq t228 (t228.length : Int) x67_3 = some r) ∧ Aside0 (kq ≤ kj17) ∧ Aside0 (Kd.R k46 46 w' w.heap.size (fun _ => True) (.slice Ao62 t228.length co62) t228) ∧ Aside0 (Below w.heap.size w w'))
      case atStart => exact ⟨(0),(by first|rfl|(simp;done)|(simp;decide +kernel)|(simp [*];done)),(by first|exact H'|(subst_vars;exact H')),⟨Nat.le_refl _⟩,⟨by (with_reducible repeat (first|apply Kd.R_alloc|apply Kd.R_drewN|apply Kd.R_drew));exact HO_0.out⟩,⟨by repeat (first|(with_reducible first|exact HB.out|apply below_alloc|apply pw_below_drewN|apply below_drew1)|exact HB.out)⟩⟩
      case round =>
       clear H'
       try clear c1
       try clear c2
       try clear p2
       try clear q2
       try clear hx2
       try clear c6
       try clear p6
       try clear c7
       try clear c9
       try clear c9b0
       try clear c10
       try clear c10b0
       try clear c11
       try clear c11b0
       try clear c12
       try clear c13
       try clear c13b0
       try clear c13b1
       try clear c14
       try clear c14b0
       try clear c14b1
       try clear c15
       try clear c18
       try clear c19
       try clear c22
       try clear p23
       try clear q23
       try clear hx23
       try clear c61
       try clear hx234_0
       try clear hx235_0
       try clear p2
       try clear p23
       try clear p234
       try clear p235
       try clear p6
       try clear q2
       try clear q23
       try clear q234
       try clear q235
       obtain ⟨x67_3,rfl,HA,HK3,HO_65,HB⟩:=hrel
       cases gk with
       | zero => exact absurd HA.out (by simp [racewaylaw25_JsontextMakes.l1])
       | succ k3 =>
        have H:=HA.out
        clear HA
        simp only [racewaylaw25_JsontextMakes.l1] at H
        by_cases c63 : x67_3 < (t228.length : Int)
        ·rw [if_pos c63] at H
         have c63b0 : decide (x67_3 < (t228.length : Int)) = true:=decide_eq_true c63
         clear c63
         by_cases c64 : 0 ≤ x67_3
         ·rw [if_pos c64] at H
          have c64b0 : decide (0 ≤ x67_3) = true:=decide_eq_true c64
          clear c64
          by_cases c65 : x67_3 < (t228.length : Int)
          ·rw [if_pos c65] at H
           have c65b0 : decide (x67_3 < (t228.length : Int)) = true:=decide_eq_true c65
           clear c65
           replace H:=Option.bind_eq_some_iff.mp H
           obtain ⟨t268,A660,H⟩:=H
           replace H : ((some (([(⟨(rd_T46 t228 x67_3).f0,1,0,(⟨#[]⟩ : ByteArray),(rd_T46 t228 x67_3).f4⟩ : S46)] : List (S46)) : List (S46))).bind fun y271 => (if ((rd_T46 t228 x67_3).f0) ≥ 6 then (racewaylaw25_JsontextMakes.j4 k3 t268 y271 t228 (t228.length : Int) x67_3 true) else ((racewayref25_Check.f k3 y271).bind fun t274 => (racewaylaw25_JsontextMakes.j4 k3 t268 y271 t228 (t228.length : Int) x67_3 (t274 != 0))))) = some r:=H
           have A66:=Aside0.mk A660
           clear A660
           obtain ⟨y271,hy271⟩ : ∃ y_ : List (S46),y_ = (([(⟨(rd_T46 t228 x67_3).f0,1,0,(⟨#[]⟩ : ByteArray),(rd_T46 t228 x67_3).f4⟩ : S46)] : List (S46))):=⟨_,rfl⟩
           replace H : (if ((rd_T46 t228 x67_3).f0) ≥ 6 then (racewaylaw25_JsontextMakes.j4 k3 t268 y271 t228 (t228.length : Int) x67_3 true) else ((racewayref25_Check.f k3 y271).bind fun t274 => (racewaylaw25_JsontextMakes.j4 k3 t268 y271 t228 (t228.length : Int) x67_3 (t274 != 0)))) = some r:=by first|(rw [hy271];with_reducible exact H)|(have H2_:=(Option.bind_some _ _).symm.trans H;rw [hy271];with_reducible exact H2_)|(have H2_:=(Option.bind_some _ _).symm.trans H;with_reducible exact H2_)|with_reducible exact H|(rw [hy271];exact H)|exact H
           have Ny271:=Aside0.mk hy271
           clear hy271
           have HC67:=Aside0.mk H
           clear H
           have p266 : 0 ≤ (x67_3 : Int):=of_decide_eq_true (by first|(with_reducible assumption)|assumption)
           have q266 : x67_3 < (t228.length : Int):=of_decide_eq_true (by first|(with_reducible assumption)|assumption)
           obtain ⟨ad266,e266,hx266_0,hx266_1,hx266_2,hx266_3,hx266_4⟩:=at_T46 (Kd.R_reads' HO_65.out).2.2 x67_3 p266 q266
           cases e266
           replace p266:=eq_true p266
           replace q266:=eq_true q266
           go_upto_region 14 with (first|((with_reducible refine gate_dst (N:=10) rfl ?_);(try (refine gate_guard (by rfl) ?_;dsimp only));refine box_event ?hg (N:=10) ?hd (cs:=#[.int .i64 0,.int .i64 0,.int .i64 0,.string (⟨#[]⟩ : ByteArray),.string (⟨#[]⟩ : ByteArray)]) (t:=46) ?hr ?_;(case hd => rfl);(case hg => rfl);(case hr => first|(go_simp;done)|(go_simp;rfl));intro gb267 hg w68 hbox hb;have n0_:=Aside0.mk (Kd.R_below (Kd.R_elderB (by (with_reducible repeat (first|apply Kd.R_alloc|apply Kd.R_drewN|apply Kd.R_drew));exact HO_65.out) gb267 (Nat.le_of_eq hg.symm)) hb);have n1_:=Aside0.mk (below_step (by repeat (first|(with_reducible first|exact HB.out|apply below_alloc|apply pw_below_drewN|apply below_drew1)|exact HB.out)) hb);have n2_:=Aside0.mk (hbox);have n3_:=Aside0.mk ((by rw [hg];exact (below_size (by repeat (first|(with_reducible first|exact HB.out|apply below_alloc|apply pw_below_drewN|apply below_drew1)|exact HB.out))) : w.heap.size ≤ gb267));have n4_:=Aside0.mk ((by rw [hg];exact (below_size (by repeat (first|(with_reducible first|exact HB.out|apply below_alloc|apply pw_below_drewN|apply below_drew1)|exact HB.out))) : w.heap.size ≤ gb267));clear HO_65;clear HB;have HO_65:=n0_;have HB:=n1_;have BK267:=n2_;have GW267:=n3_;have GE267:=n4_;clear n0_ n1_ n2_ n3_ n4_;clear hb hbox hg;have hcz69_0 : w68.cell? ⟨gb267,0,none⟩ = some (.int .i64 0):=(blk_cell BK267.out 0).trans rfl;have hcz69_1 : w68.cell? ⟨gb267,1,none⟩ = some (.int .i64 0):=(blk_cell BK267.out 1).trans rfl;have hcz69_2 : w68.cell? ⟨gb267,2,none⟩ = some (.int .i64 0):=(blk_cell BK267.out 2).trans rfl;have hcz69_3 : w68.cell? ⟨gb267,3,none⟩ = some (.string (⟨#[]⟩ : ByteArray)):=(blk_cell BK267.out 3).trans rfl;have hcz69_4 : w68.cell? ⟨gb267,4,none⟩ = some (.string (⟨#[]⟩ : ByteArray)):=(blk_cell BK267.out 4).trans rfl;have hfz69_0:=blk_frozen BK267.out 0;have hfz69_1:=blk_frozen BK267.out 1;have hfz69_2:=blk_frozen BK267.out 2;have hfz69_3:=blk_frozen BK267.out 3;have hfz69_4:=blk_frozen BK267.out 4)|((with_reducible refine gate_callee (f:=17) rfl ?_);refine goesL_ (some 75) rfl rfl Tryd.func17 (by kernel_rfl) rfl #[.int .i64 ((rd_T46 t228 x67_3).f0),.string ((rd_T46 t228 x67_3).f4)] rfl (by (try simp only [List.map_toArray,List.map_cons,List.map_nil]);first|done|rfl|(simp only [List.length_drop,List.length_take];rfl)) ?_;(with_reducible refine (jsontext_Leaf.calls k3 ((rd_T46 t228 x67_3).f0) ((rd_T46 t228 x67_3).f4) t268 _ ?side1 A66.out).mono ?_);(case side1 => first|exact HGU8.out|exact GlobU8.below HGU8.out (by repeat (first|(with_reducible first|exact HB.out|apply below_alloc|apply pw_below_drewN|apply below_drew1|refine below_set ?_ GE267.out)|exact HB.out))|exact GlobU8.drawn HGU8.out (by repeat (first|exact Drawn0.refl _|apply Drawn0.step)));rintro e w70 ⟨v269,rfl,ho0,hb⟩;refine ⟨_,rfl,?_⟩;have n0_:=Aside0.mk (Kd.R_elder' (by (with_reducible repeat (first|apply Kd.R_alloc|apply Kd.R_drewN|apply Kd.R_drew));exact (Kd.R_mono (Kd.R_far (p:=⟨gb267,4,none⟩) (Kd.R_far (p:=⟨gb267,3,none⟩) (Kd.R_far (p:=⟨gb267,2,none⟩) (Kd.R_far (p:=⟨gb267,1,none⟩) (Kd.R_far (p:=⟨gb267,0,none⟩) (Kd.R_mono HO_65.out (fun k_ hk => (⟨hk,hk.2⟩ : _ ∧ k_ ≠ gb267))) (fun _ hk => hk.2) (.int .i64 ((rd_T46 t228 x67_3).f0))) (fun _ hk => hk.2) (.int .i64 ((rd_T46 t228 x67_3).f1))) (fun _ hk => hk.2) (.int .i64 ((rd_T46 t228 x67_3).f2))) (fun _ hk => hk.2) (.string ((rd_T46 t228 x67_3).f3))) (fun _ hk => hk.2) (.string ((rd_T46 t228 x67_3).f4))) (fun _ h_ => h_.1))) (Kd.R_base ho0) hb);have n1_:=Aside0.mk (Kd.R_lower (Kd.R_newB (Kd.R_new' ho0 (Kd.R_lt (by (with_reducible repeat (first|apply Kd.R_alloc|apply Kd.R_drewN|apply Kd.R_drew));exact (Kd.R_mono (Kd.R_far (p:=⟨gb267,4,none⟩) (Kd.R_far (p:=⟨gb267,3,none⟩) (Kd.R_far (p:=⟨gb267,2,none⟩) (Kd.R_far (p:=⟨gb267,1,none⟩) (Kd.R_far (p:=⟨gb267,0,none⟩) (Kd.R_mono HO_65.out (fun k_ hk => (⟨hk,hk.2⟩ : _ ∧ k_ ≠ gb267))) (fun _ hk => hk.2) (.int .i64 ((rd_T46 t228 x67_3).f0))) (fun _ hk => hk.2) (.int .i64 ((rd_T46 t228 x67_3).f1))) (fun _ hk => hk.2) (.int .i64 ((rd_T46 t228 x67_3).f2))) (fun _ hk => hk.2) (.string ((rd_T46 t228 x67_3).f3))) (fun _ hk => hk.2) (.string ((rd_T46 t228 x67_3).f4))) (fun _ h_ => h_.1))))) (g:=gb267) (o:=.cells #[.int .i64 ((rd_T46 t228 x67_3).f0),.int .i64 ((rd_T46 t228 x67_3).f1),.int .i64 ((rd_T46 t228 x67_3).f2),.string ((rd_T46 t228 x67_3).f3),.string ((rd_T46 t228 x67_3).f4)] 46 (0,0)) (by (with_reducible repeat (first|refine blk_drewN ?_ _|refine blk_drew ?_|refine blk_alloc ?_ _));refine blk_put (cs:=#[.int .i64 ((rd_T46 t228 x67_3).f0),.int .i64 ((rd_T46 t228 x67_3).f1),.int .i64 ((rd_T46 t228 x67_3).f2),.string ((rd_T46 t228 x67_3).f3),.string (⟨#[]⟩ : ByteArray)]) ?_ 4 _ rfl;(with_reducible repeat (first|refine blk_drewN ?_ _|refine blk_drew ?_|refine blk_alloc ?_ _));refine blk_put (cs:=#[.int .i64 ((rd_T46 t228 x67_3).f0),.int .i64 ((rd_T46 t228 x67_3).f1),.int .i64 ((rd_T46 t228 x67_3).f2),.string (⟨#[]⟩ : ByteArray),.string (⟨#[]⟩ : ByteArray)]) ?_ 3 _ rfl;(with_reducible repeat (first|refine blk_drewN ?_ _|refine blk_drew ?_|refine blk_alloc ?_ _));refine blk_put (cs:=#[.int .i64 ((rd_T46 t228 x67_3).f0),.int .i64 ((rd_T46 t228 x67_3).f1),.int .i64 0,.string (⟨#[]⟩ : ByteArray),.string (⟨#[]⟩ : ByteArray)]) ?_ 2 _ rfl;(with_reducible repeat (first|refine blk_drewN ?_ _|refine blk_drew ?_|refine blk_alloc ?_ _));refine blk_put (cs:=#[.int .i64 ((rd_T46 t228 x67_3).f0),.int .i64 0,.int .i64 0,.string (⟨#[]⟩ : ByteArray),.string (⟨#[]⟩ : ByteArray)]) ?_ 1 _ rfl;(with_reducible repeat (first|refine blk_drewN ?_ _|refine blk_drew ?_|refine blk_alloc ?_ _));refine blk_put (cs:=#[.int .i64 0,.int .i64 0,.int .i64 0,.string (⟨#[]⟩ : ByteArray),.string (⟨#[]⟩ : ByteArray)]) ?_ 0 _ rfl;(with_reducible repeat (first|refine blk_drewN ?_ _|refine blk_drew ?_|refine blk_alloc ?_ _));exact BK267.out)) (below_size (by repeat (first|(with_reducible first|exact HB.out|apply below_alloc|apply pw_below_drewN|apply below_drew1|refine below_set ?_ GE267.out)|exact HB.out))));have n2_:=Aside0.mk (blk_below (g:=gb267) (o:=.cells #[.int .i64 ((rd_T46 t228 x67_3).f0),.int .i64 ((rd_T46 t228 x67_3).f1),.int .i64 ((rd_T46 t228 x67_3).f2),.string ((rd_T46 t228 x67_3).f3),.string ((rd_T46 t228 x67_3).f4)] 46 (0,0)) (by (with_reducible repeat (first|refine blk_drewN ?_ _|refine blk_drew ?_|refine blk_alloc ?_ _));refine blk_put (cs:=#[.int .i64 ((rd_T46 t228 x67_3).f0),.int .i64 ((rd_T46 t228 x67_3).f1),.int .i64 ((rd_T46 t228 x67_3).f2),.string ((rd_T46 t228 x67_3).f3),.string (⟨#[]⟩ : ByteArray)]) ?_ 4 _ rfl;(with_reducible repeat (first|refine blk_drewN ?_ _|refine blk_drew ?_|refine blk_alloc ?_ _));refine blk_put (cs:=#[.int .i64 ((rd_T46 t228 x67_3).f0),.int .i64 ((rd_T46 t228 x67_3).f1),.int .i64 ((rd_T46 t228 x67_3).f2),.string (⟨#[]⟩ : ByteArray),.string (⟨#[]⟩ : ByteArray)]) ?_ 3 _ rfl;(with_reducible repeat (first|refine blk_drewN ?_ _|refine blk_drew ?_|refine blk_alloc ?_ _));refine blk_put (cs:=#[.int .i64 ((rd_T46 t228 x67_3).f0),.int .i64 ((rd_T46 t228 x67_3).f1),.int .i64 0,.string (⟨#[]⟩ : ByteArray),.string (⟨#[]⟩ : ByteArray)]) ?_ 2 _ rfl;(with_reducible repeat (first|refine blk_drewN ?_ _|refine blk_drew ?_|refine blk_alloc ?_ _));refine blk_put (cs:=#[.int .i64 ((rd_T46 t228 x67_3).f0),.int .i64 0,.int .i64 0,.string (⟨#[]⟩ : ByteArray),.string (⟨#[]⟩ : ByteArray)]) ?_ 1 _ rfl;(with_reducible repeat (first|refine blk_drewN ?_ _|refine blk_drew ?_|refine blk_alloc ?_ _));refine blk_put (cs:=#[.int .i64 0,.int .i64 0,.int .i64 0,.string (⟨#[]⟩ : ByteArray),.string (⟨#[]⟩ : ByteArray)]) ?_ 0 _ rfl;(with_reducible repeat (first|refine blk_drewN ?_ _|refine blk_drew ?_|refine blk_alloc ?_ _));exact BK267.out) hb);have n3_:=Aside0.mk (below_step (by repeat (first|(with_reducible first|exact HB.out|apply below_alloc|apply pw_below_drewN|apply below_drew1|refine below_set ?_ GE267.out)|exact HB.out)) hb);clear HO_65;clear BK267;clear HB;have HO_65:=n0_;have HO270:=n1_;have BK267:=n2_;have HB:=n3_;clear n0_ n1_ n2_ n3_;(try clear hb);(try clear hb2);(try clear hk);(try clear hi);(try clear ho0);have hcz71_0 : w70.cell? ⟨gb267,0,none⟩ = some (.int .i64 ((rd_T46 t228 x67_3).f0)):=(blk_cell BK267.out 0).trans rfl;have hcz71_1 : w70.cell? ⟨gb267,1,none⟩ = some (.int .i64 ((rd_T46 t228 x67_3).f1)):=(blk_cell BK267.out 1).trans rfl;have hcz71_2 : w70.cell? ⟨gb267,2,none⟩ = some (.int .i64 ((rd_T46 t228 x67_3).f2)):=(blk_cell BK267.out 2).trans rfl;have hcz71_3 : w70.cell? ⟨gb267,3,none⟩ = some (.string ((rd_T46 t228 x67_3).f3)):=(blk_cell BK267.out 3).trans rfl;have hcz71_4 : w70.cell? ⟨gb267,4,none⟩ = some (.string ((rd_T46 t228 x67_3).f4)):=(blk_cell BK267.out 4).trans rfl;have hfz71_0:=blk_frozen BK267.out 0;have hfz71_1:=blk_frozen BK267.out 1;have hfz71_2:=blk_frozen BK267.out 2;have hfz71_3:=blk_frozen BK267.out 3;have hfz71_4:=blk_frozen BK267.out 4)|((with_reducible refine gate_dst (N:=81) rfl ?_);(try (refine gate_guard (by rfl) ?_;dsimp only));refine Kd.R_lit k46 _ 46 ?hg (N:=81) ?hd (xs:=([(⟨(rd_T46 t228 x67_3).f0,1,0,(⟨#[]⟩ : ByteArray),(rd_T46 t228 x67_3).f4⟩ : S46)] : List (S46))) (inner:=[.int .i64 ((rd_T46 t228 x67_3).f0),.int .i64 1,.int .i64 0,.string (⟨#[]⟩ : ByteArray),.string ((rd_T46 t228 x67_3).f4)]) (ok:=fun _ => True) (okp:=fun _ => True) ?hr ?hp (fun _ hk => hk) trivial (Below.refl _ _) (Nat.le_refl _) (by simp) ?_;(case hd => rfl);(case hg => rfl);(case hr => first|(go_simp;done)|(go_simp;rfl));(case hp => exact (Reps.c5 (show Kd.M k46 _ _ _ (⟨(rd_T46 t228 x67_3).f0,1,0,(⟨#[]⟩ : ByteArray),(rd_T46 t228 x67_3).f4⟩ : S46) [.int .i64 ((rd_T46 t228 x67_3).f0),.int .i64 1,.int .i64 0,.string (⟨#[]⟩ : ByteArray),.string ((rd_T46 t228 x67_3).f4)] from (k46_mkM _ _ _ (⟨(rd_T46 t228 x67_3).f0,1,0,(⟨#[]⟩ : ByteArray),(rd_T46 t228 x67_3).f4⟩ : S46) )) (Reps.none _ _)));intro v272 w72 ho73 hb hg_ hnew_;clear hg_ hnew_;(first|rw [← Ny271.out] at ho73|(simp only [Int.reduceToNat] at ho73;rw [← Ny271.out] at ho73));have n0_:=Aside0.mk (Kd.R_elder' (by (with_reducible repeat (first|apply Kd.R_alloc|apply Kd.R_drewN|apply Kd.R_drew));exact HO_65.out) (Kd.R_base ho73) hb);have n1_:=Aside0.mk (Kd.R_elder' (by (with_reducible repeat (first|apply Kd.R_alloc|apply Kd.R_drewN|apply Kd.R_drew));exact HO270.out) (Kd.R_base ho73) hb);have n2_:=Aside0.mk (Kd.R_lower (Kd.R_newB (Kd.R_new' (Kd.R_new' ho73 (Kd.R_lt (by (with_reducible repeat (first|apply Kd.R_alloc|apply Kd.R_drewN|apply Kd.R_drew));exact HO_65.out))) (Kd.R_lt (by (with_reducible repeat (first|apply Kd.R_alloc|apply Kd.R_drewN|apply Kd.R_drew));exact HO270.out))) (g:=gb267) (o:=.cells #[.int .i64 ((rd_T46 t228 x67_3).f0),.int .i64 ((rd_T46 t228 x67_3).f1),.int .i64 ((rd_T46 t228 x67_3).f2),.string ((rd_T46 t228 x67_3).f3),.string ((rd_T46 t228 x67_3).f4)] 46 (0,0)) (by (with_reducible repeat (first|refine blk_drewN ?_ _|refine blk_drew ?_|refine blk_alloc ?_ _));exact BK267.out)) (below_size (by repeat (first|(with_reducible first|exact HB.out|apply below_alloc|apply pw_below_drewN|apply below_drew1|refine below_set ?_ GE267.out)|exact HB.out))));have n3_:=Aside0.mk (blk_below (g:=gb267) (o:=.cells #[.int .i64 ((rd_T46 t228 x67_3).f0),.int .i64 ((rd_T46 t228 x67_3).f1),.int .i64 ((rd_T46 t228 x67_3).f2),.string ((rd_T46 t228 x67_3).f3),.string ((rd_T46 t228 x67_3).f4)] 46 (0,0)) (by (with_reducible repeat (first|refine blk_drewN ?_ _|refine blk_drew ?_|refine blk_alloc ?_ _));exact BK267.out) hb);have n4_:=Aside0.mk (below_step (by repeat (first|(with_reducible first|exact HB.out|apply below_alloc|apply pw_below_drewN|apply below_drew1|refine below_set ?_ GE267.out)|exact HB.out)) hb);clear HO_65;clear HO270;clear BK267;clear HB;have HO_65:=n0_;have HO270:=n1_;have HO273:=n2_;have BK267:=n3_;have HB:=n4_;clear n0_ n1_ n2_ n3_ n4_;clear hb ho73))
           (try simp only [Act.put,List.setIfInBounds_toArray,List.set_cons_zero,List.set_cons_succ])
           go_cut [89] (fun v89 wc => ∃ (kq : Nat) (x89_66 : Bool),v89 = .bool x89_66 ∧ Aside0 (racewaylaw25_JsontextMakes.j4 kq t268 y271 t228 (t228.length : Int) x67_3 x89_66 = some r) ∧ Aside0 (kq ≤ k3) ∧ Aside0 (Kd.R k46 46 wc w.heap.size (fun k_ => some k_ ≠ (v272 : Value).ownBlock ∧ some k_ ≠ ((.slice (some ad266) t228.length co62) : Value).ownBlock ∧ k_ ≠ gb267) v269 t268) ∧ Aside0 (Kd.R k46 46 wc w.heap.size (fun k_ => some k_ ≠ (v269 : Value).ownBlock ∧ some k_ ≠ ((.slice (some ad266) t228.length co62) : Value).ownBlock ∧ k_ ≠ gb267) v272 y271) ∧ Aside0 (Kd.R k46 46 wc w.heap.size (fun k_ => some k_ ≠ (v269 : Value).ownBlock ∧ some k_ ≠ (v272 : Value).ownBlock ∧ k_ ≠ gb267) (.slice (some ad266) t228.length co62) t228) ∧ Aside0 (wc.heap[gb267]? = some (.cells #[.int .i64 ((rd_T46 t228 x67_3).f0),.int .i64 ((rd_T46 t228 x67_3).f1),.int .i64 ((rd_T46 t228 x67_3).f2),.string ((rd_T46 t228 x67_3).f3),.string ((rd_T46 t228 x67_3).f4)] 46 (0,0))) ∧ Aside0 (Below w.heap.size w wc))
           case first =>
            have H:=HC67.out
            clear HC67
            by_cases c74 : ((rd_T46 t228 x67_3).f0) ≥ 6
            ·rw [if_pos c74] at H
             have c74b0 : decide (6 ≤ ((rd_T46 t228 x67_3).f0)) = true:=decide_eq_true c74
             clear c74
             (first|rw [c74b0]|(simp only [i64_w,i32_w];rw [c74b0])|skip)
             have H':=Aside0.mk H
             clear H
             have hcz75_0 : w72.cell? ⟨gb267,0,none⟩ = some (.int .i64 ((rd_T46 t228 x67_3).f0)):=(blk_cell BK267.out 0).trans rfl
             have hcz75_1 : w72.cell? ⟨gb267,1,none⟩ = some (.int .i64 ((rd_T46 t228 x67_3).f1)):=(blk_cell BK267.out 1).trans rfl
             have hcz75_2 : w72.cell? ⟨gb267,2,none⟩ = some (.int .i64 ((rd_T46 t228 x67_3).f2)):=(blk_cell BK267.out 2).trans rfl
             have hcz75_3 : w72.cell? ⟨gb267,3,none⟩ = some (.string ((rd_T46 t228 x67_3).f3)):=(blk_cell BK267.out 3).trans rfl
             have hcz75_4 : w72.cell? ⟨gb267,4,none⟩ = some (.string ((rd_T46 t228 x67_3).f4)):=(blk_cell BK267.out 4).trans rfl
             have hfz75_0:=blk_frozen BK267.out 0
             have hfz75_1:=blk_frozen BK267.out 1
             have hfz75_2:=blk_frozen BK267.out 2
             have hfz75_3:=blk_frozen BK267.out 3
             have hfz75_4:=blk_frozen BK267.out 4
             go_wp2
             go_meet
             case rel => exact ⟨_,(true),(by first|rfl|(simp;done)|(simp;decide +kernel)|(simp [*];done)),(by first|exact H'|(subst_vars;exact H')),⟨by have:=HJ5.out;have:=HJ17.out;have:=HK3.out;first|omega|exact Nat.le_refl _⟩,⟨by (with_reducible repeat (first|apply Kd.R_alloc|apply Kd.R_drewN|apply Kd.R_drew));exact Kd.R_mono HO270.out (fun _ hk => ⟨hk.2,⟨hk.1.1.2,hk.1.2⟩⟩)⟩,⟨by (with_reducible repeat (first|apply Kd.R_alloc|apply Kd.R_drewN|apply Kd.R_drew));exact Kd.R_mono HO273.out (fun _ hk => ⟨hk.1.2,⟨hk.1.1.2,hk.2⟩⟩)⟩,⟨by (with_reducible repeat (first|apply Kd.R_alloc|apply Kd.R_drewN|apply Kd.R_drew));exact Kd.R_mono HO_65.out (fun _ hk => ⟨hk.1.2,⟨hk.2,hk.1.1.2⟩⟩)⟩,⟨by (with_reducible repeat (first|refine blk_drewN ?_ _|refine blk_drew ?_|refine blk_alloc ?_ _));exact BK267.out⟩,⟨by repeat (first|(with_reducible first|exact HB.out|apply below_alloc|apply pw_below_drewN|apply below_drew1|refine below_set ?_ GE267.out)|exact HB.out)⟩⟩
            ·rw [if_neg c74] at H
             have c74b0 : decide (6 ≤ ((rd_T46 t228 x67_3).f0)) = false:=decide_eq_false c74
             clear c74
             (first|rw [c74b0]|(simp only [i64_w,i32_w];rw [c74b0])|skip)
             replace H:=Option.bind_eq_some_iff.mp H
             obtain ⟨t274,A760,H⟩:=H
             replace H : (racewaylaw25_JsontextMakes.j4 k3 t268 y271 t228 (t228.length : Int) x67_3 (t274 != 0)) = some r:=H
             have A76:=Aside0.mk A760
             clear A760
             have H':=Aside0.mk H
             clear H
             have hcz77_0 : w72.cell? ⟨gb267,0,none⟩ = some (.int .i64 ((rd_T46 t228 x67_3).f0)):=(blk_cell BK267.out 0).trans rfl
             have hcz77_1 : w72.cell? ⟨gb267,1,none⟩ = some (.int .i64 ((rd_T46 t228 x67_3).f1)):=(blk_cell BK267.out 1).trans rfl
             have hcz77_2 : w72.cell? ⟨gb267,2,none⟩ = some (.int .i64 ((rd_T46 t228 x67_3).f2)):=(blk_cell BK267.out 2).trans rfl
             have hcz77_3 : w72.cell? ⟨gb267,3,none⟩ = some (.string ((rd_T46 t228 x67_3).f3)):=(blk_cell BK267.out 3).trans rfl
             have hcz77_4 : w72.cell? ⟨gb267,4,none⟩ = some (.string ((rd_T46 t228 x67_3).f4)):=(blk_cell BK267.out 4).trans rfl
             have hfz77_0:=blk_frozen BK267.out 0
             have hfz77_1:=blk_frozen BK267.out 1
             have hfz77_2:=blk_frozen BK267.out 2
             have hfz77_3:=blk_frozen BK267.out 3
             have hfz77_4:=blk_frozen BK267.out 4
             obtain ⟨Ao78,co78,eo78⟩:=Kd.R_slice HO273.out
             subst eo78
             go_wp2_with (first|(go_at_call 21;(with_reducible refine (racewayref25_Check.calls k3 _ _ y271 t274 _ ?side1 ?side2 A76.out).mono ?_);(case side1 => repeat (first|exact (Kd.R_reads' HO273.out).2.2|(with_reducible refine Kd.C_alloc ?_ _)|(with_reducible refine Kd.C_drewN ?_ _)|(with_reducible refine Kd.C_drew ?_)));(case side2 => exact (Kd.R_reads' HO273.out).2.1);rintro e w79 ⟨rfl,hb⟩;have n0_:=Aside0.mk (Kd.R_below (by (with_reducible repeat (first|apply Kd.R_alloc|apply Kd.R_drewN|apply Kd.R_drew));exact HO_65.out) hb);have n1_:=Aside0.mk (Kd.R_below (by (with_reducible repeat (first|apply Kd.R_alloc|apply Kd.R_drewN|apply Kd.R_drew));exact HO270.out) hb);have n2_:=Aside0.mk (Kd.R_below (by (with_reducible repeat (first|apply Kd.R_alloc|apply Kd.R_drewN|apply Kd.R_drew));exact HO273.out) hb);have n3_:=Aside0.mk (blk_below (g:=gb267) (o:=.cells #[.int .i64 ((rd_T46 t228 x67_3).f0),.int .i64 ((rd_T46 t228 x67_3).f1),.int .i64 ((rd_T46 t228 x67_3).f2),.string ((rd_T46 t228 x67_3).f3),.string ((rd_T46 t228 x67_3).f4)] 46 (0,0)) (by (with_reducible repeat (first|refine blk_drewN ?_ _|refine blk_drew ?_|refine blk_alloc ?_ _));exact BK267.out) hb);have n4_:=Aside0.mk (below_step (by repeat (first|(with_reducible first|exact HB.out|apply below_alloc|apply pw_below_drewN|apply below_drew1|refine below_set ?_ GE267.out)|exact HB.out)) hb);clear HO_65;clear HO270;clear HO273;clear BK267;clear HB;have HO_65:=n0_;have HO270:=n1_;have HO273:=n2_;have BK267:=n3_;have HB:=n4_;clear n0_ n1_ n2_ n3_ n4_;(try clear hb);(try clear hb2);(try clear hk);(try clear hi)))
             go_meet
             case rel => exact ⟨_,((t274 != 0)),(by first|rfl|(simp;done)|(simp;decide +kernel)|(simp [*];done)),(by first|exact H'|(subst_vars;exact H')),⟨by have:=HJ5.out;have:=HJ17.out;have:=HK3.out;first|omega|exact Nat.le_refl _⟩,⟨by (with_reducible repeat (first|apply Kd.R_alloc|apply Kd.R_drewN|apply Kd.R_drew));exact Kd.R_mono HO270.out (fun _ hk => ⟨hk.2,⟨hk.1.1.2,hk.1.2⟩⟩)⟩,⟨by (with_reducible repeat (first|apply Kd.R_alloc|apply Kd.R_drewN|apply Kd.R_drew));exact Kd.R_mono HO273.out (fun _ hk => ⟨hk.1.2,⟨hk.1.1.2,hk.2⟩⟩)⟩,⟨by (with_reducible repeat (first|apply Kd.R_alloc|apply Kd.R_drewN|apply Kd.R_drew));exact Kd.R_mono HO_65.out (fun _ hk => ⟨hk.1.2,⟨hk.2,hk.1.1.2⟩⟩)⟩,⟨by (with_reducible repeat (first|refine blk_drewN ?_ _|refine blk_drew ?_|refine blk_alloc ?_ _));exact BK267.out⟩,⟨by repeat (first|(with_reducible first|exact HB.out|apply below_alloc|apply pw_below_drewN|apply below_drew1|refine below_set ?_ GE267.out)|exact HB.out)⟩⟩
           case rest =>
            clear HC67
            try clear c1
            try clear c2
            try clear p2
            try clear q2
            try clear hx2
            try clear c5
            try clear c6
            try clear p6
            try clear c7
            try clear c9
            try clear c9b0
            try clear c10
            try clear c10b0
            try clear c11
            try clear c11b0
            try clear c12
            try clear c13
            try clear c13b0
            try clear c13b1
            try clear c14
            try clear c14b0
            try clear c14b1
            try clear c15
            try clear c17
            try clear c18
            try clear c19
            try clear c22
            try clear p23
            try clear q23
            try clear hx23
            try clear p26
            try clear q26
            try clear hx26
            try clear c61
            try clear c63
            try clear c63b0
            try clear c64
            try clear c64b0
            try clear p64
            try clear c65
            try clear c65b0
            try clear c74
            try clear c74b0
            try clear hcz69_0
            try clear hcz69_1
            try clear hcz69_2
            try clear hcz69_3
            try clear hcz69_4
            try clear hcz71_0
            try clear hcz71_1
            try clear hcz71_2
            try clear hcz71_3
            try clear hcz71_4
            try clear hcz75_0
            try clear hcz75_1
            try clear hcz75_2
            try clear hcz75_3
            try clear hcz75_4
            try clear hcz77_0
            try clear hcz77_1
            try clear hcz77_2
            try clear hcz77_3
            try clear hcz77_4
            try clear hfz69_0
            try clear hfz69_1
            try clear hfz69_2
            try clear hfz69_3
            try clear hfz69_4
            try clear hfz71_0
            try clear hfz71_1
            try clear hfz71_2
            try clear hfz71_3
            try clear hfz71_4
            try clear hfz75_0
            try clear hfz75_1
            try clear hfz75_2
            try clear hfz75_3
            try clear hfz75_4
            try clear hfz77_0
            try clear hfz77_1
            try clear hfz77_2
            try clear hfz77_3
            try clear hfz77_4
            try clear hx234_0
            try clear hx235_0
            try clear hx266_0
            try clear hx266_1
            try clear hx266_2
            try clear hx266_3
            try clear hx266_4
            try clear p2
            try clear p23
            try clear p234
            try clear p235
            try clear p266
            try clear p6
            try clear q2
            try clear q23
            try clear q234
            try clear q235
            try clear q266
            obtain ⟨kq,x89_66,rfl,HA,HJ66,HO_11,HO_12,HO_65,BK267,HB⟩:=hcut
            cases kq with
            | zero => exact absurd HA.out (by simp [racewaylaw25_JsontextMakes.j4])
            | succ kj66 =>
             have H:=HA.out
             clear HA
             simp only [racewaylaw25_JsontextMakes.j4] at H
             by_cases c80 : x89_66 = true
             ·subst c80
              have H1 : ((racewayref25_Same.f kj66 t268 ([] : List (S46))).bind fun t275 => (if t275 = true then (racewaylaw25_JsontextMakes.l1 kj66 t228 (t228.length : Int) (wrap64 (x67_3 + 1))) else (some false))) = some r:=by rw [if_pos rfl] at H;exact H
              clear H
              have H:=H1
              clear H1
              replace H:=Option.bind_eq_some_iff.mp H
              obtain ⟨t275,A810,H⟩:=H
              replace H : (if t275 = true then (racewaylaw25_JsontextMakes.l1 kj66 t228 (t228.length : Int) (wrap64 (x67_3 + 1))) else (some false)) = some r:=H
              have A81:=Aside0.mk A810
              clear A810
              by_cases c82 : t275 = true
              ·subst c82
               have H1 : (racewaylaw25_JsontextMakes.l1 kj66 t228 (t228.length : Int) (wrap64 (x67_3 + 1))) = some r:=by rw [if_pos rfl] at H;exact H
               clear H
               have H:=H1
               clear H1
               have H':=Aside0.mk H
               clear H
               obtain ⟨Ao83,co83,eo83⟩:=Kd.R_slice HO_11.out
               subst eo83
               go_wp2_with (first|((with_reducible refine gate_callee (f:=12) rfl ?_);refine goesL_ (some 92) rfl rfl Tryd.func12 (by kernel_rfl) rfl #[.slice Ao83 t268.length co83,.slice none 0 0] rfl (by (try simp only [List.map_toArray,List.map_cons,List.map_nil]);first|done|rfl|(simp only [List.length_drop,List.length_take];rfl)) ?_;(refine (racewayref25_Same.calls kj66 _ _ t268 _ _ ([] : List (S46)) true _ ?side1 ?side2 ?side3 ?side4 A81.out).mono ?_);(case side1 => repeat (first|exact (Kd.R_reads' HO_11.out).2.2|(with_reducible refine Kd.C_alloc ?_ _)|(with_reducible refine Kd.C_drewN ?_ _)|(with_reducible refine Kd.C_drew ?_)));(case side2 => exact (Kd.R_reads' HO_11.out).2.1);(case side3 => exact Kd.C_nil _ _);(case side4 => exact Nat.le_refl _);rintro e w' ⟨rfl,⟨nd,rfl⟩⟩;refine ⟨_,rfl,?_⟩))
               go_roundg kj66
               case measure => have:=HJ5.out;have:=HJ17.out;have:=HK3.out;have:=HJ66.out;omega
               case rel => exact ⟨(wrap64 (x67_3 + 1)),(by first|rfl|(simp;done)|(simp;decide +kernel)|(simp [*];done)),(by first|exact H'|(subst_vars;exact H')),⟨by have:=HJ5.out;have:=HJ17.out;have:=HK3.out;have:=HJ66.out;omega⟩,⟨by (with_reducible repeat (first|apply Kd.R_alloc|apply Kd.R_drewN|apply Kd.R_drew));exact Kd.R_mono HO_65.out (fun _ hk => trivial)⟩,⟨by repeat (first|(with_reducible first|exact HB.out|apply below_alloc|apply pw_below_drewN|apply below_drew1|refine below_set ?_ GE267.out)|exact HB.out)⟩⟩
              ·replace c82:=Bool.eq_false_iff.mpr c82
               subst c82
               have H1 : (some false) = some r:=by rw [if_neg (show ¬ (false = true) by decide)] at H;exact H
               clear H
               have H:=H1
               clear H1
               obtain rfl:=Option.some.inj H
               obtain ⟨Ao84,co84,eo84⟩:=Kd.R_slice HO_11.out
               subst eo84
               go_wp2_with (first|((with_reducible refine gate_callee (f:=12) rfl ?_);refine goesL_ (some 92) rfl rfl Tryd.func12 (by kernel_rfl) rfl #[.slice Ao84 t268.length co84,.slice none 0 0] rfl (by (try simp only [List.map_toArray,List.map_cons,List.map_nil]);first|done|rfl|(simp only [List.length_drop,List.length_take];rfl)) ?_;(refine (racewayref25_Same.calls kj66 _ _ t268 _ _ ([] : List (S46)) false _ ?side1 ?side2 ?side3 ?side4 A81.out).mono ?_);(case side1 => repeat (first|exact (Kd.R_reads' HO_11.out).2.2|(with_reducible refine Kd.C_alloc ?_ _)|(with_reducible refine Kd.C_drewN ?_ _)|(with_reducible refine Kd.C_drew ?_)));(case side2 => exact (Kd.R_reads' HO_11.out).2.1);(case side3 => exact Kd.C_nil _ _);(case side4 => exact Nat.le_refl _);rintro e w' ⟨rfl,⟨nd,rfl⟩⟩;refine ⟨_,rfl,?_⟩))
               go_ret
               exact ⟨by first|rfl|(simp [errW_none,errW_some] <;> rfl)|(simp [*,errW_none,errW_some] <;> rfl),by repeat (first|(with_reducible first|exact HB.out|apply below_alloc|apply pw_below_drewN|apply below_drew1|refine below_set ?_ GE267.out)|exact HB.out)⟩
             ·replace c80:=Bool.eq_false_iff.mpr c80
              subst c80
              have H1 : ((racewayref25_Same.f kj66 t268 y271).bind fun t276 => (if t276 = true then (racewaylaw25_JsontextMakes.l1 kj66 t228 (t228.length : Int) (wrap64 (x67_3 + 1))) else (some false))) = some r:=by rw [if_neg (show ¬ (false = true) by decide)] at H;exact H
              clear H
              have H:=H1
              clear H1
              replace H:=Option.bind_eq_some_iff.mp H
              obtain ⟨t276,A850,H⟩:=H
              replace H : (if t276 = true then (racewaylaw25_JsontextMakes.l1 kj66 t228 (t228.length : Int) (wrap64 (x67_3 + 1))) else (some false)) = some r:=H
              have A85:=Aside0.mk A850
              clear A850
              by_cases c86 : t276 = true
              ·subst c86
               have H1 : (racewaylaw25_JsontextMakes.l1 kj66 t228 (t228.length : Int) (wrap64 (x67_3 + 1))) = some r:=by rw [if_pos rfl] at H;exact H
               clear H
               have H:=H1
               clear H1
               have H':=Aside0.mk H
               clear H
               obtain ⟨Ao87,co87,eo87⟩:=Kd.R_slice HO_11.out
               subst eo87
               obtain ⟨Ao88,co88,eo88⟩:=Kd.R_slice HO_12.out
               subst eo88
               go_wp2_with (first|((with_reducible refine gate_callee (f:=12) rfl ?_);refine goesL_ (some 92) rfl rfl Tryd.func12 (by kernel_rfl) rfl #[.slice Ao87 t268.length co87,.slice Ao88 y271.length co88] rfl (by (try simp only [List.map_toArray,List.map_cons,List.map_nil]);first|done|rfl|(simp only [List.length_drop,List.length_take];rfl)) ?_;(with_reducible refine (racewayref25_Same.calls kj66 _ _ t268 _ _ y271 true _ ?side1 ?side2 ?side3 ?side4 A85.out).mono ?_);(case side1 => repeat (first|exact (Kd.R_reads' HO_11.out).2.2|(with_reducible refine Kd.C_alloc ?_ _)|(with_reducible refine Kd.C_drewN ?_ _)|(with_reducible refine Kd.C_drew ?_)));(case side2 => exact (Kd.R_reads' HO_11.out).2.1);(case side3 => repeat (first|exact (Kd.R_reads' HO_12.out).2.2|(with_reducible refine Kd.C_alloc ?_ _)|(with_reducible refine Kd.C_drewN ?_ _)|(with_reducible refine Kd.C_drew ?_)));(case side4 => exact (Kd.R_reads' HO_12.out).2.1);rintro e w' ⟨rfl,⟨nd,rfl⟩⟩;refine ⟨_,rfl,?_⟩))
               go_roundg kj66
               case measure => have:=HJ5.out;have:=HJ17.out;have:=HK3.out;have:=HJ66.out;omega
               case rel => exact ⟨(wrap64 (x67_3 + 1)),(by first|rfl|(simp;done)|(simp;decide +kernel)|(simp [*];done)),(by first|exact H'|(subst_vars;exact H')),⟨by have:=HJ5.out;have:=HJ17.out;have:=HK3.out;have:=HJ66.out;omega⟩,⟨by (with_reducible repeat (first|apply Kd.R_alloc|apply Kd.R_drewN|apply Kd.R_drew));exact Kd.R_mono HO_65.out (fun _ hk => trivial)⟩,⟨by repeat (first|(with_reducible first|exact HB.out|apply below_alloc|apply pw_below_drewN|apply below_drew1|refine below_set ?_ GE267.out)|exact HB.out)⟩⟩
              ·replace c86:=Bool.eq_false_iff.mpr c86
               subst c86
               have H1 : (some false) = some r:=by rw [if_neg (show ¬ (false = true) by decide)] at H;exact H
               clear H
               have H:=H1
               clear H1
               obtain rfl:=Option.some.inj H
               obtain ⟨Ao89,co89,eo89⟩:=Kd.R_slice HO_11.out
               subst eo89
               obtain ⟨Ao90,co90,eo90⟩:=Kd.R_slice HO_12.out
               subst eo90
               go_wp2_with (first|((with_reducible refine gate_callee (f:=12) rfl ?_);refine goesL_ (some 92) rfl rfl Tryd.func12 (by kernel_rfl) rfl #[.slice Ao89 t268.length co89,.slice Ao90 y271.length co90] rfl (by (try simp only [List.map_toArray,List.map_cons,List.map_nil]);first|done|rfl|(simp only [List.length_drop,List.length_take];rfl)) ?_;(with_reducible refine (racewayref25_Same.calls kj66 _ _ t268 _ _ y271 false _ ?side1 ?side2 ?side3 ?side4 A85.out).mono ?_);(case side1 => repeat (first|exact (Kd.R_reads' HO_11.out).2.2|(with_reducible refine Kd.C_alloc ?_ _)|(with_reducible refine Kd.C_drewN ?_ _)|(with_reducible refine Kd.C_drew ?_)));(case side2 => exact (Kd.R_reads' HO_11.out).2.1);(case side3 => repeat (first|exact (Kd.R_reads' HO_12.out).2.2|(with_reducible refine Kd.C_alloc ?_ _)|(with_reducible refine Kd.C_drewN ?_ _)|(with_reducible refine Kd.C_drew ?_)));(case side4 => exact (Kd.R_reads' HO_12.out).2.1);rintro e w' ⟨rfl,⟨nd,rfl⟩⟩;refine ⟨_,rfl,?_⟩))
               go_ret
               exact ⟨by first|rfl|(simp [errW_none,errW_some] <;> rfl)|(simp [*,errW_none,errW_some] <;> rfl),by repeat (first|(with_reducible first|exact HB.out|apply below_alloc|apply pw_below_drewN|apply below_drew1|refine below_set ?_ GE267.out)|exact HB.out)⟩
          ·rw [if_neg c65] at H
           exact absurd H (by simp)
         ·rw [if_neg c64] at H
          exact absurd H (by simp)
        ·rw [if_neg c63] at H
         have c63b0 : decide (x67_3 < (t228.length : Int)) = false:=decide_eq_false c63
         clear c63
         replace H:=Option.bind_eq_some_iff.mp H
         obtain ⟨t265,A910,H⟩:=H
         replace H : (some t265) = some r:=H
         have A91:=Aside0.mk A910
         clear A910
         obtain rfl:=Option.some.inj H
         go_wp2_with (first|((with_reducible refine gate_callee (f:=13) rfl ?_);refine goesL_ (some 95) rfl rfl Tryd.func13 (by kernel_rfl) rfl #[] rfl (by (try simp only [List.map_toArray,List.map_cons,List.map_nil]);first|done|rfl|(simp only [List.length_drop,List.length_take];rfl)) ?_;(with_reducible refine (racewaylaw25_works.calls  t265 _ ?side1 A91.out).mono ?_);(case side1 => first|exact HGU8.out|exact GlobU8.below HGU8.out (by repeat (first|(with_reducible first|exact HB.out|apply below_alloc|apply pw_below_drewN|apply below_drew1)|exact HB.out))|exact GlobU8.drawn HGU8.out (by repeat (first|exact Drawn0.refl _|apply Drawn0.step)));rintro e w92 ⟨rfl,hb⟩;refine ⟨_,rfl,?_⟩;have n0_:=Aside0.mk (Kd.R_below (by (with_reducible repeat (first|apply Kd.R_alloc|apply Kd.R_drewN|apply Kd.R_drew));exact HO_65.out) hb);have n1_:=Aside0.mk (below_step (by repeat (first|(with_reducible first|exact HB.out|apply below_alloc|apply pw_below_drewN|apply below_drew1)|exact HB.out)) hb);clear HO_65;clear HB;have HO_65:=n0_;have HB:=n1_;clear n0_ n1_;(try clear hb);(try clear hb2);(try clear hk);(try clear hi)))
         go_ret
         exact ⟨by first|rfl|(simp [errW_none,errW_some] <;> rfl)|(simp [*,errW_none,errW_some] <;> rfl),by repeat (first|(with_reducible first|exact HB.out|apply below_alloc|apply pw_below_drewN|apply below_drew1)|exact HB.out)⟩
end Go.Proofs.YtadfkeipcebmfaaDoor.X
namespace Go.Proofs.YtadfkeipcebmfaaDoor.X
open Go.RowKit Go.Proofs.YtadfkeipcebmfaaDoorW.PrintWords Go.Proofs.YtadfkeipcebmfaaDoorW.PrintLast Go.Proofs.YtadfkeipcebmfaaDoorW.PrintMore
attribute [local go_sem] max2_int min2_int max_two min_two max_three min_three max_four min_four
set_option linter.unusedVariables false
set_option linter.unusedSimpArgs false
end Go.Proofs.YtadfkeipcebmfaaDoor.X
namespace Go.Proofs.YtadfkeipcebmfaaDoor.X
open Go.RowKit Go.Proofs.YtadfkeipcebmfaaDoorW.PrintWords Go.Proofs.YtadfkeipcebmfaaDoorW.PrintLast Go.Proofs.YtadfkeipcebmfaaDoorW.PrintMore
attribute [local go_sem] max2_int min2_int max_two min_two max_three min_three max_four min_four
set_option linter.unusedVariables false
set_option linter.unusedSimpArgs false
end Go.Proofs.YtadfkeipcebmfaaDoor.X
namespace Go.Proofs.YtadfkeipcebmfaaDoor.Pure
open Go.Proofs.YtadfkeipcebmfaaDoor.X Go.RowKit Go.Proofs.YtadfkeipcebmfaaDoorW.PrintWords Go.Proofs.YtadfkeipcebmfaaDoorW.PrintMore
set_option linter.unusedVariables false
set_option linter.unusedSimpArgs false
theorem w64v {x : Int} (h0 : -9223372036854775808 ≤ x) (h1 : x ≤ 9223372036854775807) : wrap64 x = x:=by unfold wrap64;omega
theorem bt_getD (s : ByteArray) (i : Nat) : bt s (i : Int) = ((s.data.toList.getD i 0).toNat : Int):=by
 unfold bt
 rw [Int.toNat_natCast]
 split
 ·rename_i h
  rw [List.getD_eq_getElem?_getD,List.getElem?_eq_getElem (by simpa using h)]
  rfl
 ·rename_i h
  rw [List.getD_eq_getElem?_getD,List.getElem?_eq_none (by simpa using h)]
  rfl
def sgnN (n b0 b1 b2 b3 : Nat) : Nat:=if b0 < 128 then 1 else if (Lib.decodeN n b0 b1 b2 b3).2 = 1 then 0 else (Lib.decodeN n b0 b1 b2 b3).2
theorem sgnN_bad {n b0 b1 b2 b3 : Nat} (h : ¬ b0 < 128) (h1 : (Lib.decodeN n b0 b1 b2 b3).2 = 1) : sgnN n b0 b1 b2 b3 = 0:=by rw [sgnN,if_neg h,if_pos h1]
theorem sgnN_ok {n b0 b1 b2 b3 : Nat} (w : Nat) (h : ¬ b0 < 128) (h1 : (Lib.decodeN n b0 b1 b2 b3).2 = w) (hw : w ≠ 1) : sgnN n b0 b1 b2 b3 = w:=by rw [sgnN,if_neg h,h1,if_neg hw]
theorem sgn_N (l : Bs) (i : Nat) (h : i < l.length) : sgn (l.drop i) = sgnN (l.length - i) (l.getD i 0).toNat (l.getD (i + 1) 0).toNat (l.getD (i + 2) 0).toNat (l.getD (i + 3) 0).toNat:=by
 have e : ∀ j,(l.drop i).getD j 0 = l.getD (i + j) 0:=fun j => by simp [List.getD_eq_getElem?_getD,List.getElem?_drop]
 obtain ⟨c,r,hc⟩ : ∃ c r,l.drop i = c :: r:=⟨_,_,List.drop_eq_getElem_cons h⟩
 have h0 : c = l.getD i 0:=by rw [← Nat.add_zero i,← e 0,hc];rfl
 have hN:=Lib.decodeL_N (l.drop i)
 rw [e 0,e 1,e 2,e 3,List.length_drop,Nat.add_zero] at hN
 rw [hc] at hN ⊢
 simp only [sgn,sgnN]
 rw [hN,h0]
theorem sl_step (s : ByteArray) (k i x6 x7 x8 x9 b : Nat) (hb : b = (s.data.toList.getD (i + x9) 0).toNat) (h1 : i + x6 ≤ s.size) (h9 : x9 < x6) (h7 : x7 ≤ 100000000) (hs : s.size ≤ 100000000) :
  racewayref25_Sign.l0 (k + 1) s (i : Int) (x6 : Int) (x7 : Int) (x8 : Int) (x9 : Int) = if b < 128 then some 0 else if 191 < b then some 0 else racewayref25_Sign.l0 k s (i : Int) (x6 : Int) ((64 * x7 + b - 128 : Nat) : Int) (x8 : Int) ((x9 + 1 : Nat) : Int):=by
 have hb8 : b < 256:=by rw [hb];exact UInt8.toNat_lt _
 rw [racewayref25_Sign.l0,if_pos (by omega),w64v (x:=(i : Int) + (x9 : Int)) (by omega) (by omega),if_pos (by omega),if_pos (by omega),show (i : Int) + (x9 : Int) = ((i + x9 : Nat) : Int) by omega,bt_getD,← hb,w64v (x:=(b : Int)) (by omega) (by omega)]
 by_cases c1 : b < 128
 ·rw [if_pos c1,if_pos (by omega)]
 ·rw [if_neg c1,if_neg (by omega)]
  by_cases c2 : 191 < b
  ·rw [if_pos c2,if_pos (by omega)]
  ·rw [if_neg c2,if_neg (by omega),w64v (x:=64 * (x7 : Int)) (by omega) (by omega),w64v (x:=64 * (x7 : Int) + (b : Int)) (by omega) (by omega),w64v (x:=64 * (x7 : Int) + (b : Int) - 128) (by omega) (by omega),w64v (x:=(x9 : Int) + 1) (by omega) (by omega)]
   congr 1
   ·omega
theorem sl_end (s : ByteArray) (k i x6 x7 x8 : Nat) : racewayref25_Sign.l0 (k + 1) s (i : Int) (x6 : Int) (x7 : Int) (x8 : Int) (x6 : Int) = some (((if x7 < x8 then 0 else if 1114111 < x7 then 0 else if 55296 ≤ x7 ∧ x7 ≤ 57343 then 0 else x6) : Nat) : Int):=by
 rw [racewayref25_Sign.l0,if_neg (by omega)]
 by_cases c1 : x7 < x8
 ·rw [if_pos c1,if_pos (by omega)];rfl
 ·rw [if_neg c1,if_neg (by omega)]
  by_cases c2 : 1114111 < x7
  ·rw [if_pos c2,if_pos (by omega)];rfl
  ·rw [if_neg c2,if_neg (by omega)]
   by_cases c3 : 55296 ≤ x7
   ·rw [if_pos (by omega)]
    by_cases c4 : x7 ≤ 57343
    ·rw [if_pos (by omega),if_pos ⟨c3,c4⟩];rfl
    ·rw [if_neg (by omega),if_neg (by omega)]
   ·rw [if_neg (by omega),if_neg (by omega)]
theorem sj2 (s : ByteArray) (k i x6 x7 x8 : Nat) (h6 : x6 ≠ 0) (hi : i ≤ s.size) (h64 : x6 ≤ 4) (hs : s.size ≤ 100000000) :
  racewayref25_Sign.j2 (k + 2) s (i : Int) (x6 : Int) (x7 : Int) (x8 : Int) = if s.size < i + x6 then some 0 else racewayref25_Sign.l0 k s (i : Int) (x6 : Int) (x7 : Int) (x8 : Int) ((1 : Nat) : Int):=by
 rw [racewayref25_Sign.j2,if_neg (by omega),racewayref25_Sign.j3,w64v (by omega) (by omega)]
 by_cases c : s.size < i + x6
 ·rw [if_pos c,if_pos (by simp;omega)]
 ·rw [if_neg c,if_neg (by simp;omega)]
  rfl
set_option maxRecDepth 100000 in
set_option maxHeartbeats 4000000 in
theorem sign_N (s : ByteArray) (i k b0 b1 b2 b3 : Nat) (hi : i < s.size) (hs : s.size ≤ 100000000) (h0 : b0 = (s.data.toList.getD i 0).toNat) (h1 : b1 = (s.data.toList.getD (i + 1) 0).toNat) (h2 : b2 = (s.data.toList.getD (i + 2) 0).toNat) (h3 : b3 = (s.data.toList.getD (i + 3) 0).toNat) :
  racewayref25_Sign.f (k + 20) s (i : Int) = some ((sgnN (s.size - i) b0 b1 b2 b3 : Nat) : Int):=by
 have q0 : b0 < 256:=by rw [h0];exact UInt8.toNat_lt _
 have q1 : b1 < 256:=by rw [h1];exact UInt8.toNat_lt _
 have q2 : b2 < 256:=by rw [h2];exact UInt8.toNat_lt _
 have q3 : b3 < 256:=by rw [h3];exact UInt8.toNat_lt _
 rw [racewayref25_Sign.f,if_pos (by omega),if_pos (by omega),bt_getD,← h0,w64v (x:=(b0 : Int)) (by omega) (by omega)]
 by_cases c1 : b0 < 128
 ·rw [if_pos (by omega),sgnN,if_pos c1];rfl
 ·rw [if_neg (by omega)]
  have hj0 : ∀ b : Bool,(b = true → 194 ≤ b0 ∧ b0 ≤ 223) → (b = false → ¬ (194 ≤ b0 ∧ b0 ≤ 223)) → racewayref25_Sign.j0 (k + 20) s (i : Int) (b0 : Int) 0 0 0 b = some ((sgnN (s.size - i) b0 b1 b2 b3 : Nat) : Int):=by
   intro b hb1 hb2
   rw [racewayref25_Sign.j0]
   cases b with
   | true =>
    have r:=hb1 rfl
    rw [if_pos rfl,w64v (x:=(b0 : Int) - 192) (by omega) (by omega),show ((b0 : Int) - 192) = ((b0 - 192 : Nat) : Int) by omega]
    refine (sj2 s (k + 17) i 2 (b0 - 192) 128 (by decide) (by omega) (by decide) hs).trans ?_
    by_cases c2 : s.size < i + 2
    ·rw [if_pos c2,sgnN_bad c1 (by unfold Lib.decodeN;rw [if_neg c1,if_neg (by omega),if_neg (by omega),if_neg (by omega)])]
     rfl
    ·rw [if_neg c2,sl_step s _ i 2 (b0 - 192) 128 1 b1 h1 (by omega) (by omega) (by omega) hs]
     by_cases c3 : b1 < 128
     ·rw [if_pos c3,sgnN_bad c1 (by unfold Lib.decodeN;rw [if_neg c1,if_neg (by omega),if_neg (by omega),if_neg (by omega)])];rfl
     ·rw [if_neg c3]
      by_cases c4 : 191 < b1
      ·rw [if_pos c4,sgnN_bad c1 (by unfold Lib.decodeN;rw [if_neg c1,if_neg (by omega),if_neg (by omega),if_neg (by omega)])];rfl
      ·rw [if_neg c4,sl_end s _ i 2 _ 128,if_neg (by omega),if_neg (by omega),if_neg (by omega),sgnN_ok 2 c1 (by unfold Lib.decodeN;rw [if_neg c1,if_pos (by omega),if_pos (by omega)]) (by decide)]
   | false =>
    have r:=hb2 rfl
    rw [if_neg (by decide)]
    have hj1 : ∀ b : Bool,(b = true → 224 ≤ b0 ∧ b0 ≤ 239) → (b = false → ¬ (224 ≤ b0 ∧ b0 ≤ 239)) → racewayref25_Sign.j1 (k + 19) s (i : Int) (b0 : Int) 0 0 0 b = some ((sgnN (s.size - i) b0 b1 b2 b3 : Nat) : Int):=by
     intro b hb1 hb2
     rw [racewayref25_Sign.j1]
     cases b with
     | true =>
      have r:=hb1 rfl
      rw [if_pos rfl,w64v (x:=(b0 : Int) - 224) (by omega) (by omega),show ((b0 : Int) - 224) = ((b0 - 224 : Nat) : Int) by omega]
      refine (sj2 s (k + 16) i 3 (b0 - 224) 2048 (by decide) (by omega) (by decide) hs).trans ?_
      by_cases c2 : s.size < i + 3
      ·rw [if_pos c2,sgnN_bad c1 (by unfold Lib.decodeN;rw [if_neg c1,if_neg (by omega),if_neg (by omega),if_neg (by omega)])]
       rfl
      ·rw [if_neg c2,sl_step s _ i 3 (b0 - 224) 2048 1 b1 h1 (by omega) (by omega) (by omega) hs]
       by_cases c3 : b1 < 128
       ·rw [if_pos c3,sgnN_bad c1 (by unfold Lib.decodeN;rw [if_neg c1,if_neg (by omega),if_neg (by omega),if_neg (by omega)])];rfl
       ·rw [if_neg c3]
        by_cases c4 : 191 < b1
        ·rw [if_pos c4,sgnN_bad c1 (by unfold Lib.decodeN;rw [if_neg c1,if_neg (by omega),if_neg (by omega),if_neg (by omega)])];rfl
        ·rw [if_neg c4,sl_step s _ i 3 _ 2048 2 b2 h2 (by omega) (by omega) (by omega) hs]
         by_cases c5 : b2 < 128
         ·rw [if_pos c5,sgnN_bad c1 (by unfold Lib.decodeN;rw [if_neg c1,if_neg (by omega),if_neg (by omega),if_neg (by omega)])];rfl
         ·rw [if_neg c5]
          by_cases c6 : 191 < b2
          ·rw [if_pos c6,sgnN_bad c1 (by unfold Lib.decodeN;rw [if_neg c1,if_neg (by omega),if_neg (by omega),if_neg (by omega)])];rfl
          ·rw [if_neg c6,sl_end s _ i 3 _ 2048]
           generalize hX : 64 * (64 * (b0 - 224) + b1 - 128) + b2 - 128 = X
           have e : b0 % 16 * 4096 + b1 % 64 * 64 + b2 % 64 = X:=by omega
           by_cases d1 : X < 2048
           ·rw [if_pos d1,sgnN_bad c1 (by unfold Lib.decodeN;rw [if_neg c1,if_neg (by omega),if_pos (by omega),e,if_neg (by omega)])]
           ·rw [if_neg d1,if_neg (by omega)]
            by_cases d2 : 55296 ≤ X ∧ X ≤ 57343
            ·rw [if_pos d2,sgnN_bad c1 (by unfold Lib.decodeN;rw [if_neg c1,if_neg (by omega),if_pos (by omega),e,if_neg (by omega)])]
            ·rw [if_neg d2,sgnN_ok 3 c1 (by unfold Lib.decodeN;rw [if_neg c1,if_neg (by omega),if_pos (by omega),e,if_pos (by omega)]) (by decide)]
     | false =>
      have r2:=hb2 rfl
      rw [if_neg (by decide)]
      have hbad : ¬ (240 ≤ b0 ∧ b0 ≤ 244) → racewayref25_Sign.j2 (k + 18) s (i : Int) 0 0 0 = some ((sgnN (s.size - i) b0 b1 b2 b3 : Nat) : Int):=by
       intro r3
       have e1 : (Lib.decodeN (s.size - i) b0 b1 b2 b3).2 = 1:=by
        unfold Lib.decodeN
        rw [if_neg c1]
        by_cases a1 : b0 / 32 = 6 ∧ (1 < s.size - i ∧ b1 / 64 = 2)
        ·rw [if_pos a1,if_neg (by omega)]
        ·rw [if_neg a1,if_neg (by omega)]
         by_cases a3 : b0 / 8 = 30 ∧ (1 < s.size - i ∧ b1 / 64 = 2) ∧ (2 < s.size - i ∧ b2 / 64 = 2) ∧ (3 < s.size - i ∧ b3 / 64 = 2)
         ·rw [if_pos a3,if_neg (by omega)]
         ·rw [if_neg a3]
       rw [racewayref25_Sign.j2,if_pos rfl,racewayref25_Sign.j3,if_pos rfl,sgnN_bad c1 e1]
       rfl
      by_cases c240 : 240 ≤ b0
      ·rw [if_pos (by omega)]
       by_cases c244 : b0 ≤ 244
       ·rw [if_pos (by omega),w64v (x:=(b0 : Int) - 240) (by omega) (by omega),show ((b0 : Int) - 240) = ((b0 - 240 : Nat) : Int) by omega]
        refine (sj2 s (k + 16) i 4 (b0 - 240) 65536 (by decide) (by omega) (by decide) hs).trans ?_
        by_cases c2 : s.size < i + 4
        ·rw [if_pos c2,sgnN_bad c1 (by unfold Lib.decodeN;rw [if_neg c1,if_neg (by omega),if_neg (by omega),if_neg (by omega)])]
         rfl
        ·rw [if_neg c2,sl_step s _ i 4 (b0 - 240) 65536 1 b1 h1 (by omega) (by omega) (by omega) hs]
         by_cases c3 : b1 < 128
         ·rw [if_pos c3,sgnN_bad c1 (by unfold Lib.decodeN;rw [if_neg c1,if_neg (by omega),if_neg (by omega),if_neg (by omega)])];rfl
         ·rw [if_neg c3]
          by_cases c4 : 191 < b1
          ·rw [if_pos c4,sgnN_bad c1 (by unfold Lib.decodeN;rw [if_neg c1,if_neg (by omega),if_neg (by omega),if_neg (by omega)])];rfl
          ·rw [if_neg c4,sl_step s _ i 4 _ 65536 2 b2 h2 (by omega) (by omega) (by omega) hs]
           by_cases c5 : b2 < 128
           ·rw [if_pos c5,sgnN_bad c1 (by unfold Lib.decodeN;rw [if_neg c1,if_neg (by omega),if_neg (by omega),if_neg (by omega)])];rfl
           ·rw [if_neg c5]
            by_cases c6 : 191 < b2
            ·rw [if_pos c6,sgnN_bad c1 (by unfold Lib.decodeN;rw [if_neg c1,if_neg (by omega),if_neg (by omega),if_neg (by omega)])];rfl
            ·rw [if_neg c6,sl_step s _ i 4 _ 65536 3 b3 h3 (by omega) (by omega) (by omega) hs]
             by_cases c7 : b3 < 128
             ·rw [if_pos c7,sgnN_bad c1 (by unfold Lib.decodeN;rw [if_neg c1,if_neg (by omega),if_neg (by omega),if_neg (by omega)])];rfl
             ·rw [if_neg c7]
              by_cases c8 : 191 < b3
              ·rw [if_pos c8,sgnN_bad c1 (by unfold Lib.decodeN;rw [if_neg c1,if_neg (by omega),if_neg (by omega),if_neg (by omega)])];rfl
              ·rw [if_neg c8,sl_end s _ i 4 _ 65536]
               generalize hX : 64 * (64 * (64 * (b0 - 240) + b1 - 128) + b2 - 128) + b3 - 128 = X
               have e : b0 % 8 * 262144 + b1 % 64 * 4096 + b2 % 64 * 64 + b3 % 64 = X:=by omega
               by_cases d1 : X < 65536
               ·rw [if_pos d1,sgnN_bad c1 (by unfold Lib.decodeN;rw [if_neg c1,if_neg (by omega),if_neg (by omega),if_pos (by omega),e,if_neg (by omega)])]
               ·rw [if_neg d1]
                by_cases d3 : 1114111 < X
                ·rw [if_pos d3,sgnN_bad c1 (by unfold Lib.decodeN;rw [if_neg c1,if_neg (by omega),if_neg (by omega),if_pos (by omega),e,if_neg (by omega)])]
                ·rw [if_neg d3,if_neg (by omega),sgnN_ok 4 c1 (by unfold Lib.decodeN;rw [if_neg c1,if_neg (by omega),if_neg (by omega),if_pos (by omega),e,if_pos (by omega)]) (by decide)]
       ·rw [if_neg (by omega)]
        exact hbad (by omega)
      ·rw [if_neg (by omega)]
       exact hbad (by omega)
    by_cases c224 : 224 ≤ b0
    ·rw [if_pos (by omega)]
     exact hj1 _ (fun h => by simp at h;omega) (fun h => by simp at h;omega)
    ·rw [if_neg (by omega)]
     exact hj1 _ (fun h => by cases h) (fun _ => by omega)
  by_cases c194 : 194 ≤ b0
  ·rw [if_pos (by omega)]
   exact hj0 _ (fun h => by simp at h;omega) (fun h => by simp at h;omega)
  ·rw [if_neg (by omega)]
   exact hj0 _ (fun h => by cases h) (fun _ => by omega)
theorem sign_is (s : ByteArray) (p : Nat) (l : Bs) (ha : At s p l) (hl : l ≠ []) (hs : s.size ≤ 100000000) (k : Nat) (hk : 20 ≤ k) : racewayref25_Sign.f k s (p : Int) = some ((sgn l : Nat) : Int):=by
 obtain ⟨k,rfl⟩ : ∃ k',k = k' + 20:=⟨k - 20,by omega⟩
 have hlt : p < s.size:=by cases l with|nil => exact absurd rfl hl|cons c r => exact ha.lt
 have hsz : s.data.toList.length = s.size:=by simp
 rw [sign_N s p k _ _ _ _ hlt hs rfl rfl rfl rfl,← hsz,← sgn_N _ _ (by omega),← ha.drop]
end Go.Proofs.YtadfkeipcebmfaaDoor.Pure
namespace Go.Proofs.YtadfkeipcebmfaaDoor.Pure
open Go.Proofs.YtadfkeipcebmfaaDoor.X Go.RowKit Go.Proofs.YtadfkeipcebmfaaDoorW.PrintWords Go.Proofs.YtadfkeipcebmfaaDoorW.PrintMore
set_option linter.unusedVariables false
set_option linter.unusedSimpArgs false
theorem _root_.Go.Proofs.YtadfkeipcebmfaaDoor.X.At.bt {s : ByteArray} {p : Nat} {c : UInt8} {r : Bs} (h : At s p (c :: r)) : bt s (p : Int) = (c.toNat : Int):=by
 rw [bt_getD]
 congr 2
 have h2:=h.drop
 have h3:=h.lt
 rw [List.drop_eq_getElem_cons (by simpa using h3)] at h2
 injection h2 with h2 _
 rw [List.getD_eq_getElem?_getD,List.getElem?_eq_getElem (by simpa using h3)]
 exact h2
theorem _root_.Go.Proofs.YtadfkeipcebmfaaDoor.X.At.ge {s : ByteArray} {p : Nat} (h : At s p []) : ¬ (p : Int) < (s.size : Int):=by have:=h.nil;omega
theorem _root_.Go.Proofs.YtadfkeipcebmfaaDoor.X.At.lti {s : ByteArray} {p : Nat} {c : UInt8} {r : Bs} (h : At s p (c :: r)) : (p : Int) < (s.size : Int):=by have:=h.lt;omega
def okR (s : ByteArray) (r : Bs) (T : List S46) (S : ByteArray) : Option (Int × Int × List S46 × ByteArray):=some (((s.size - r.length : Nat) : Int),0,T,S)
def badR (s : ByteArray) (r : Bs) (e : Int) : Option (Int × Int × List S46 × ByteArray):=some (((s.size - r.length : Nat) : Int),e,[],⟨#[]⟩)
theorem is_law {s : ByteArray} {p : Nat} {l : Bs} (ha : At s p l) (n : Int) (c : UInt8) (hc : n = (c.toNat : Int)) : racewayref25_is.f s (p : Int) n = some (isC c l):=by
 rw [racewayref25_is.f]
 cases l with
 | nil => rw [if_neg ha.ge];rfl
 | cons d r =>
  rw [if_pos ha.lti,if_pos (by omega),ha.bt,hc,isC]
  congr 1
  by_cases h : d = c
  ·subst h;simp
  ·have h2 : (d.toNat : Int) ≠ (c.toNat : Int):=fun e => h (UInt8.toNat_inj.mp (by omega))
   rw [beq_eq_false_iff_ne.mpr h2,beq_eq_false_iff_ne.mpr h]
def isD : Bs → Bool
 | c :: _ => isDig c
 | [] => false
theorem digit_law {s : ByteArray} {p : Nat} {l : Bs} (ha : At s p l) : racewayref25_digit.f s (p : Int) = some (isD l):=by
 rw [racewayref25_digit.f]
 cases l with
 | nil => rw [if_neg ha.ge];rfl
 | cons d r =>
  rw [if_pos ha.lti,if_pos (by omega),ha.bt]
  by_cases h : (48 : Int) ≤ (d.toNat : Int)
  ·rw [if_pos h]
   simp only [isD,isDig]
   rw [decide_eq_true (show 48 ≤ d.toNat by omega),Bool.true_and]
   congr 1
   by_cases h2 : d.toNat ≤ 57
   ·rw [decide_eq_true h2,decide_eq_true (by omega)]
   ·rw [decide_eq_false h2,decide_eq_false (by omega)]
  ·rw [if_neg h]
   simp only [isD,isDig]
   rw [decide_eq_false (show ¬ 48 ≤ d.toNat by omega),Bool.false_and]
theorem _root_.Go.Proofs.YtadfkeipcebmfaaDoor.X.At.blanks {s : ByteArray} : ∀ {l : Bs} {p : Nat},At s p l → At s (s.size - (X.blanks l).length) (X.blanks l)
 | [],p,ha => by
  have:=ha.nil
  simp only [X.blanks,List.length_nil,Nat.sub_zero]
  rw [← this]
  exact ha
 | c :: r,p,ha => by
  rw [X.blanks]
  split
  ·exact ha.next.blanks
  ·have:=ha.pos
   rw [← this]
   exact ha
def nres (s : ByteArray) (p : Nat) : Rs Unit → Option (Int × Int × List S46 × ByteArray)
 | .ok r _ => okR s r [] (s.extract p (s.size - r.length))
 | .bad r e => badR s r e
theorem fin_law {s : ByteArray} {p q : Nat} {l : Bs} (ha : At s q l) (hp : p ≤ q) : (if 0 ≤ (p : Int) then (if (p : Int) ≤ (q : Int) then (if (q : Int) ≤ (s.size : Int) then (some ((q : Int),0,([] : List (S46)),s.extract (p : Int).toNat (q : Int).toNat)) else (none)) else (none)) else (none)) = nres s p (.ok l ()):=by
 have h1:=ha.le
 have h2:=ha.pos
 rw [if_pos (by omega),if_pos (by omega),if_pos (by omega),nres,okR,Int.toNat_natCast,Int.toNat_natCast,← h2]
theorem fail_law {s : ByteArray} {p q : Nat} {l : Bs} (ha : At s q l) : ((racewayref25_fail.f (q : Int)).bind fun b => (some (b.1,b.2.1,b.2.2.1,b.2.2.2))) = nres s p (.bad l 5):=by
 have h2:=ha.pos
 rw [racewayref25_fail.f]
 show some ((q : Int),(5 : Int),([] : List S46),(⟨#[]⟩ : ByteArray)) = _
 rw [nres,badR,← h2]
theorem skip_cons (c : UInt8) (r : Bs) (h : isDig c = true) : skipDig (c :: r) = skipDig r:=by rw [skipDig,if_pos h]
theorem skip_not (l : Bs) (h : isD l = false) : skipDig l = l:=by
 cases l with
 | nil => rfl
 | cons c r => rw [skipDig,if_neg (by simpa [isD] using h)]
theorem digits_is (l : Bs) : digits l = if isD l = true then .ok (skipDig l) () else .bad l 5:=by
 cases l with
 | nil => rfl
 | cons c r =>
  simp only [digits]
  by_cases h : isDig c = true
  ·rw [if_pos h,if_pos (show isD (c :: r) = true from h),skip_cons c r h]
  ·rw [if_neg h,if_neg (show ¬ isD (c :: r) = true from h)]
theorem p1 {s : ByteArray} {q : Nat} {c : UInt8} {r : Bs} (hs : s.size ≤ 100000000) (ha : At s q (c :: r)) : wrap64 ((q : Int) + 1) = ((q + 1 : Nat) : Int):=by
 have:=ha.lt
 rw [w64v (by omega) (by omega)]
 omega
theorem l2_law (s : ByteArray) (hs : s.size ≤ 100000000) (p : Nat) : ∀ (l : Bs) (q k : Nat),At s q l → p ≤ q → l.length + 1 ≤ k → racewayref25_number.l2 k s (q : Int) (p : Int) = nres s p (.ok (skipDig l) ())
 | l,q,0,ha,hp,hk => by omega
 | [],q,k + 1,ha,hp,hk => by
  rw [racewayref25_number.l2,digit_law ha,Option.bind_some,if_neg (by decide)]
  exact fin_law ha hp
 | c :: r,q,k + 1,ha,hp,hk => by
  rw [racewayref25_number.l2,digit_law ha,Option.bind_some]
  by_cases h : isDig c = true
  ·rw [if_pos (by rw [isD,h]),p1 hs ha,skip_cons c r h]
   exact l2_law s hs p r (q + 1) k ha.next (by omega) (by simp at hk;omega)
  ·rw [if_neg (by rw [isD];exact h),fin_law ha hp,skip_not (c :: r) (by simpa [isD] using h)]
theorem j7_law (s : ByteArray) (hs : s.size ≤ 100000000) (p : Nat) (l : Bs) (q k : Nat) (ha : At s q l) (hp : p ≤ q) (hk : l.length + 2 ≤ k) : racewayref25_number.j7 k s (q : Int) (p : Int) = nres s p (digits l):=by
 obtain ⟨k,rfl⟩ : ∃ k',k = k' + 1:=⟨k - 1,by omega⟩
 rw [racewayref25_number.j7,digit_law ha,Option.bind_some,digits_is]
 by_cases h : isD l = true
 ·rw [if_pos h,if_pos h]
  exact l2_law s hs p l q k ha hp (by omega)
 ·rw [if_neg h,if_neg h]
  exact fail_law ha
theorem isC_ne {c : UInt8} {l : Bs} (h : isC c l = true) : ∃ r,l = c :: r:=by
 cases l with
 | nil => cases h
 | cons d r =>
  simp only [isC,beq_iff_eq] at h
  exact ⟨r,by rw [h]⟩
theorem j4_law (s : ByteArray) (hs : s.size ≤ 100000000) (p : Nat) (l : Bs) (q k : Nat) (ha : At s q l) (hp : p ≤ q) (hk : l.length + 8 ≤ k) : racewayref25_number.j4 k s (q : Int) (p : Int) = nres s p (num3 l):=by
 obtain ⟨k,rfl⟩ : ∃ k',k = k' + 4:=⟨k - 4,by omega⟩
 have hj5 : (isC 101 l || isC 69 l) = true → racewayref25_number.j5 (k + 3) s (q : Int) (p : Int) true = nres s p (num3 l):=by
  intro h
  obtain ⟨c,r,rfl⟩ : ∃ c r,l = c :: r:=by
   simp only [Bool.or_eq_true] at h
   rcases h with h|h
   ·obtain ⟨r,e⟩:=isC_ne h
    exact ⟨_,r,e⟩
   ·obtain ⟨r,e⟩:=isC_ne h
    exact ⟨_,r,e⟩
  have hb:=ha.next
  rw [racewayref25_number.j5,if_pos rfl,p1 hs ha,is_law hb 43 43 rfl,Option.bind_some,is_law hb 45 45 rfl]
  unfold num3
  rw [if_pos h,List.drop_succ_cons,List.drop_zero]
  have h6 : racewayref25_number.j6 (k + 2) s ((q + 1 : Nat) : Int) (p : Int) (isC 43 r || isC 45 r) = nres s p (if (isC 43 r || isC 45 r) = true then digits (List.drop 2 (c :: r)) else digits r):=by
   rw [racewayref25_number.j6]
   by_cases h2 : (isC 43 r || isC 45 r) = true
   ·obtain ⟨c2,r2,rfl⟩ : ∃ c r',r = c :: r':=by
     simp only [Bool.or_eq_true] at h2
     rcases h2 with h2|h2
     ·obtain ⟨r,e⟩:=isC_ne h2
      exact ⟨_,r,e⟩
     ·obtain ⟨r,e⟩:=isC_ne h2
      exact ⟨_,r,e⟩
    rw [if_pos h2,if_pos h2,p1 hs hb]
    exact j7_law s hs p r2 (q + 1 + 1) _ hb.next (by omega) (by simp at hk;omega)
   ·rw [if_neg h2,if_neg h2]
    exact j7_law s hs p r (q + 1) _ hb (by omega) (by simp at hk;omega)
  by_cases h3 : isC 43 r = true
  ·rw [if_pos h3]
   rw [h3,Bool.true_or] at h6
   rw [h3,Bool.true_or]
   exact h6
  ·rw [if_neg h3,Option.bind_some]
   have h3' : isC 43 r = false:=by simpa using h3
   rw [h3',Bool.false_or] at h6
   rw [h3',Bool.false_or]
   exact h6
 rw [racewayref25_number.j4,is_law ha 101 101 rfl,Option.bind_some]
 by_cases h1 : isC 101 l = true
 ·rw [if_pos h1]
  exact hj5 (by rw [h1];rfl)
 ·rw [if_neg h1,is_law ha 69 69 rfl,Option.bind_some]
  have h1' : isC 101 l = false:=by simpa using h1
  by_cases h2 : isC 69 l = true
  ·rw [h2]
   exact hj5 (by rw [h2,Bool.or_true])
  ·have h2' : isC 69 l = false:=by simpa using h2
   rw [h2',racewayref25_number.j5,if_neg (by decide),fin_law ha hp,num3,h1',h2']
   rfl
theorem l1_law (s : ByteArray) (hs : s.size ≤ 100000000) (p : Nat) : ∀ (l : Bs) (q k : Nat),At s q l → p ≤ q → 2 * l.length + 10 ≤ k → racewayref25_number.l1 k s (q : Int) (p : Int) = nres s p (num3 (skipDig l))
 | l,q,0,ha,hp,hk => by omega
 | [],q,k + 1,ha,hp,hk => by
  rw [racewayref25_number.l1,digit_law ha,Option.bind_some,if_neg (by decide)]
  exact j4_law s hs p [] q k ha hp (by simp at hk ⊢;omega)
 | c :: r,q,k + 1,ha,hp,hk => by
  rw [racewayref25_number.l1,digit_law ha,Option.bind_some]
  by_cases h : isDig c = true
  ·rw [if_pos (by rw [isD,h]),p1 hs ha,skip_cons c r h]
   exact l1_law s hs p r (q + 1) k ha.next (by omega) (by simp at hk;omega)
  ·rw [if_neg (by rw [isD];exact h),skip_not (c :: r) (by simpa [isD] using h)]
   exact j4_law s hs p (c :: r) q k ha hp (by simp at hk ⊢;omega)
def num23 (l : Bs) : Rs Unit:=match num2 l with
 | .bad r e => .bad r e
 | .ok l3 _ => num3 l3
theorem j2_law (s : ByteArray) (hs : s.size ≤ 100000000) (p : Nat) (l : Bs) (q k : Nat) (ha : At s q l) (hp : p ≤ q) (hk : 2 * l.length + 12 ≤ k) : racewayref25_number.j2 k s (q : Int) (p : Int) = nres s p (num23 l):=by
 obtain ⟨k,rfl⟩ : ∃ k',k = k' + 1:=⟨k - 1,by omega⟩
 rw [racewayref25_number.j2,is_law ha 46 46 rfl,Option.bind_some,num23,num2]
 by_cases h : isC 46 l = true
 ·obtain ⟨r,rfl⟩:=isC_ne h
  rw [if_pos h,if_pos h,p1 hs ha,digit_law ha.next,Option.bind_some,List.drop_succ_cons,List.drop_zero,digits_is]
  by_cases h2 : isD r = true
  ·rw [if_pos h2,if_pos h2]
   exact l1_law s hs p r (q + 1) k ha.next (by omega) (by simp at hk;omega)
  ·rw [if_neg h2,if_neg h2]
   exact fail_law ha.next
 ·rw [if_neg h,if_neg h]
  exact j4_law s hs p l q k ha hp (by omega)
theorem l0_law (s : ByteArray) (hs : s.size ≤ 100000000) (p : Nat) : ∀ (l : Bs) (q k : Nat),At s q l → p ≤ q → 3 * l.length + 14 ≤ k → racewayref25_number.l0 k s (q : Int) (p : Int) = nres s p (num23 (skipDig l))
 | l,q,0,ha,hp,hk => by omega
 | [],q,k + 1,ha,hp,hk => by
  rw [racewayref25_number.l0,digit_law ha,Option.bind_some,if_neg (by decide)]
  exact j2_law s hs p [] q k ha hp (by simp at hk ⊢;omega)
 | c :: r,q,k + 1,ha,hp,hk => by
  rw [racewayref25_number.l0,digit_law ha,Option.bind_some]
  by_cases h : isDig c = true
  ·rw [if_pos (by rw [isD,h]),p1 hs ha,skip_cons c r h]
   exact l0_law s hs p r (q + 1) k ha.next (by omega) (by simp at hk;omega)
  ·rw [if_neg (by rw [isD];exact h),skip_not (c :: r) (by simpa [isD] using h)]
   exact j2_law s hs p (c :: r) q k ha hp (by simp at hk ⊢;omega)
theorem j0_law (s : ByteArray) (hs : s.size ≤ 100000000) (p : Nat) (l : Bs) (q k : Nat) (ha : At s q l) (hp : p ≤ q) (hk : 3 * l.length + 16 ≤ k) : racewayref25_number.j0 k s (q : Int) (p : Int) = nres s p (match num1 l with | .bad r e => .bad r e | .ok l2 _ => num23 l2):=by
 obtain ⟨k,rfl⟩ : ∃ k',k = k' + 1:=⟨k - 1,by omega⟩
 rw [racewayref25_number.j0,digit_law ha,Option.bind_some,num1]
 cases l with
 | nil =>
  rw [if_neg (by decide)]
  exact fail_law ha
 | cons c r =>
  have e48 : (bt s (q : Int) = 48) ↔ isC 48 (c :: r) = true:=by
   rw [ha.bt]
   simp only [isC,beq_iff_eq]
   exact ⟨fun h => UInt8.toNat_inj.mp (by show c.toNat = 48;omega),fun h => by rw [h];rfl⟩
  by_cases h : isD (c :: r) = true
  ·rw [if_pos h,if_pos (by omega),if_pos ha.lti]
   by_cases h2 : isC 48 (c :: r) = true
   ·rw [if_pos (e48.mpr h2),if_pos h2,p1 hs ha]
    exact j2_law s hs p r (q + 1) k ha.next (by omega) (by simp at hk;omega)
   ·rw [if_neg (fun hh => h2 (e48.mp hh)),if_neg h2,digits_is,if_pos h]
    exact l0_law s hs p (c :: r) q k ha hp (by omega)
  ·have h2 : ¬ isC 48 (c :: r) = true:=by
    intro hh
    simp only [isC,beq_iff_eq] at hh
    subst hh
    exact h (show isDig 48 = true by decide)
   rw [if_neg h,if_neg h2,digits_is,if_neg h]
   exact fail_law ha
theorem number_R {s : ByteArray} {p : Nat} {l : Bs} (ha : At s p l) (hs : s.size ≤ 100000000) (k : Nat) (hk : 3 * l.length + 20 ≤ k) : racewayref25_number.f k s (p : Int) = nres s p (num l):=by
 rw [racewayref25_number.f,is_law ha 45 45 rfl,Option.bind_some]
 have e : ∀ l' : Bs,(match num1 l' with | .bad r e => (.bad r e : Rs Unit) | .ok l2 _ => num23 l2) = (match num1 l' with | .bad r e => (.bad r e : Rs Unit) | .ok l2 _ => match num2 l2 with | .bad r e => .bad r e | .ok l3 _ => num3 l3):=fun _ => rfl
 by_cases h : isC 45 l = true
 ·obtain ⟨r,rfl⟩:=isC_ne h
  rw [if_pos h,p1 hs ha,j0_law s hs p r (p + 1) k ha.next (by omega) (by simp at hk;omega),num,if_pos h]
  rfl
 ·rw [if_neg h,j0_law s hs p l p k ha (Nat.le_refl _) (by omega),num,if_neg h]
  rfl
end Go.Proofs.YtadfkeipcebmfaaDoor.Pure
namespace Go.Proofs.YtadfkeipcebmfaaDoor.Pure
open Go.Proofs.YtadfkeipcebmfaaDoor.X
set_option linter.unusedVariables false
set_option linter.unusedSimpArgs false
def stops : Bs → Bool
 | [] => true
 | c :: _ => !isDig c && c != 46 && c != 101 && c != 69
theorem len1 {l : Bs} {c : UInt8} (h : isC c l = true) : 1 ≤ l.length:=by
 cases l with
 | nil => cases h
 | cons => simp
theorem map_ok {f : F → F} {x : Rs F} {r : Bs} {g : F} (h : x.map f = .ok r g) : ∃ g0,x = .ok r g0 ∧ f g0 = g:=by
 cases x with
 | bad a b => cases h
 | ok a b =>
  injection h with h1 h2
  exact ⟨b,by rw [h1],h2⟩
end Go.Proofs.YtadfkeipcebmfaaDoor.Pure
namespace Go.Proofs.YtadfkeipcebmfaaDoor.Pure
open Go.Proofs.YtadfkeipcebmfaaDoor.X Go.RowKit Go.Proofs.YtadfkeipcebmfaaDoorW.PrintWords
set_option linter.unusedVariables false
set_option linter.unusedSimpArgs false
theorem decN_one (n b0 b1 b2 b3 : Nat) (h0 : ¬ b0 < 128) (h : (Lib.decodeN n b0 b1 b2 b3).2 = 1) : (Lib.decodeN n b0 b1 b2 b3).1 = 65533:=by
 unfold Lib.decodeN at *
 rw [if_neg h0] at h ⊢
 by_cases a1 : b0 / 32 = 6 ∧ (1 < n ∧ b1 / 64 = 2)
 ·rw [if_pos a1] at h ⊢
  split at h
  ·cases h
  ·rename_i g
   rw [if_neg g]
 ·rw [if_neg a1] at h ⊢
  by_cases a2 : b0 / 16 = 14 ∧ (1 < n ∧ b1 / 64 = 2) ∧ (2 < n ∧ b2 / 64 = 2)
  ·rw [if_pos a2] at h ⊢
   split at h
   ·cases h
   ·rename_i g
    rw [if_neg g]
  ·rw [if_neg a2] at h ⊢
   by_cases a3 : b0 / 8 = 30 ∧ (1 < n ∧ b1 / 64 = 2) ∧ (2 < n ∧ b2 / 64 = 2) ∧ (3 < n ∧ b3 / 64 = 2)
   ·rw [if_pos a3] at h ⊢
    split at h
    ·cases h
    ·rename_i g
     rw [if_neg g]
   ·rw [if_neg a3]
end Go.Proofs.YtadfkeipcebmfaaDoor.Pure
namespace Go.Proofs.YtadfkeipcebmfaaDoor.Pure
open Go.Proofs.YtadfkeipcebmfaaDoor.X Go.RowKit Go.Proofs.YtadfkeipcebmfaaDoorW.PrintWords
set_option linter.unusedVariables false
set_option linter.unusedSimpArgs false
end Go.Proofs.YtadfkeipcebmfaaDoor.Pure
namespace Go.Proofs.YtadfkeipcebmfaaDoor.Pure
open Go.Proofs.YtadfkeipcebmfaaDoor.X Go.RowKit Go.Proofs.YtadfkeipcebmfaaDoorW.PrintWords
set_option linter.unusedVariables false
set_option linter.unusedSimpArgs false
def key : F → Bs
 | .leaf k _ _ _ => k
 | .node k _ _ _ => k
 | .nil => []
end Go.Proofs.YtadfkeipcebmfaaDoor.Pure
namespace Go.Proofs.YtadfkeipcebmfaaDoor.Pure
open Go.Proofs.YtadfkeipcebmfaaDoor.X Go.RowKit Go.Proofs.YtadfkeipcebmfaaDoorW.PrintWords
set_option linter.unusedVariables false
set_option linter.unusedSimpArgs false
end Go.Proofs.YtadfkeipcebmfaaDoor.Pure
namespace Go.Proofs.YtadfkeipcebmfaaDoor.Pure
open Go.Proofs.YtadfkeipcebmfaaDoor.X Go.RowKit Go.Proofs.YtadfkeipcebmfaaDoorW.PrintWords
set_option linter.unusedVariables false
set_option linter.unusedSimpArgs false
def nd : Bs → Bool
 | [] => true
 | c :: _ => !isDig c
end Go.Proofs.YtadfkeipcebmfaaDoor.Pure
namespace Go.Proofs.YtadfkeipcebmfaaDoor.Pure
open Go.Proofs.YtadfkeipcebmfaaDoor.X Go.RowKit Go.Proofs.YtadfkeipcebmfaaDoorW.PrintWords
set_option linter.unusedVariables false
set_option linter.unusedSimpArgs false
end Go.Proofs.YtadfkeipcebmfaaDoor.Pure
namespace Go.Proofs.YtadfkeipcebmfaaDoor.X
open Go.RowKit Go.Proofs.YtadfkeipcebmfaaDoorW.PrintWords
set_option linter.unusedVariables false
set_option linter.unusedSimpArgs false
set_option maxRecDepth 100000 in
theorem u8x : Go.Proofs.U8Extra Tryd.prog vren:=⟨by kernel_rfl,by kernel_rfl,by kernel_rfl,by kernel_rfl,by kernel_rfl,by kernel_rfl,by kernel_rfl⟩
theorem u8t : Go.Proofs.U8Types Tryd.prog vren:=Go.Proofs.U8Types.of196 vlays
theorem GlobU8.laid {W : World} {l : List (String × DataW Unit)} (hL : laidMet Tryd.prog l W) (h1 : ("unicode/utf8.first", Go.Lib.firstData) ∈ l) (h2 : ("unicode/utf8.acceptRanges", Go.Lib.acceptData) ∈ l) : GlobU8 W :=
 GlobU8.of (Go.Proofs.utf8Tabs_of_readsT u8t u8x (Go.Lib.laidMet.reads hL h1) (Go.Lib.laidMet.reads hL h2))
theorem GlobU8.laid2 {W : World} {l : List (String × DataW Unit)} (hL : laidMet Tryd.prog l W) {d1 d2 : DataW Unit} (h1 : ("unicode/utf8.first", d1) ∈ l) (e1 : d1 = Go.Lib.firstData) (h2 : ("unicode/utf8.acceptRanges", d2) ∈ l) (e2 : d2 = Go.Lib.acceptData) : GlobU8 W :=
 GlobU8.laid hL (e1 ▸ h1) (e2 ▸ h2)
end Go.Proofs.YtadfkeipcebmfaaDoor.X
namespace Go.Proofs.YtadfkeipcebmfaaDoor.X
open Go
set_option linter.unusedVariables false
section
variable {H : Type} {enc : TypeId × Value → H}
theorem handed_laid_shaped {a : Assume} {C : Checked} {os : Os} {f : FuncId} {fn : Func} {s : ChangeSpec} {conds : List PathCond} {apart fresh handsOn again : Bool} {X : World → Array Value → Prop}
  (hX : ∀ (w w' : World) (args : Array Value),w.heap = w'.heap → X w args → X w' args)
  (own : ownKnob C.prog.godebug = none) (started : os.Started) (noInit : C.prog.inits.idxOf? f = none) (hfn : C.prog.funcs[f]? = some fn)
  (witness : ∃ (w : World) (tape : Tape) (i : Input),w.os = os ∧ (w.forCall tape i).Shaped C.prog ∧ i.vars = [] ∧ Input.okWide C.prog (w.forCall tape i) .any w.heap.size f i ∧
   ((s.pre enc C.prog fn conds apart (w.forCall tape i).memory i.args ∧ X (w.forCall tape i).memory i.args) ∧ sizedMet enc C.prog fn (OpenSpec.ofChange s) apart (w.forCall tape i).memory i.args) ∧ a.holds C.prog (lone (Frame.enter C.prog f i.args .normal) [] (w.forCall tape i)))
  (contract : ∀ (W : World) (base : Nat) (args : Array Value) (ds gs : List (DataW H)) (before : List MemPlace),
   (∀ (j : Nat) t v,fn.params[j]? = some t → args[j]? = some v → Value.okWide C.prog W .any base t v) →
   DataW.Whole enc C.prog fn.params.toList s.vars apart W args.toList ds gs before →
   conds.all (PathCond.test C.prog ⟨fn.params.toList,ds,s.plain.varTypes C.prog,gs⟩) = true →
   (DataW.weightsEach C.prog (fn.params.toList ++ s.plain.varTypes C.prog) (ds ++ gs)).all (· ≤ reachBytes) = true → X W args → W.ShapedOpen C.prog →
   a.holds C.prog (lone (Frame.enter C.prog f args .normal) [] W) →
   Calls C.prog f args W fun e W' => ∃ v,e = .returned v ∧ s.post enc C.prog fn apart fresh handsOn again W args v W') :
  ReturnsInHanded a C os f .any (fun w args => (s.pre enc C.prog fn conds apart w args ∧ X w args) ∧ sizedMet enc C.prog fn (OpenSpec.ofChange s) apart w args) (s.post enc C.prog fn apart fresh handsOn again):=by
 refine returnsInHanded_of_calls own started noInit witness ?_
 intro w tape i _ hsh _ hok hpre hholds
 obtain ⟨_,_,_,fn',hfn',_,_,_,_,hval⟩:=hok
 have e : fn' = fn:=Option.some.inj (hfn'.symm.trans hfn)
 subst e
 obtain ⟨⟨⟨ds,gs,before,hw,hc⟩,hx⟩,hz⟩:=hpre
 have hw':=DataW.Whole.of_heap (w':=w.forCall tape i) (by rfl) hw
 refine (contract (w.forCall tape i) w.heap.size i.args ds gs before hval hw' hc (hz.weights hw) (hX _ _ _ (by rfl) hx) hsh hholds).mono fun e W' ⟨v,he,hp⟩ => ?_
 subst he
 exact ChangeSpec.post_blind hp
end
end Go.Proofs.YtadfkeipcebmfaaDoor.X
namespace Go.Proofs.YtadfkeipcebmfaaDoor.Pure
open Go.RowKit Go.Proofs.YtadfkeipcebmfaaDoor.X Go.Proofs.YtadfkeipcebmfaaDoorW.PrintWords
set_option linter.unusedVariables false
set_option maxRecDepth 100000 in
theorem works_true : racewaylaw25_works.f = some true:=by decide +kernel
end Go.Proofs.YtadfkeipcebmfaaDoor.Pure
namespace Go.Proofs.YtadfkeipcebmfaaDoor.Pure
open Go.Proofs.YtadfkeipcebmfaaDoor.X Go.RowKit Go.Proofs.YtadfkeipcebmfaaDoorW.PrintWords
set_option linter.unusedVariables false
set_option linter.unusedSimpArgs false
def E57 {α : Type} (x : Rs α) : Prop:=∀ r e,x = .bad r e → e = 5 ∨ e = 7
theorem E57.map {α β : Type} {f : α → β} {x : Rs α} (h : E57 x) : E57 (x.map f):=by
 intro r e h'
 cases x with
 | bad a b =>
  injection h' with _ h2
  exact h2 ▸ h a b rfl
 | ok a b => cases h'
theorem same_self (l : List (S46)) (hl : l.length ≤ 1099511627776) (k : Nat) (hk : l.length + 1 ≤ k) : racewayref25_Same.f k l l = some true:=by
 rw [racewayref25_Same.f,if_pos rfl]
 have : ∀ (n i k : Nat),i + n = l.length → n + 1 ≤ k → racewayref25_Same.l0 k l l (i : Int) = some true:=by
  intro n
  induction n with
  | zero =>
   intro i k hi hk
   obtain ⟨k,rfl⟩ : ∃ k',k = k' + 1:=⟨k - 1,by omega⟩
   rw [racewayref25_Same.l0,if_neg (by omega)]
  | succ n ih =>
   intro i k hi hk
   obtain ⟨k,rfl⟩ : ∃ k',k = k' + 1:=⟨k - 1,by omega⟩
   rw [racewayref25_Same.l0,if_pos (by omega),if_pos (by omega),if_pos (by omega),if_neg (by simp)]
   have e : wrap64 ((i : Int) + 1) = ((i + 1 : Nat) : Int):=by unfold wrap64;omega
   rw [e]
   exact ih (i + 1) k (by omega) (by omega)
 exact this l.length 0 k (by omega) hk
end Go.Proofs.YtadfkeipcebmfaaDoor.Pure
namespace Go.Proofs.YtadfkeipcebmfaaDoor.Pure
open Go.Proofs.YtadfkeipcebmfaaDoor.X Go.RowKit Go.Proofs.YtadfkeipcebmfaaDoorW.PrintWords
set_option linter.unusedVariables false
set_option linter.unusedSimpArgs false
end Go.Proofs.YtadfkeipcebmfaaDoor.Pure
