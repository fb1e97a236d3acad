/-
  What the claim's law rests on, part 5 of 7: printed walks, externals, plain lemmas; conditions: none of its own.
-/
import Derived.Test.YtedfgkjimnjdpaaDoorTh4
namespace Go.Proofs.YtedfgkjimnjdpaaDoor.X
open Go.RowKit Go.Proofs.YtedfgkjimnjdpaaDoorW.PrintWords Go.Proofs.YtedfgkjimnjdpaaDoorW.PrintLast Go.Proofs.YtedfgkjimnjdpaaDoorW.PrintMore
attribute [local go_sem] max2_int min2_int max_two min_two max_three min_three max_four min_four
set_option linter.unusedVariables false
set_option linter.unusedSimpArgs false
mutual
def racewayref02_Next.j0 : Nat → List Int → Int → Bool → Option (List Int × Int × Int)
 | 0,_,_,_ => none
 | k + 1,x0,x1,x18 => if x18 = true then (some (([] : List Int),0,2)) else (if (wrap64 ((x0.length : Int) - x1)) < 12 then (some (([] : List Int),0,4)) else (racewayref02_Next.l0 k x0 x1 0 1 0))
def racewayref02_Next.l0 : Nat → List Int → Int → Int → Int → Int → Option (List Int × Int × Int)
 | 0,_,_,_,_,_ => none
 | k + 1,x0,x1,x7,x8,x9 => if x9 < 4 then (if 0 ≤ (wrap64 (x1 + x9)) then (if (wrap64 (x1 + x9)) < (x0.length : Int) then (racewayref02_Next.l0 k x0 x1 (wrap64 (x7 + (wrap64 ((wrap64 (rd x0 (wrap64 (x1 + x9)))) * x8)))) (wrap64 (x8 * 256)) (wrap64 (x9 + 1))) else (none)) else (none)) else (if 0 ≤ x1 then (if x1 ≤ (wrap64 (x1 + 4)) then (if (wrap64 (x1 + 4)) ≤ (x0.length : Int) then ((racewayref02_Sum.f k ((x0.take ((wrap64 (x1 + 4)) : Int).toNat).drop (x1 : Int).toNat)).bind fun t330 => ((racewayref02_put.f k ([] : List Int) t330).bind fun t331 => (if 0 ≤ (wrap64 (x1 + 4)) then (if (wrap64 (x1 + 4)) ≤ (wrap64 (x1 + 8)) then (if (wrap64 (x1 + 8)) ≤ (x0.length : Int) then (if (strOfNums t331).toList = (strOfNums ((x0.take ((wrap64 (x1 + 8)) : Int).toNat).drop ((wrap64 (x1 + 4)) : Int).toNat)).toList then (if x7 > 65536 then (some (([] : List Int),0,3)) else (if (wrap64 ((wrap64 ((x0.length : Int) - x1)) - 12)) < x7 then (some (([] : List Int),0,4)) else ((some (([] : List Int) : List Int)).bind fun y335 => (if 0 ≤ (wrap64 (x1 + 12)) then (if (wrap64 (x1 + 12)) ≤ (wrap64 ((wrap64 (x1 + 12)) + x7)) then (if (wrap64 ((wrap64 (x1 + 12)) + x7)) ≤ (x0.length : Int) then (if y335.length + ((x0.take ((wrap64 ((wrap64 (x1 + 12)) + x7)) : Int).toNat).drop ((wrap64 (x1 + 12)) : Int).toNat).length < 140737488355328 then ((some (y335 ++ ((x0.take ((wrap64 ((wrap64 (x1 + 12)) + x7)) : Int).toNat).drop ((wrap64 (x1 + 12)) : Int).toNat) : List Int)).bind fun y339 => ((racewayref02_Sum.f k y339).bind fun t342 => ((racewayref02_put.f k ([] : List Int) t342).bind fun t343 => (if 0 ≤ (wrap64 (x1 + 8)) then (if (wrap64 (x1 + 8)) ≤ (wrap64 (x1 + 12)) then (if (wrap64 (x1 + 12)) ≤ (x0.length : Int) then (if (strOfNums t343).toList = (strOfNums ((x0.take ((wrap64 (x1 + 12)) : Int).toNat).drop ((wrap64 (x1 + 8)) : Int).toNat)).toList then (some (y339,wrap64 ((wrap64 (x1 + 12)) + x7),0)) else (some (([] : List Int),0,6))) else (none)) else (none)) else (none))))) else (none)) else (none)) else (none)) else (none))))) else (some (([] : List Int),0,6))) else (none)) else (none)) else (none)))) else (none)) else (none)) else (none))
end
def racewayref02_Next.f (k : Nat) (l0 : List Int) (a1 : Int) : Option (List Int × Int × Int):=if a1 < 0 then (racewayref02_Next.j0 k l0 a1 true) else (racewayref02_Next.j0 k l0 a1 (decide (a1 > (l0.length : Int))))
def racewayref02_Next.T12 : Bool × List (List Nat × List Nat):=(true,[([],[]),([],[]),([],[]),([2],[2]),([0,1,3],[0,1,3]),([4],[4]),([5,5],[5]),([6],[6]),([],[]),([],[]),([9],[9]),([],[]),([11],[11]),([8,10,12],[8,10,12]),([13],[13]),([7,14],[7,14])])
def racewayref02_Next.B12 : List Nat:=[0,0,0,4,15,31,63,127,0,0,512,0,2048,7936,16128,32767]
theorem racewayref02_Next.tab12 : rtab .any (opsOf Tryd.f54 12) = racewayref02_Next.T12:=by kernel_rfl
theorem racewayref02_Next.bits12 : waitsOk racewayref02_Next.T12.2 racewayref02_Next.B12 = true:=by kernel_rfl
def racewayref02_Next.T19 : Bool × List (List Nat × List Nat):=(true,[([],[]),([0],[0]),([1,1],[1]),([2],[2]),([],[]),([],[]),([5],[5]),([],[]),([7],[7]),([4,6,8],[4,6,8]),([9],[9]),([3,10],[3,10])])
def racewayref02_Next.B19 : List Nat:=[0,1,3,7,0,0,32,0,128,496,1008,2047]
theorem racewayref02_Next.tab19 : rtab .any (opsOf Tryd.f54 19) = racewayref02_Next.T19:=by kernel_rfl
theorem racewayref02_Next.bits19 : waitsOk racewayref02_Next.T19.2 racewayref02_Next.B19 = true:=by kernel_rfl
set_option maxHeartbeats 8000000 in
set_option maxRecDepth 100000 in
theorem racewayref02_Next.calls (k : Nat) (A0 : Option Addr) (c0 : Nat) (l0 : List Int) (a1 : Int) (r1 : List Int) (r2 : Int) (r3 : Int) (w : World) (hr0 : Kd.C (Kd.int .u8) w A0 l0.length l0) (hc0 : l0.length ≤ c0) (h : racewayref02_Next.f k l0 a1 = some (r1,r2,r3)) :
  Calls Tryd.prog 54 #[.slice A0 l0.length c0,.int .i64 a1] w fun e w' => ∃ v0_ : Value,e = .returned (.tuple #[v0_,.int .i64 r2,.int .i64 r3]) ∧ Kd.R (Kd.int .u8) 5 w' w.heap.size (fun _ => True) v0_ r1 ∧ Below w.heap.size w w':=by
 have HR0:=Aside0.mk hr0
 have HC0:=Aside0.mk hc0
 clear hr0 hc0
 have HB:=Aside0.mk (Below.refl w.heap.size w)
 have H : (if a1 < 0 then (racewayref02_Next.j0 k l0 a1 true) else (racewayref02_Next.j0 k l0 a1 (decide (a1 > (l0.length : Int))))) = some (r1,r2,r3):=h
 clear h
 have HC3:=Aside0.mk H
 clear H
 go_enter Tryd.func54,Tryd.ntmps54
 go_upto_region 1 with (fail)
 go_cut [18] (fun v18 wc => ∃ (kq : Nat) (x18_2 : Bool),v18 = .bool x18_2 ∧ Aside0 (racewayref02_Next.j0 kq l0 a1 x18_2 = some (r1,r2,r3)) ∧ Aside0 (kq ≤ k) ∧ Aside0 (Below w.heap.size w wc))
 case first =>
  have H:=HC3.out
  clear HC3
  by_cases c4 : a1 < 0
  ·rw [if_pos c4] at H
   have c4b0 : decide (a1 < 0) = true:=decide_eq_true c4
   clear c4
   (first|rw [c4b0]|(simp only [i64_w,i32_w];rw [c4b0])|skip)
   have H':=Aside0.mk H
   clear H
   go_wp2
   go_meet
   case rel => exact ⟨_,(true),(by first|rfl|(simp;done)|(simp;decide +kernel)|(simp [*];done)),(by first|exact H'|(subst_vars;exact H')),⟨by first|omega|exact Nat.le_refl _⟩,⟨by repeat (first|(with_reducible first|exact HB.out|apply below_alloc|apply pw_below_drewN|apply below_drew1)|exact HB.out)⟩⟩
  ·rw [if_neg c4] at H
   have c4b0 : decide (a1 < 0) = false:=decide_eq_false c4
   clear c4
   (first|rw [c4b0]|(simp only [i64_w,i32_w];rw [c4b0])|skip)
   have H':=Aside0.mk H
   clear H
   go_wp2
   go_meet
   case rel => exact ⟨_,(decide (a1 > (l0.length : Int))),(by first|rfl|(simp;done)|(simp;decide +kernel)|(simp [*];done)),(by first|exact H'|(subst_vars;exact H')),⟨by first|omega|exact Nat.le_refl _⟩,⟨by repeat (first|(with_reducible first|exact HB.out|apply below_alloc|apply pw_below_drewN|apply below_drew1)|exact HB.out)⟩⟩
 case rest =>
  clear HC3
  try clear p2
  try clear c4
  try clear c4b0
  obtain ⟨kq,x18_2,rfl,HA,HJ2,HB⟩:=hcut
  cases kq with
  | zero => exact absurd HA.out (by simp [racewayref02_Next.j0])
  | succ kj2 =>
   have H:=HA.out
   clear HA
   simp only [racewayref02_Next.j0] at H
   by_cases c5 : x18_2 = true
   ·subst c5
    have H1 : (some (([] : List Int),0,2)) = some (r1,r2,r3):=by rw [if_pos rfl] at H;exact H
    clear H
    have H:=H1
    clear H1
    simp only [Option.some.injEq,Prod.mk.injEq] at H
    obtain ⟨rfl,rfl,rfl⟩:=H
    go_wp2
    go_ret3
    exact ⟨_,by first|rfl|(simp [errW_none,errW_some] <;> rfl)|(simp [*,errW_none,errW_some] <;> rfl),by first|exact Kd.R_nil _ _ _ _ _|exact Kd.N_nil _ _ _ _ _|exact Kd.V_nil _ _ _ _ _|exact Kd.Q_nil _ _ _ _ _|exact Kd.S_nil _ _ _ _ _,by repeat (first|(with_reducible first|exact HB.out|apply below_alloc|apply pw_below_drewN|apply below_drew1)|exact HB.out)⟩
   ·replace c5:=Bool.eq_false_iff.mpr c5
    subst c5
    have H1 : (if (wrap64 ((l0.length : Int) - a1)) < 12 then (some (([] : List Int),0,4)) else (racewayref02_Next.l0 kj2 l0 a1 0 1 0)) = some (r1,r2,r3):=by rw [if_neg (show ¬ (false = true) by decide)] at H;exact H
    clear H
    have H:=H1
    clear H1
    by_cases c6 : (wrap64 ((l0.length : Int) - a1)) < 12
    ·rw [if_pos c6] at H
     have c6b0 : decide ((wrap64 ((l0.length : Int) - a1)) < 12) = true:=decide_eq_true c6
     clear c6
     simp only [Option.some.injEq,Prod.mk.injEq] at H
     obtain ⟨rfl,rfl,rfl⟩:=H
     go_wp2
     go_ret3
     exact ⟨_,by first|rfl|(simp [errW_none,errW_some] <;> rfl)|(simp [*,errW_none,errW_some] <;> rfl),by first|exact Kd.R_nil _ _ _ _ _|exact Kd.N_nil _ _ _ _ _|exact Kd.V_nil _ _ _ _ _|exact Kd.Q_nil _ _ _ _ _|exact Kd.S_nil _ _ _ _ _,by repeat (first|(with_reducible first|exact HB.out|apply below_alloc|apply pw_below_drewN|apply below_drew1)|exact HB.out)⟩
    ·rw [if_neg c6] at H
     have c6b0 : decide ((wrap64 ((l0.length : Int) - a1)) < 12) = false:=decide_eq_false c6
     clear c6
     have H':=Aside0.mk H
     clear H
     go_wp2
     go_loopg [7,8,9] kj2 (fun kq v7 v8 v9 w' => ∃ (x7_2 : Int) (x8_2 : Int) (x9_2 : Int),v7 = .int .i64 x7_2 ∧ v8 = .int .i64 x8_2 ∧ v9 = .int .i64 x9_2 ∧ Aside0 (racewayref02_Next.l0 kq l0 a1 x7_2 x8_2 x9_2 = some (r1,r2,r3)) ∧ Aside0 (kq ≤ kj2) ∧ Aside0 (Below w.heap.size w w'))
     case atStart => exact ⟨(0),(1),(0),(by first|rfl|(simp;done)|(simp;decide +kernel)|(simp [*];done)),(by first|rfl|(simp;done)|(simp;decide +kernel)|(simp [*];done)),(by first|rfl|(simp;done)|(simp;decide +kernel)|(simp [*];done)),(by first|exact H'|(subst_vars;exact H')),⟨Nat.le_refl _⟩,⟨by repeat (first|(with_reducible first|exact HB.out|apply below_alloc|apply pw_below_drewN|apply below_drew1)|exact HB.out)⟩⟩
     case round =>
      clear H'
      try clear p2
      try clear c4
      try clear c4b0
      try clear c5
      try clear c6
      try clear c6b0
      try clear p6
      try clear p2
      obtain ⟨x7_2,x8_2,x9_2,rfl,rfl,rfl,HA,HK2,HB⟩:=hrel
      cases gk with
      | zero => exact absurd HA.out (by simp [racewayref02_Next.l0])
      | succ k2 =>
       have H:=HA.out
       clear HA
       simp only [racewayref02_Next.l0] at H
       by_cases c7 : x9_2 < 4
       ·rw [if_pos c7] at H
        have c7b0 : decide (x9_2 < 4) = true:=decide_eq_true c7
        clear c7
        obtain ⟨ji8,hji8⟩ : ∃ j_ : Int,(wrap64 (a1 + x9_2)) = j_:=⟨_,rfl⟩
        replace H : (if 0 ≤ (ji8) then (if (ji8) < (l0.length : Int) then (racewayref02_Next.l0 k2 l0 a1 (wrap64 (x7_2 + (wrap64 ((wrap64 (rd l0 (ji8))) * x8_2)))) (wrap64 (x8_2 * 256)) (wrap64 (x9_2 + 1))) else (none)) else (none)) = some (r1,r2,r3):=by first|(rw [hji8] at H;exact H)|(simp only [hji8] at H ⊢;exact H)
        have hji8w : (IntKind.i64.wrap (a1 + x9_2)) = ji8:=(i64_w _).trans hji8
        by_cases c9 : 0 ≤ (ji8)
        ·rw [if_pos c9] at H
         have c9b0 : decide (0 ≤ (ji8)) = true:=decide_eq_true c9
         clear c9
         by_cases c10 : (ji8) < (l0.length : Int)
         ·rw [if_pos c10] at H
          have c10b0 : decide ((ji8) < (l0.length : Int)) = true:=decide_eq_true c10
          clear c10
          have H':=Aside0.mk H
          clear H
          have p328 : 0 ≤ ((ji8) : Int):=of_decide_eq_true (by first|(with_reducible assumption)|assumption)
          have q328 : (ji8) < (l0.length : Int):=of_decide_eq_true (by first|(with_reducible assumption)|assumption)
          obtain ⟨ad328,e328,hx328_0⟩:=Kd.at_int HR0.out (ji8) p328 q328
          cases e328
          replace hx328_0:=(HB.out.cell (World.block_lt_of_cell? w _ hx328_0)).trans hx328_0
          replace p328:=eq_true p328
          replace q328:=eq_true q328
          go_wp2
          go_roundg k2
          case measure => have:=HJ2.out;have:=HK2.out;omega
          case rel => exact ⟨(wrap64 (x7_2 + (wrap64 ((wrap64 (rd l0 (ji8))) * x8_2)))),(wrap64 (x8_2 * 256)),(wrap64 (x9_2 + 1)),(by first|rfl|(simp;done)|(simp only [← hji8] <;> (first|rfl|simp))|(simp [*];done)),(by first|rfl|(simp;done)|(simp;decide +kernel)|(simp [*];done)),(by first|rfl|(simp;done)|(simp;decide +kernel)|(simp [*];done)),(by first|exact H'|(subst_vars;exact H')),⟨by have:=HJ2.out;have:=HK2.out;omega⟩,⟨by repeat (first|(with_reducible first|exact HB.out|apply below_alloc|apply pw_below_drewN|apply below_drew1)|exact HB.out)⟩⟩
         ·rw [if_neg c10] at H
          exact absurd H (by simp)
        ·rw [if_neg c9] at H
         exact absurd H (by simp)
       ·rw [if_neg c7] at H
        have c7b0 : decide (x9_2 < 4) = false:=decide_eq_false c7
        clear c7
        by_cases c11 : 0 ≤ a1
        ·rw [if_pos c11] at H
         have c11b0:=eq_true c11
         have c11b1 : decide (0 ≤ a1) = true:=decide_eq_true c11
         clear c11
         by_cases c12 : a1 ≤ (wrap64 (a1 + 4))
         ·rw [if_pos c12] at H
          have c12b0:=eq_true c12
          have c12b1 : decide (a1 ≤ (wrap64 (a1 + 4))) = true:=decide_eq_true c12
          by_cases c13 : (wrap64 (a1 + 4)) ≤ (l0.length : Int)
          ·rw [if_pos c13] at H
           have c13b0:=eq_true c13
           have c13b1 : decide ((wrap64 (a1 + 4)) ≤ (l0.length : Int)) = true:=decide_eq_true c13
           replace H:=Option.bind_eq_some_iff.mp H
           obtain ⟨t330,A140,H⟩:=H
           replace H : ((racewayref02_put.f k2 ([] : List Int) t330).bind fun t331 => (if 0 ≤ (wrap64 (a1 + 4)) then (if (wrap64 (a1 + 4)) ≤ (wrap64 (a1 + 8)) then (if (wrap64 (a1 + 8)) ≤ (l0.length : Int) then (if (strOfNums t331).toList = (strOfNums ((l0.take ((wrap64 (a1 + 8)) : Int).toNat).drop ((wrap64 (a1 + 4)) : Int).toNat)).toList then (if x7_2 > 65536 then (some (([] : List Int),0,3)) else (if (wrap64 ((wrap64 ((l0.length : Int) - a1)) - 12)) < x7_2 then (some (([] : List Int),0,4)) else ((some (([] : List Int) : List Int)).bind fun y335 => (if 0 ≤ (wrap64 (a1 + 12)) then (if (wrap64 (a1 + 12)) ≤ (wrap64 ((wrap64 (a1 + 12)) + x7_2)) then (if (wrap64 ((wrap64 (a1 + 12)) + x7_2)) ≤ (l0.length : Int) then (if y335.length + ((l0.take ((wrap64 ((wrap64 (a1 + 12)) + x7_2)) : Int).toNat).drop ((wrap64 (a1 + 12)) : Int).toNat).length < 140737488355328 then ((some (y335 ++ ((l0.take ((wrap64 ((wrap64 (a1 + 12)) + x7_2)) : Int).toNat).drop ((wrap64 (a1 + 12)) : Int).toNat) : List Int)).bind fun y339 => ((racewayref02_Sum.f k2 y339).bind fun t342 => ((racewayref02_put.f k2 ([] : List Int) t342).bind fun t343 => (if 0 ≤ (wrap64 (a1 + 8)) then (if (wrap64 (a1 + 8)) ≤ (wrap64 (a1 + 12)) then (if (wrap64 (a1 + 12)) ≤ (l0.length : Int) then (if (strOfNums t343).toList = (strOfNums ((l0.take ((wrap64 (a1 + 12)) : Int).toNat).drop ((wrap64 (a1 + 8)) : Int).toNat)).toList then (some (y339,wrap64 ((wrap64 (a1 + 12)) + x7_2),0)) else (some (([] : List Int),0,6))) else (none)) else (none)) else (none))))) else (none)) else (none)) else (none)) else (none))))) else (some (([] : List Int),0,6))) else (none)) else (none)) else (none))) = some (r1,r2,r3):=H
           have A14:=Aside0.mk A140
           clear A140
           replace H:=Option.bind_eq_some_iff.mp H
           obtain ⟨t331,A150,H⟩:=H
           replace H : (if 0 ≤ (wrap64 (a1 + 4)) then (if (wrap64 (a1 + 4)) ≤ (wrap64 (a1 + 8)) then (if (wrap64 (a1 + 8)) ≤ (l0.length : Int) then (if (strOfNums t331).toList = (strOfNums ((l0.take ((wrap64 (a1 + 8)) : Int).toNat).drop ((wrap64 (a1 + 4)) : Int).toNat)).toList then (if x7_2 > 65536 then (some (([] : List Int),0,3)) else (if (wrap64 ((wrap64 ((l0.length : Int) - a1)) - 12)) < x7_2 then (some (([] : List Int),0,4)) else ((some (([] : List Int) : List Int)).bind fun y335 => (if 0 ≤ (wrap64 (a1 + 12)) then (if (wrap64 (a1 + 12)) ≤ (wrap64 ((wrap64 (a1 + 12)) + x7_2)) then (if (wrap64 ((wrap64 (a1 + 12)) + x7_2)) ≤ (l0.length : Int) then (if y335.length + ((l0.take ((wrap64 ((wrap64 (a1 + 12)) + x7_2)) : Int).toNat).drop ((wrap64 (a1 + 12)) : Int).toNat).length < 140737488355328 then ((some (y335 ++ ((l0.take ((wrap64 ((wrap64 (a1 + 12)) + x7_2)) : Int).toNat).drop ((wrap64 (a1 + 12)) : Int).toNat) : List Int)).bind fun y339 => ((racewayref02_Sum.f k2 y339).bind fun t342 => ((racewayref02_put.f k2 ([] : List Int) t342).bind fun t343 => (if 0 ≤ (wrap64 (a1 + 8)) then (if (wrap64 (a1 + 8)) ≤ (wrap64 (a1 + 12)) then (if (wrap64 (a1 + 12)) ≤ (l0.length : Int) then (if (strOfNums t343).toList = (strOfNums ((l0.take ((wrap64 (a1 + 12)) : Int).toNat).drop ((wrap64 (a1 + 8)) : Int).toNat)).toList then (some (y339,wrap64 ((wrap64 (a1 + 12)) + x7_2),0)) else (some (([] : List Int),0,6))) else (none)) else (none)) else (none))))) else (none)) else (none)) else (none)) else (none))))) else (some (([] : List Int),0,6))) else (none)) else (none)) else (none)) = some (r1,r2,r3):=H
           have A15:=Aside0.mk A150
           clear A150
           obtain ⟨ji16,hji16⟩ : ∃ j_ : Int,(wrap64 (a1 + 4)) = j_:=⟨_,rfl⟩
           replace H : (if 0 ≤ (ji16) then (if (ji16) ≤ (wrap64 (a1 + 8)) then (if (wrap64 (a1 + 8)) ≤ (l0.length : Int) then (if (strOfNums t331).toList = (strOfNums ((l0.take ((wrap64 (a1 + 8)) : Int).toNat).drop ((ji16) : Int).toNat)).toList then (if x7_2 > 65536 then (some (([] : List Int),0,3)) else (if (wrap64 ((wrap64 ((l0.length : Int) - a1)) - 12)) < x7_2 then (some (([] : List Int),0,4)) else ((some (([] : List Int) : List Int)).bind fun y335 => (if 0 ≤ (wrap64 (a1 + 12)) then (if (wrap64 (a1 + 12)) ≤ (wrap64 ((wrap64 (a1 + 12)) + x7_2)) then (if (wrap64 ((wrap64 (a1 + 12)) + x7_2)) ≤ (l0.length : Int) then (if y335.length + ((l0.take ((wrap64 ((wrap64 (a1 + 12)) + x7_2)) : Int).toNat).drop ((wrap64 (a1 + 12)) : Int).toNat).length < 140737488355328 then ((some (y335 ++ ((l0.take ((wrap64 ((wrap64 (a1 + 12)) + x7_2)) : Int).toNat).drop ((wrap64 (a1 + 12)) : Int).toNat) : List Int)).bind fun y339 => ((racewayref02_Sum.f k2 y339).bind fun t342 => ((racewayref02_put.f k2 ([] : List Int) t342).bind fun t343 => (if 0 ≤ (wrap64 (a1 + 8)) then (if (wrap64 (a1 + 8)) ≤ (wrap64 (a1 + 12)) then (if (wrap64 (a1 + 12)) ≤ (l0.length : Int) then (if (strOfNums t343).toList = (strOfNums ((l0.take ((wrap64 (a1 + 12)) : Int).toNat).drop ((wrap64 (a1 + 8)) : Int).toNat)).toList then (some (y339,wrap64 ((wrap64 (a1 + 12)) + x7_2),0)) else (some (([] : List Int),0,6))) else (none)) else (none)) else (none))))) else (none)) else (none)) else (none)) else (none))))) else (some (([] : List Int),0,6))) else (none)) else (none)) else (none)) = some (r1,r2,r3):=by first|(rw [hji16] at H;exact H)|(simp only [hji16] at H ⊢;exact H)
           (try rw [hji16] at c12b0)
           (try rw [hji16] at c12b1)
           (try rw [hji16] at c12)
           (try rw [hji16] at c13b0)
           (try rw [hji16] at c13b1)
           (try rw [hji16] at c13)
           (try rw [hji16] at A14)
           (try rw [hji16] at A15)
           have hji16w : (IntKind.i64.wrap (a1 + 4)) = ji16:=(i64_w _).trans hji16
           by_cases c17 : 0 ≤ (ji16)
           ·rw [if_pos c17] at H
            have c17b0:=eq_true c17
            have c17b1 : decide (0 ≤ (ji16)) = true:=decide_eq_true c17
            clear c17
            by_cases c18 : (ji16) ≤ (wrap64 (a1 + 8))
            ·rw [if_pos c18] at H
             have c18b0:=eq_true c18
             have c18b1 : decide ((ji16) ≤ (wrap64 (a1 + 8))) = true:=decide_eq_true c18
             by_cases c19 : (wrap64 (a1 + 8)) ≤ (l0.length : Int)
             ·rw [if_pos c19] at H
              have c19b0:=eq_true c19
              have c19b1 : decide ((wrap64 (a1 + 8)) ≤ (l0.length : Int)) = true:=decide_eq_true c19
              by_cases c20 : (strOfNums t331).toList = (strOfNums ((l0.take ((wrap64 (a1 + 8)) : Int).toNat).drop ((ji16) : Int).toNat)).toList
              ·rw [if_pos c20] at H
               have c20b0 : ((strOfNums t331).toList == (strOfNums ((l0.take ((wrap64 (a1 + 8)) : Int).toNat).drop ((ji16) : Int).toNat)).toList) = true:=beq_iff_eq.mpr c20
               have c20b1 : ((strOfNums t331).toList != (strOfNums ((l0.take ((wrap64 (a1 + 8)) : Int).toNat).drop ((ji16) : Int).toNat)).toList) = false:=bne_eq_false_iff_eq.mpr c20
               clear c20
               by_cases c21 : x7_2 > 65536
               ·rw [if_pos c21] at H
                have c21b0 : decide (65536 < x7_2) = true:=decide_eq_true c21
                clear c21
                simp only [Option.some.injEq,Prod.mk.injEq] at H
                obtain ⟨rfl,rfl,rfl⟩:=H
                try go_wp2
                have n0_:=Aside0.mk (below_drew1 HB.out)
                clear HB
                have HB:=n0_
                clear n0_
                obtain ⟨i023,hi023,_,hsz23,_⟩:=info_parts info5
                obtain ⟨A23,hcut23,hA23,hC23⟩:=print_mid_of (P:=Tryd.prog) (Value.int .u8) 0 49 5 .i64 .i64 Tryd.underlying49 hi023 hsz23 A0 c0 l0 a1 (ji16) (of_decide_eq_true (by first|(with_reducible assumption)|assumption)) (by first|omega|exact of_decide_eq_true (by first|(with_reducible assumption)|assumption)) (of_decide_eq_true (by first|(with_reducible assumption)|assumption)) HC0.out
                have HR329:=Aside0.mk (Kd.C_of_reads (h1:=fun _ => rfl) (hA23 _ (Kd.reads_of_C HR0.out)))
                have HC329:=Aside0.mk hC23
                clear hA23 hC23 hi023 hsz23
                obtain ⟨i024,hi024,_,hsz24,_⟩:=info_parts info5
                obtain ⟨A24,hcut24,hA24,hC24⟩:=print_mid_of (P:=Tryd.prog) (Value.int .u8) 0 49 5 .i64 .i64 Tryd.underlying49 hi024 hsz24 A0 c0 l0 (ji16) (wrap64 (a1 + 8)) (of_decide_eq_true (by first|(with_reducible assumption)|assumption)) (by first|omega|exact of_decide_eq_true (by first|(with_reducible assumption)|assumption)) (of_decide_eq_true (by first|(with_reducible assumption)|assumption)) HC0.out
                have HR334:=Aside0.mk (Kd.C_of_reads (h1:=fun _ => rfl) (hA24 _ (Kd.reads_of_C HR0.out)))
                have HC334:=Aside0.mk hC24
                clear hA24 hC24 hi024 hsz24
                refine start_ (n:=16) (S:=fun w' => Kd.C (Kd.int .u8) w' A24 _ _) (ds:=[]) #[false,false,false,false,false,false,false,false,false,false,false,false,false,false,false,false] (by kernel_rfl) rfl rfl (by repeat (first|exact (Kd.C_below HR334.out HB.out)|exact HR334.out|(with_reducible refine Kd.C_alloc ?_ _)|(with_reducible refine Kd.C_drewN ?_ _)|(with_reducible refine Kd.C_drew ?_))) (fun hHeld => ?_);refine with_tabW racewayref02_Next.tab12 racewayref02_Next.bits12 (fun HT_ HW_ => ?_)
                generalize wr.drew = w22 at HB HR329 HR334 hHeld ⊢
                refine pure_ (i:=0) (N:=some 41) (v:=?_) (a':=?_) #[true,false,false,false,false,false,false,false,false,false,false,false,false,false,false,false] rfl rfl (any_of HT_.out (by kernel_rfl)) (fun _ _ _ h => h) (Or.inl ⟨by rfl,?_⟩) ?_ ?_
                rotate_left
                ·intro w'
                 go_simp
                 with_reducible rfl
                rotate_left
                ·simp only [Act.put,List.setIfInBounds_toArray,List.set_cons_zero,List.set_cons_succ,i64_w,i32_w]
                 rfl
                refine pure_ (i:=1) (N:=some 42) (v:=?_) (a':=?_) #[true,true,false,false,false,false,false,false,false,false,false,false,false,false,false,false] rfl rfl (any_of HT_.out (by kernel_rfl)) (fun _ _ _ h => h) (Or.inl ⟨by rfl,?_⟩) ?_ ?_
                rotate_left
                ·intro w'
                 go_simp
                 with_reducible rfl
                rotate_left
                ·simp only [Act.put,List.setIfInBounds_toArray,List.set_cons_zero,List.set_cons_succ,i64_w,i32_w]
                 rfl
                refine pure_ (i:=2) (N:=some 43) (v:=?_) (a':=?_) #[true,true,true,false,false,false,false,false,false,false,false,false,false,false,false,false] rfl rfl (any_of HT_.out (by kernel_rfl)) (fun _ _ _ h => h) (Or.inl ⟨by rfl,?_⟩) ?_ ?_
                rotate_left
                ·intro w'
                 go_simp
                 with_reducible rfl
                rotate_left
                ·simp only [Act.put,List.setIfInBounds_toArray,List.set_cons_zero,List.set_cons_succ,i64_w,i32_w]
                 rfl
                refine pure_ (i:=3) (N:=some 44) (v:=?_) (a':=?_) #[true,true,true,true,false,false,false,false,false,false,false,false,false,false,false,false] rfl rfl (any_of HT_.out (by kernel_rfl)) (fun _ _ _ h => h) (Or.inl ⟨by rfl,?_⟩) ?_ ?_
                rotate_left
                ·intro w'
                 go_simp
                 with_reducible rfl
                rotate_left
                ·simp only [Act.put,List.setIfInBounds_toArray,List.set_cons_zero,List.set_cons_succ,i64_w,i32_w]
                 rfl
                refine pure_ (i:=4) (N:=some 45) (v:=?_) (a':=?_) #[true,true,true,true,true,false,false,false,false,false,false,false,false,false,false,false] rfl rfl (any_of HT_.out (by kernel_rfl)) (fun _ _ _ h => h) (Or.inl ⟨by rfl,?_⟩) ?_ ?_
                rotate_left
                ·intro w'
                 go_simp
                 with_reducible rfl
                rotate_left
                ·simp only [Act.put,List.setIfInBounds_toArray,List.set_cons_zero,List.set_cons_succ,i64_w,i32_w]
                 rfl
                refine pure_ (i:=8) (N:=some 49) (v:=?_) (a':=?_) #[true,true,true,true,true,false,false,false,true,false,false,false,false,false,false,false] rfl rfl (any_of HT_.out (by kernel_rfl)) (fun _ _ _ h => h) (Or.inl ⟨by rfl,?_⟩) ?_ ?_
                rotate_left
                ·intro w'
                 go_simp
                 with_reducible rfl
                rotate_left
                ·simp only [Act.put,List.setIfInBounds_toArray,List.set_cons_zero,List.set_cons_succ,i64_w,i32_w]
                 rfl
                refine pure_ (i:=9) (N:=some 50) (v:=?_) (a':=?_) #[true,true,true,true,true,false,false,false,true,true,false,false,false,false,false,false] rfl rfl (any_of HT_.out (by kernel_rfl)) (fun _ _ _ h => h) (Or.inl ⟨by rfl,?_⟩) ?_ ?_
                rotate_left
                ·intro w'
                 go_simp
                 with_reducible rfl
                rotate_left
                ·simp only [Act.put,List.setIfInBounds_toArray,List.set_cons_zero,List.set_cons_succ,i64_w,i32_w]
                 rfl
                refine pure_ (i:=10) (N:=some 51) (v:=?_) (a':=?_) #[true,true,true,true,true,false,false,false,true,true,true,false,false,false,false,false] rfl rfl (any_of HT_.out (by kernel_rfl)) (fun _ _ _ h => h) (Or.inl ⟨by rfl,?_⟩) ?_ ?_
                rotate_left
                ·intro w'
                 go_simp
                 with_reducible rfl
                rotate_left
                ·simp only [Act.put,List.setIfInBounds_toArray,List.set_cons_zero,List.set_cons_succ,i64_w,i32_w]
                 rfl
                refine pure_ (i:=11) (N:=some 52) (v:=?_) (a':=?_) #[true,true,true,true,true,false,false,false,true,true,true,true,false,false,false,false] rfl rfl (any_of HT_.out (by kernel_rfl)) (fun _ _ _ h => h) (Or.inl ⟨by rfl,?_⟩) ?_ ?_
                rotate_left
                ·intro w'
                 go_simp
                 with_reducible rfl
                rotate_left
                ·simp only [Act.put,List.setIfInBounds_toArray,List.set_cons_zero,List.set_cons_succ,i64_w,i32_w]
                 rfl
                refine pure_ (i:=12) (N:=some 53) (v:=?_) (a':=?_) #[true,true,true,true,true,false,false,false,true,true,true,true,true,false,false,false] rfl rfl (any_of HT_.out (by kernel_rfl)) (fun _ _ _ h => h) (Or.inl ⟨by rfl,?_⟩) ?_ ?_
                rotate_left
                ·intro w'
                 go_simp
                 with_reducible rfl
                rotate_left
                ·simp only [Act.put,List.setIfInBounds_toArray,List.set_cons_zero,List.set_cons_succ,i64_w,i32_w]
                 rfl
                refine pure_ (i:=13) (N:=some 54) (v:=?_) (a':=?_) #[true,true,true,true,true,false,false,false,true,true,true,true,true,true,false,false] rfl rfl (any_of HT_.out (by kernel_rfl)) (fun _ _ _ h => h) (Or.inl ⟨by rfl,?_⟩) ?_ ?_
                rotate_left
                ·intro w'
                 go_simp
                 with_reducible rfl
                rotate_left
                ·simp only [Act.put,List.setIfInBounds_toArray,List.set_cons_zero,List.set_cons_succ,i64_w,i32_w]
                 rfl
                refine take_ (i:=14) (N:=some 55) (v:=?_) (a':=?_) #[true,true,true,true,true,false,false,false,true,true,true,true,true,true,true,false] rfl rfl (by kernel_rfl) (fun _ _ _ h => h) (Or.inl ⟨by rfl,?_⟩) hHeld ?_ ?_
                rotate_left
                ·intro w' s0_
                 have hcv_:=Kd.C_string (P:=Tryd.prog) (A:=A24) (c:=(c0 - (ji16).toNat)) Tryd.underlying49 Tryd.underlying5 Tryd.underlying9 s0_
                 simp only [List.length_drop,List.length_take] at hcv_
                 try rw [Nat.min_eq_left (Int.toNat_le.mpr (of_decide_eq_true (by first|(with_reducible assumption)|assumption)))] at hcv_
                 go_simp
                 with_reducible rfl
                rotate_left
                ·simp only [Act.put,List.setIfInBounds_toArray,List.set_cons_zero,List.set_cons_succ,i64_w,i32_w]
                 rfl
                refine one_ (i:=5) (N:=some 46) #[true,true,true,true,true,true,false,false,true,true,true,true,true,true,true,false] rfl rfl (one_of HT_.out (by kernel_rfl)) (by decide) (fun K hK => ?_)
                refine goes_ Tryd.func88 (by kernel_rfl) rfl #[.slice A23 ((l0.take ((ji16) : Int).toNat).drop (a1 : Int).toNat).length (c0 - a1.toNat)] (by rfl) rfl rfl (by (try simp only [List.map_toArray,List.map_cons,List.map_nil]);first|done|(rw [show ((l0.take ((ji16) : Int).toNat).drop (a1 : Int).toNat).length = ((ji16).toNat - a1.toNat) from (by rw [List.length_drop,List.length_take];have h_ : ((ji16) : Int) ≤ (l0.length : Int):=of_decide_eq_true (by first|(with_reducible assumption)|assumption);omega)] <;> rfl)|(simp only [hji16];rfl)|rfl|(simp only [List.length_drop,List.length_take];rfl)) ?_
                with_reducible refine (racewayref02_Sum.calls k2 _ _ ((l0.take ((ji16) : Int).toNat).drop (a1 : Int).toNat) t330 _ ?side1 ?side2 A14.out).mono ?_
                (case side1 => repeat (first|exact (Kd.C_below HR329.out HB.out)|(with_reducible refine Kd.C_alloc ?_ _)|(with_reducible refine Kd.C_drewN ?_ _)|(with_reducible refine Kd.C_drew ?_)))
                (case side2 => exact HC329.out)
                rintro e w' ⟨rfl,⟨nd,rfl⟩⟩
                refine ⟨_,rfl,?_⟩
                refine hK.out _ _ (by repeat (first|exact (Kd.C_below HR334.out HB.out)|exact HR334.out|(with_reducible refine Kd.C_alloc ?_ _)|(with_reducible refine Kd.C_drewN ?_ _)|(with_reducible refine Kd.C_drew ?_))) (fun hHeld => ?_)
                clear hK K
                refine norm_ (a':=?_) ?_ ?_
                rotate_left
                ·show Act.put _ (some 46) _ = _
                 simp only [Act.put,List.setIfInBounds_toArray,List.set_cons_zero,List.set_cons_succ,i64_w,i32_w]
                 rfl
                refine one_ (i:=6) (N:=some 47) #[true,true,true,true,true,true,true,false,true,true,true,true,true,true,true,false] rfl rfl (one_of HT_.out (by kernel_rfl)) (by decide) (fun K hK => ?_)
                refine goes_ Tryd.func87 (by kernel_rfl) rfl #[.slice none 0 0,.int .u32 t330] (by rfl) rfl rfl (by (try simp only [List.map_toArray,List.map_cons,List.map_nil]);first|done|rfl|(simp only [List.length_drop,List.length_take];rfl)) ?_
                refine (racewayref02_put.calls k2 (fun k_ => some k_ = (.slice none 0 0 : Value).ownBlock) (.slice none 0 0) ([] : List Int) t330 t331 w _ ?side1 ?side2 A15.out).mono ?_
                (case side1 => repeat (first|(with_reducible first|exact HB.out|apply below_alloc|apply pw_below_drewN|apply below_drew1)|exact HB.out))
                (case side2 => exact Kd.R_nil _ _ _ _ _)
                rintro e w25 ⟨v332,rfl,ho0,hb,hkp⟩
                refine ⟨_,rfl,?_⟩
                have n0_:=Aside0.mk (Kd.R_mono (ok':=fun k_ => True) ho0 (fun k_ hk_ => trivial))
                have n1_:=Aside0.mk (hb)
                clear HB
                have HO333:=n0_
                have HB:=n1_
                clear n0_ n1_
                (try clear hb)
                (try clear hkp)
                (try clear ho0)
                refine hK.out _ _ (by repeat (first|exact (Kd.C_below HR334.out HB.out)|exact HR334.out|(with_reducible refine Kd.C_alloc ?_ _)|(with_reducible refine Kd.C_drewN ?_ _)|(with_reducible refine Kd.C_drew ?_))) (fun hHeld => ?_)
                clear hK K
                refine norm_ (a':=?_) ?_ ?_
                rotate_left
                ·show Act.put _ (some 47) _ = _
                 simp only [Act.put,List.setIfInBounds_toArray,List.set_cons_zero,List.set_cons_succ,i64_w,i32_w]
                 rfl
                refine one_ (i:=7) (N:=some 48) #[true,true,true,true,true,true,true,true,true,true,true,true,true,true,true,false] rfl rfl (one_of HT_.out (by kernel_rfl)) (by decide) (fun K hK => ?_)
                have hcv26:=own_string (P:=Tryd.prog) Tryd.underlying49 Tryd.underlying5 Tryd.underlying9 (Kd.own_of_R HO333.out)
                refine value_ (w1:=?_) (v:=?_) (by rfl) rfl ?_ ?_
                rotate_left 2
                ·go_simp
                 constructor
                 ·rfl
                 ·rfl
                clear hcv26
                refine hK.out _ _ (by repeat (first|exact (Kd.C_below HR334.out HB.out)|exact HR334.out|(with_reducible refine Kd.C_alloc ?_ _)|(with_reducible refine Kd.C_drewN ?_ _)|(with_reducible refine Kd.C_drew ?_))) (fun hHeld => ?_)
                clear hK K
                refine norm_ (a':=?_) ?_ ?_
                rotate_left
                ·show Act.put _ (some 48) _ = _
                 simp only [Act.put,List.setIfInBounds_toArray,List.set_cons_zero,List.set_cons_succ,i64_w,i32_w]
                 rfl
                refine pure_ (i:=15) (N:=some 56) (v:=?_) (a':=?_) #[true,true,true,true,true,true,true,true,true,true,true,true,true,true,true,true] rfl rfl (any_of HT_.out (by kernel_rfl)) (fun _ _ _ h => h) (Or.inl ⟨by rfl,?_⟩) ?_ ?_
                rotate_left
                ·intro w'
                 go_simp
                 with_reducible rfl
                rotate_left
                ·simp only [Act.put,List.setIfInBounds_toArray,List.set_cons_zero,List.set_cons_succ,i64_w,i32_w]
                 rfl
                refine done_ (done_of HT_.out (by kernel_rfl)) ?_
                try go_wp2
                go_ret3
                exact ⟨_,by first|rfl|(simp [errW_none,errW_some] <;> rfl)|(simp only [← hji16];first|rfl|(simp [errW_none,errW_some] <;> rfl))|(simp [*,errW_none,errW_some] <;> rfl),by first|exact Kd.R_nil _ _ _ _ _|exact Kd.N_nil _ _ _ _ _|exact Kd.V_nil _ _ _ _ _|exact Kd.Q_nil _ _ _ _ _|exact Kd.S_nil _ _ _ _ _,by repeat (first|(with_reducible first|exact HB.out|apply below_alloc|apply pw_below_drewN|apply below_drew1)|exact HB.out)⟩
               ·rw [if_neg c21] at H
                have c21b0 : decide (65536 < x7_2) = false:=decide_eq_false c21
                clear c21
                by_cases c29 : (wrap64 ((wrap64 ((l0.length : Int) - a1)) - 12)) < x7_2
                ·rw [if_pos c29] at H
                 have c29b0 : decide ((wrap64 ((wrap64 ((l0.length : Int) - a1)) - 12)) < x7_2) = true:=decide_eq_true c29
                 clear c29
                 simp only [Option.some.injEq,Prod.mk.injEq] at H
                 obtain ⟨rfl,rfl,rfl⟩:=H
                 try go_wp2
                 have n0_:=Aside0.mk (below_drew1 HB.out)
                 clear HB
                 have HB:=n0_
                 clear n0_
                 obtain ⟨i031,hi031,_,hsz31,_⟩:=info_parts info5
                 obtain ⟨A31,hcut31,hA31,hC31⟩:=print_mid_of (P:=Tryd.prog) (Value.int .u8) 0 49 5 .i64 .i64 Tryd.underlying49 hi031 hsz31 A0 c0 l0 a1 (ji16) (of_decide_eq_true (by first|(with_reducible assumption)|assumption)) (by first|omega|exact of_decide_eq_true (by first|(with_reducible assumption)|assumption)) (of_decide_eq_true (by first|(with_reducible assumption)|assumption)) HC0.out
                 have HR329:=Aside0.mk (Kd.C_of_reads (h1:=fun _ => rfl) (hA31 _ (Kd.reads_of_C HR0.out)))
                 have HC329:=Aside0.mk hC31
                 clear hA31 hC31 hi031 hsz31
                 obtain ⟨i032,hi032,_,hsz32,_⟩:=info_parts info5
                 obtain ⟨A32,hcut32,hA32,hC32⟩:=print_mid_of (P:=Tryd.prog) (Value.int .u8) 0 49 5 .i64 .i64 Tryd.underlying49 hi032 hsz32 A0 c0 l0 (ji16) (wrap64 (a1 + 8)) (of_decide_eq_true (by first|(with_reducible assumption)|assumption)) (by first|omega|exact of_decide_eq_true (by first|(with_reducible assumption)|assumption)) (of_decide_eq_true (by first|(with_reducible assumption)|assumption)) HC0.out
                 have HR334:=Aside0.mk (Kd.C_of_reads (h1:=fun _ => rfl) (hA32 _ (Kd.reads_of_C HR0.out)))
                 have HC334:=Aside0.mk hC32
                 clear hA32 hC32 hi032 hsz32
                 refine start_ (n:=16) (S:=fun w' => Kd.C (Kd.int .u8) w' A32 _ _) (ds:=[]) #[false,false,false,false,false,false,false,false,false,false,false,false,false,false,false,false] (by kernel_rfl) rfl rfl (by repeat (first|exact (Kd.C_below HR334.out HB.out)|exact HR334.out|(with_reducible refine Kd.C_alloc ?_ _)|(with_reducible refine Kd.C_drewN ?_ _)|(with_reducible refine Kd.C_drew ?_))) (fun hHeld => ?_);refine with_tabW racewayref02_Next.tab12 racewayref02_Next.bits12 (fun HT_ HW_ => ?_)
                 generalize wr.drew = w30 at HB HR329 HR334 hHeld ⊢
                 refine pure_ (i:=0) (N:=some 41) (v:=?_) (a':=?_) #[true,false,false,false,false,false,false,false,false,false,false,false,false,false,false,false] rfl rfl (any_of HT_.out (by kernel_rfl)) (fun _ _ _ h => h) (Or.inl ⟨by rfl,?_⟩) ?_ ?_
                 rotate_left
                 ·intro w'
                  go_simp
                  with_reducible rfl
                 rotate_left
                 ·simp only [Act.put,List.setIfInBounds_toArray,List.set_cons_zero,List.set_cons_succ,i64_w,i32_w]
                  rfl
                 refine pure_ (i:=1) (N:=some 42) (v:=?_) (a':=?_) #[true,true,false,false,false,false,false,false,false,false,false,false,false,false,false,false] rfl rfl (any_of HT_.out (by kernel_rfl)) (fun _ _ _ h => h) (Or.inl ⟨by rfl,?_⟩) ?_ ?_
                 rotate_left
                 ·intro w'
                  go_simp
                  with_reducible rfl
                 rotate_left
                 ·simp only [Act.put,List.setIfInBounds_toArray,List.set_cons_zero,List.set_cons_succ,i64_w,i32_w]
                  rfl
                 refine pure_ (i:=2) (N:=some 43) (v:=?_) (a':=?_) #[true,true,true,false,false,false,false,false,false,false,false,false,false,false,false,false] rfl rfl (any_of HT_.out (by kernel_rfl)) (fun _ _ _ h => h) (Or.inl ⟨by rfl,?_⟩) ?_ ?_
                 rotate_left
                 ·intro w'
                  go_simp
                  with_reducible rfl
                 rotate_left
                 ·simp only [Act.put,List.setIfInBounds_toArray,List.set_cons_zero,List.set_cons_succ,i64_w,i32_w]
                  rfl
                 refine pure_ (i:=3) (N:=some 44) (v:=?_) (a':=?_) #[true,true,true,true,false,false,false,false,false,false,false,false,false,false,false,false] rfl rfl (any_of HT_.out (by kernel_rfl)) (fun _ _ _ h => h) (Or.inl ⟨by rfl,?_⟩) ?_ ?_
                 rotate_left
                 ·intro w'
                  go_simp
                  with_reducible rfl
                 rotate_left
                 ·simp only [Act.put,List.setIfInBounds_toArray,List.set_cons_zero,List.set_cons_succ,i64_w,i32_w]
                  rfl
                 refine pure_ (i:=4) (N:=some 45) (v:=?_) (a':=?_) #[true,true,true,true,true,false,false,false,false,false,false,false,false,false,false,false] rfl rfl (any_of HT_.out (by kernel_rfl)) (fun _ _ _ h => h) (Or.inl ⟨by rfl,?_⟩) ?_ ?_
                 rotate_left
                 ·intro w'
                  go_simp
                  with_reducible rfl
                 rotate_left
                 ·simp only [Act.put,List.setIfInBounds_toArray,List.set_cons_zero,List.set_cons_succ,i64_w,i32_w]
                  rfl
                 refine pure_ (i:=8) (N:=some 49) (v:=?_) (a':=?_) #[true,true,true,true,true,false,false,false,true,false,false,false,false,false,false,false] rfl rfl (any_of HT_.out (by kernel_rfl)) (fun _ _ _ h => h) (Or.inl ⟨by rfl,?_⟩) ?_ ?_
                 rotate_left
                 ·intro w'
                  go_simp
                  with_reducible rfl
                 rotate_left
                 ·simp only [Act.put,List.setIfInBounds_toArray,List.set_cons_zero,List.set_cons_succ,i64_w,i32_w]
                  rfl
                 refine pure_ (i:=9) (N:=some 50) (v:=?_) (a':=?_) #[true,true,true,true,true,false,false,false,true,true,false,false,false,false,false,false] rfl rfl (any_of HT_.out (by kernel_rfl)) (fun _ _ _ h => h) (Or.inl ⟨by rfl,?_⟩) ?_ ?_
                 rotate_left
                 ·intro w'
                  go_simp
                  with_reducible rfl
                 rotate_left
                 ·simp only [Act.put,List.setIfInBounds_toArray,List.set_cons_zero,List.set_cons_succ,i64_w,i32_w]
                  rfl
                 refine pure_ (i:=10) (N:=some 51) (v:=?_) (a':=?_) #[true,true,true,true,true,false,false,false,true,true,true,false,false,false,false,false] rfl rfl (any_of HT_.out (by kernel_rfl)) (fun _ _ _ h => h) (Or.inl ⟨by rfl,?_⟩) ?_ ?_
                 rotate_left
                 ·intro w'
                  go_simp
                  with_reducible rfl
                 rotate_left
                 ·simp only [Act.put,List.setIfInBounds_toArray,List.set_cons_zero,List.set_cons_succ,i64_w,i32_w]
                  rfl
                 refine pure_ (i:=11) (N:=some 52) (v:=?_) (a':=?_) #[true,true,true,true,true,false,false,false,true,true,true,true,false,false,false,false] rfl rfl (any_of HT_.out (by kernel_rfl)) (fun _ _ _ h => h) (Or.inl ⟨by rfl,?_⟩) ?_ ?_
                 rotate_left
                 ·intro w'
                  go_simp
                  with_reducible rfl
                 rotate_left
                 ·simp only [Act.put,List.setIfInBounds_toArray,List.set_cons_zero,List.set_cons_succ,i64_w,i32_w]
                  rfl
                 refine pure_ (i:=12) (N:=some 53) (v:=?_) (a':=?_) #[true,true,true,true,true,false,false,false,true,true,true,true,true,false,false,false] rfl rfl (any_of HT_.out (by kernel_rfl)) (fun _ _ _ h => h) (Or.inl ⟨by rfl,?_⟩) ?_ ?_
                 rotate_left
                 ·intro w'
                  go_simp
                  with_reducible rfl
                 rotate_left
                 ·simp only [Act.put,List.setIfInBounds_toArray,List.set_cons_zero,List.set_cons_succ,i64_w,i32_w]
                  rfl
                 refine pure_ (i:=13) (N:=some 54) (v:=?_) (a':=?_) #[true,true,true,true,true,false,false,false,true,true,true,true,true,true,false,false] rfl rfl (any_of HT_.out (by kernel_rfl)) (fun _ _ _ h => h) (Or.inl ⟨by rfl,?_⟩) ?_ ?_
                 rotate_left
                 ·intro w'
                  go_simp
                  with_reducible rfl
                 rotate_left
                 ·simp only [Act.put,List.setIfInBounds_toArray,List.set_cons_zero,List.set_cons_succ,i64_w,i32_w]
                  rfl
                 refine take_ (i:=14) (N:=some 55) (v:=?_) (a':=?_) #[true,true,true,true,true,false,false,false,true,true,true,true,true,true,true,false] rfl rfl (by kernel_rfl) (fun _ _ _ h => h) (Or.inl ⟨by rfl,?_⟩) hHeld ?_ ?_
                 rotate_left
                 ·intro w' s0_
                  have hcv_:=Kd.C_string (P:=Tryd.prog) (A:=A32) (c:=(c0 - (ji16).toNat)) Tryd.underlying49 Tryd.underlying5 Tryd.underlying9 s0_
                  simp only [List.length_drop,List.length_take] at hcv_
                  try rw [Nat.min_eq_left (Int.toNat_le.mpr (of_decide_eq_true (by first|(with_reducible assumption)|assumption)))] at hcv_
                  go_simp
                  with_reducible rfl
                 rotate_left
                 ·simp only [Act.put,List.setIfInBounds_toArray,List.set_cons_zero,List.set_cons_succ,i64_w,i32_w]
                  rfl
                 refine one_ (i:=5) (N:=some 46) #[true,true,true,true,true,true,false,false,true,true,true,true,true,true,true,false] rfl rfl (one_of HT_.out (by kernel_rfl)) (by decide) (fun K hK => ?_)
                 refine goes_ Tryd.func88 (by kernel_rfl) rfl #[.slice A31 ((l0.take ((ji16) : Int).toNat).drop (a1 : Int).toNat).length (c0 - a1.toNat)] (by rfl) rfl rfl (by (try simp only [List.map_toArray,List.map_cons,List.map_nil]);first|done|(rw [show ((l0.take ((ji16) : Int).toNat).drop (a1 : Int).toNat).length = ((ji16).toNat - a1.toNat) from (by rw [List.length_drop,List.length_take];have h_ : ((ji16) : Int) ≤ (l0.length : Int):=of_decide_eq_true (by first|(with_reducible assumption)|assumption);omega)] <;> rfl)|(simp only [hji16];rfl)|rfl|(simp only [List.length_drop,List.length_take];rfl)) ?_
                 with_reducible refine (racewayref02_Sum.calls k2 _ _ ((l0.take ((ji16) : Int).toNat).drop (a1 : Int).toNat) t330 _ ?side1 ?side2 A14.out).mono ?_
                 (case side1 => repeat (first|exact (Kd.C_below HR329.out HB.out)|(with_reducible refine Kd.C_alloc ?_ _)|(with_reducible refine Kd.C_drewN ?_ _)|(with_reducible refine Kd.C_drew ?_)))
                 (case side2 => exact HC329.out)
                 rintro e w' ⟨rfl,⟨nd,rfl⟩⟩
                 refine ⟨_,rfl,?_⟩
                 refine hK.out _ _ (by repeat (first|exact (Kd.C_below HR334.out HB.out)|exact HR334.out|(with_reducible refine Kd.C_alloc ?_ _)|(with_reducible refine Kd.C_drewN ?_ _)|(with_reducible refine Kd.C_drew ?_))) (fun hHeld => ?_)
                 clear hK K
                 refine norm_ (a':=?_) ?_ ?_
                 rotate_left
                 ·show Act.put _ (some 46) _ = _
                  simp only [Act.put,List.setIfInBounds_toArray,List.set_cons_zero,List.set_cons_succ,i64_w,i32_w]
                  rfl
                 refine one_ (i:=6) (N:=some 47) #[true,true,true,true,true,true,true,false,true,true,true,true,true,true,true,false] rfl rfl (one_of HT_.out (by kernel_rfl)) (by decide) (fun K hK => ?_)
                 refine goes_ Tryd.func87 (by kernel_rfl) rfl #[.slice none 0 0,.int .u32 t330] (by rfl) rfl rfl (by (try simp only [List.map_toArray,List.map_cons,List.map_nil]);first|done|rfl|(simp only [List.length_drop,List.length_take];rfl)) ?_
                 refine (racewayref02_put.calls k2 (fun k_ => some k_ = (.slice none 0 0 : Value).ownBlock) (.slice none 0 0) ([] : List Int) t330 t331 w _ ?side1 ?side2 A15.out).mono ?_
                 (case side1 => repeat (first|(with_reducible first|exact HB.out|apply below_alloc|apply pw_below_drewN|apply below_drew1)|exact HB.out))
                 (case side2 => exact Kd.R_nil _ _ _ _ _)
                 rintro e w33 ⟨v332,rfl,ho0,hb,hkp⟩
                 refine ⟨_,rfl,?_⟩
                 have n0_:=Aside0.mk (Kd.R_mono (ok':=fun k_ => True) ho0 (fun k_ hk_ => trivial))
                 have n1_:=Aside0.mk (hb)
                 clear HB
                 have HO333:=n0_
                 have HB:=n1_
                 clear n0_ n1_
                 (try clear hb)
                 (try clear hkp)
                 (try clear ho0)
                 refine hK.out _ _ (by repeat (first|exact (Kd.C_below HR334.out HB.out)|exact HR334.out|(with_reducible refine Kd.C_alloc ?_ _)|(with_reducible refine Kd.C_drewN ?_ _)|(with_reducible refine Kd.C_drew ?_))) (fun hHeld => ?_)
                 clear hK K
                 refine norm_ (a':=?_) ?_ ?_
                 rotate_left
                 ·show Act.put _ (some 47) _ = _
                  simp only [Act.put,List.setIfInBounds_toArray,List.set_cons_zero,List.set_cons_succ,i64_w,i32_w]
                  rfl
                 refine one_ (i:=7) (N:=some 48) #[true,true,true,true,true,true,true,true,true,true,true,true,true,true,true,false] rfl rfl (one_of HT_.out (by kernel_rfl)) (by decide) (fun K hK => ?_)
                 have hcv34:=own_string (P:=Tryd.prog) Tryd.underlying49 Tryd.underlying5 Tryd.underlying9 (Kd.own_of_R HO333.out)
                 refine value_ (w1:=?_) (v:=?_) (by rfl) rfl ?_ ?_
                 rotate_left 2
                 ·go_simp
                  constructor
                  ·rfl
                  ·rfl
                 clear hcv34
                 refine hK.out _ _ (by repeat (first|exact (Kd.C_below HR334.out HB.out)|exact HR334.out|(with_reducible refine Kd.C_alloc ?_ _)|(with_reducible refine Kd.C_drewN ?_ _)|(with_reducible refine Kd.C_drew ?_))) (fun hHeld => ?_)
                 clear hK K
                 refine norm_ (a':=?_) ?_ ?_
                 rotate_left
                 ·show Act.put _ (some 48) _ = _
                  simp only [Act.put,List.setIfInBounds_toArray,List.set_cons_zero,List.set_cons_succ,i64_w,i32_w]
                  rfl
                 refine pure_ (i:=15) (N:=some 56) (v:=?_) (a':=?_) #[true,true,true,true,true,true,true,true,true,true,true,true,true,true,true,true] rfl rfl (any_of HT_.out (by kernel_rfl)) (fun _ _ _ h => h) (Or.inl ⟨by rfl,?_⟩) ?_ ?_
                 rotate_left
                 ·intro w'
                  go_simp
                  with_reducible rfl
                 rotate_left
                 ·simp only [Act.put,List.setIfInBounds_toArray,List.set_cons_zero,List.set_cons_succ,i64_w,i32_w]
                  rfl
                 refine done_ (done_of HT_.out (by kernel_rfl)) ?_
                 try go_wp2
                 go_ret3
                 exact ⟨_,by first|rfl|(simp [errW_none,errW_some] <;> rfl)|(simp only [← hji16];first|rfl|(simp [errW_none,errW_some] <;> rfl))|(simp [*,errW_none,errW_some] <;> rfl),by first|exact Kd.R_nil _ _ _ _ _|exact Kd.N_nil _ _ _ _ _|exact Kd.V_nil _ _ _ _ _|exact Kd.Q_nil _ _ _ _ _|exact Kd.S_nil _ _ _ _ _,by repeat (first|(with_reducible first|exact HB.out|apply below_alloc|apply pw_below_drewN|apply below_drew1)|exact HB.out)⟩
                ·rw [if_neg c29] at H
                 have c29b0 : decide ((wrap64 ((wrap64 ((l0.length : Int) - a1)) - 12)) < x7_2) = false:=decide_eq_false c29
                 clear c29
                 obtain ⟨y335,hy335⟩ : ∃ y_ : List Int,y_ = (([] : List Int)):=⟨_,rfl⟩
                 replace H : (if 0 ≤ (wrap64 (a1 + 12)) then (if (wrap64 (a1 + 12)) ≤ (wrap64 ((wrap64 (a1 + 12)) + x7_2)) then (if (wrap64 ((wrap64 (a1 + 12)) + x7_2)) ≤ (l0.length : Int) then (if y335.length + ((l0.take ((wrap64 ((wrap64 (a1 + 12)) + x7_2)) : Int).toNat).drop ((wrap64 (a1 + 12)) : Int).toNat).length < 140737488355328 then ((some (y335 ++ ((l0.take ((wrap64 ((wrap64 (a1 + 12)) + x7_2)) : Int).toNat).drop ((wrap64 (a1 + 12)) : Int).toNat) : List Int)).bind fun y339 => ((racewayref02_Sum.f k2 y339).bind fun t342 => ((racewayref02_put.f k2 ([] : List Int) t342).bind fun t343 => (if 0 ≤ (wrap64 (a1 + 8)) then (if (wrap64 (a1 + 8)) ≤ (wrap64 (a1 + 12)) then (if (wrap64 (a1 + 12)) ≤ (l0.length : Int) then (if (strOfNums t343).toList = (strOfNums ((l0.take ((wrap64 (a1 + 12)) : Int).toNat).drop ((wrap64 (a1 + 8)) : Int).toNat)).toList then (some (y339,wrap64 ((wrap64 (a1 + 12)) + x7_2),0)) else (some (([] : List Int),0,6))) else (none)) else (none)) else (none))))) else (none)) else (none)) else (none)) else (none)) = some (r1,r2,r3):=by first|(rw [hy335];with_reducible exact H)|(have H2_:=(Option.bind_some _ _).symm.trans H;rw [hy335];with_reducible exact H2_)|(have H2_:=(Option.bind_some _ _).symm.trans H;with_reducible exact H2_)|with_reducible exact H|(rw [hy335];exact H)|exact H
                 have Ny335:=Aside0.mk hy335
                 clear hy335
                 obtain ⟨ji37,hji37⟩ : ∃ j_ : Int,(wrap64 (a1 + 12)) = j_:=⟨_,rfl⟩
                 replace H : (if 0 ≤ (ji37) then (if (ji37) ≤ (wrap64 ((ji37) + x7_2)) then (if (wrap64 ((ji37) + x7_2)) ≤ (l0.length : Int) then (if y335.length + ((l0.take ((wrap64 ((ji37) + x7_2)) : Int).toNat).drop ((ji37) : Int).toNat).length < 140737488355328 then ((some (y335 ++ ((l0.take ((wrap64 ((ji37) + x7_2)) : Int).toNat).drop ((ji37) : Int).toNat) : List Int)).bind fun y339 => ((racewayref02_Sum.f k2 y339).bind fun t342 => ((racewayref02_put.f k2 ([] : List Int) t342).bind fun t343 => (if 0 ≤ (wrap64 (a1 + 8)) then (if (wrap64 (a1 + 8)) ≤ (ji37) then (if (ji37) ≤ (l0.length : Int) then (if (strOfNums t343).toList = (strOfNums ((l0.take ((ji37) : Int).toNat).drop ((wrap64 (a1 + 8)) : Int).toNat)).toList then (some (y339,wrap64 ((ji37) + x7_2),0)) else (some (([] : List Int),0,6))) else (none)) else (none)) else (none))))) else (none)) else (none)) else (none)) else (none)) = some (r1,r2,r3):=by first|(rw [hji37] at H;exact H)|(simp only [hji37] at H ⊢;exact H)
                 (try rw [hji37] at A14)
                 (try rw [hji37] at A15)
                 have hji37w : (IntKind.i64.wrap (a1 + 12)) = ji37:=(i64_w _).trans hji37
                 by_cases c38 : 0 ≤ (ji37)
                 ·rw [if_pos c38] at H
                  have c38b0:=eq_true c38
                  have c38b1 : decide (0 ≤ (ji37)) = true:=decide_eq_true c38
                  clear c38
                  by_cases c39 : (ji37) ≤ (wrap64 ((ji37) + x7_2))
                  ·rw [if_pos c39] at H
                   have c39b0:=eq_true c39
                   have c39b1 : decide ((ji37) ≤ (wrap64 ((ji37) + x7_2))) = true:=decide_eq_true c39
                   by_cases c40 : (wrap64 ((ji37) + x7_2)) ≤ (l0.length : Int)
                   ·rw [if_pos c40] at H
                    have c40b0:=eq_true c40
                    have c40b1 : decide ((wrap64 ((ji37) + x7_2)) ≤ (l0.length : Int)) = true:=decide_eq_true c40
                    by_cases c41 : y335.length + ((l0.take ((wrap64 ((ji37) + x7_2)) : Int).toNat).drop ((ji37) : Int).toNat).length < 140737488355328
                    ·rw [if_pos c41] at H
                     have LMc41:=Aside0.mk c41
                     clear c41
                     obtain ⟨y339,hy339⟩ : ∃ y_ : List Int,y_ = (y335 ++ ((l0.take ((wrap64 ((ji37) + x7_2)) : Int).toNat).drop ((ji37) : Int).toNat)):=⟨_,rfl⟩
                     replace H : ((racewayref02_Sum.f k2 y339).bind fun t342 => ((racewayref02_put.f k2 ([] : List Int) t342).bind fun t343 => (if 0 ≤ (wrap64 (a1 + 8)) then (if (wrap64 (a1 + 8)) ≤ (ji37) then (if (ji37) ≤ (l0.length : Int) then (if (strOfNums t343).toList = (strOfNums ((l0.take ((ji37) : Int).toNat).drop ((wrap64 (a1 + 8)) : Int).toNat)).toList then (some (y339,wrap64 ((ji37) + x7_2),0)) else (some (([] : List Int),0,6))) else (none)) else (none)) else (none)))) = some (r1,r2,r3):=by first|(rw [hy339];with_reducible exact H)|(have H2_:=(Option.bind_some _ _).symm.trans H;rw [hy339];with_reducible exact H2_)|(have H2_:=(Option.bind_some _ _).symm.trans H;with_reducible exact H2_)|with_reducible exact H|(rw [hy339];exact H)|exact H
                     have Ny339:=Aside0.mk hy339
                     clear hy339
                     replace H:=Option.bind_eq_some_iff.mp H
                     obtain ⟨t342,A420,H⟩:=H
                     replace H : ((racewayref02_put.f k2 ([] : List Int) t342).bind fun t343 => (if 0 ≤ (wrap64 (a1 + 8)) then (if (wrap64 (a1 + 8)) ≤ (ji37) then (if (ji37) ≤ (l0.length : Int) then (if (strOfNums t343).toList = (strOfNums ((l0.take ((ji37) : Int).toNat).drop ((wrap64 (a1 + 8)) : Int).toNat)).toList then (some (y339,wrap64 ((ji37) + x7_2),0)) else (some (([] : List Int),0,6))) else (none)) else (none)) else (none))) = some (r1,r2,r3):=H
                     have A42:=Aside0.mk A420
                     clear A420
                     replace H:=Option.bind_eq_some_iff.mp H
                     obtain ⟨t343,A430,H⟩:=H
                     replace H : (if 0 ≤ (wrap64 (a1 + 8)) then (if (wrap64 (a1 + 8)) ≤ (ji37) then (if (ji37) ≤ (l0.length : Int) then (if (strOfNums t343).toList = (strOfNums ((l0.take ((ji37) : Int).toNat).drop ((wrap64 (a1 + 8)) : Int).toNat)).toList then (some (y339,wrap64 ((ji37) + x7_2),0)) else (some (([] : List Int),0,6))) else (none)) else (none)) else (none)) = some (r1,r2,r3):=H
                     have A43:=Aside0.mk A430
                     clear A430
                     obtain ⟨ji44,hji44⟩ : ∃ j_ : Int,(wrap64 (a1 + 8)) = j_:=⟨_,rfl⟩
                     replace H : (if 0 ≤ (ji44) then (if (ji44) ≤ (ji37) then (if (ji37) ≤ (l0.length : Int) then (if (strOfNums t343).toList = (strOfNums ((l0.take ((ji37) : Int).toNat).drop ((ji44) : Int).toNat)).toList then (some (y339,wrap64 ((ji37) + x7_2),0)) else (some (([] : List Int),0,6))) else (none)) else (none)) else (none)) = some (r1,r2,r3):=by first|(rw [hji44] at H;exact H)|(simp only [hji44] at H ⊢;exact H)
                     (try rw [hji44] at c18b0)
                     (try rw [hji44] at c18b1)
                     (try rw [hji44] at c18)
                     (try rw [hji44] at c19b0)
                     (try rw [hji44] at c19b1)
                     (try rw [hji44] at c19)
                     (try rw [hji44] at c20b0)
                     (try rw [hji44] at c20b1)
                     (try rw [hji44] at A14)
                     (try rw [hji44] at A15)
                     (try rw [hji44] at A42)
                     (try rw [hji44] at A43)
                     have hji44w : (IntKind.i64.wrap (a1 + 8)) = ji44:=(i64_w _).trans hji44
                     by_cases c45 : 0 ≤ (ji44)
                     ·rw [if_pos c45] at H
                      have c45b0:=eq_true c45
                      have c45b1 : decide (0 ≤ (ji44)) = true:=decide_eq_true c45
                      clear c45
                      by_cases c46 : (ji44) ≤ (ji37)
                      ·rw [if_pos c46] at H
                       have c46b0:=eq_true c46
                       have c46b1 : decide ((ji44) ≤ (ji37)) = true:=decide_eq_true c46
                       clear c46
                       by_cases c47 : (ji37) ≤ (l0.length : Int)
                       ·rw [if_pos c47] at H
                        have c47b0:=eq_true c47
                        have c47b1 : decide ((ji37) ≤ (l0.length : Int)) = true:=decide_eq_true c47
                        clear c47
                        by_cases c48 : (strOfNums t343).toList = (strOfNums ((l0.take ((ji37) : Int).toNat).drop ((ji44) : Int).toNat)).toList
                        ·rw [if_pos c48] at H
                         have c48b0 : ((strOfNums t343).toList == (strOfNums ((l0.take ((ji37) : Int).toNat).drop ((ji44) : Int).toNat)).toList) = true:=beq_iff_eq.mpr c48
                         have c48b1 : ((strOfNums t343).toList != (strOfNums ((l0.take ((ji37) : Int).toNat).drop ((ji44) : Int).toNat)).toList) = false:=bne_eq_false_iff_eq.mpr c48
                         clear c48
                         simp only [Option.some.injEq,Prod.mk.injEq] at H
                         obtain ⟨rfl,rfl,rfl⟩:=H
                         try go_wp2
                         have n0_:=Aside0.mk (below_drew1 HB.out)
                         clear HB
                         have HB:=n0_
                         clear n0_
                         obtain ⟨i050,hi050,_,hsz50,_⟩:=info_parts info5
                         obtain ⟨A50,hcut50,hA50,hC50⟩:=print_mid_of (P:=Tryd.prog) (Value.int .u8) 0 49 5 .i64 .i64 Tryd.underlying49 hi050 hsz50 A0 c0 l0 a1 (ji16) (of_decide_eq_true (by first|(with_reducible assumption)|assumption)) (by first|omega|exact of_decide_eq_true (by first|(with_reducible assumption)|assumption)) (of_decide_eq_true (by first|(with_reducible assumption)|assumption)) HC0.out
                         have HR329:=Aside0.mk (Kd.C_of_reads (h1:=fun _ => rfl) (hA50 _ (Kd.reads_of_C HR0.out)))
                         have HC329:=Aside0.mk hC50
                         clear hA50 hC50 hi050 hsz50
                         obtain ⟨i051,hi051,_,hsz51,_⟩:=info_parts info5
                         obtain ⟨A51,hcut51,hA51,hC51⟩:=print_mid_of (P:=Tryd.prog) (Value.int .u8) 0 49 5 .i64 .i64 Tryd.underlying49 hi051 hsz51 A0 c0 l0 (ji16) (ji44) (of_decide_eq_true (by first|(with_reducible assumption)|assumption)) (by first|omega|exact of_decide_eq_true (by first|(with_reducible assumption)|assumption)) (of_decide_eq_true (by first|(with_reducible assumption)|assumption)) HC0.out
                         have HR334:=Aside0.mk (Kd.C_of_reads (h1:=fun _ => rfl) (hA51 _ (Kd.reads_of_C HR0.out)))
                         have HC334:=Aside0.mk hC51
                         clear hA51 hC51 hi051 hsz51
                         refine start_ (n:=16) (S:=fun w' => Kd.C (Kd.int .u8) w' A51 _ _) (ds:=[]) #[false,false,false,false,false,false,false,false,false,false,false,false,false,false,false,false] (by kernel_rfl) rfl rfl (by repeat (first|exact (Kd.C_below HR334.out HB.out)|exact HR334.out|(with_reducible refine Kd.C_alloc ?_ _)|(with_reducible refine Kd.C_drewN ?_ _)|(with_reducible refine Kd.C_drew ?_))) (fun hHeld => ?_);refine with_tabW racewayref02_Next.tab12 racewayref02_Next.bits12 (fun HT_ HW_ => ?_)
                         generalize wr.drew = w49 at HB HR329 HR334 hHeld ⊢
                         refine pure_ (i:=0) (N:=some 41) (v:=?_) (a':=?_) #[true,false,false,false,false,false,false,false,false,false,false,false,false,false,false,false] rfl rfl (any_of HT_.out (by kernel_rfl)) (fun _ _ _ h => h) (Or.inl ⟨by rfl,?_⟩) ?_ ?_
                         rotate_left
                         ·intro w'
                          go_simp
                          with_reducible rfl
                         rotate_left
                         ·simp only [Act.put,List.setIfInBounds_toArray,List.set_cons_zero,List.set_cons_succ,i64_w,i32_w]
                          rfl
                         refine pure_ (i:=1) (N:=some 42) (v:=?_) (a':=?_) #[true,true,false,false,false,false,false,false,false,false,false,false,false,false,false,false] rfl rfl (any_of HT_.out (by kernel_rfl)) (fun _ _ _ h => h) (Or.inl ⟨by rfl,?_⟩) ?_ ?_
                         rotate_left
                         ·intro w'
                          go_simp
                          with_reducible rfl
                         rotate_left
                         ·simp only [Act.put,List.setIfInBounds_toArray,List.set_cons_zero,List.set_cons_succ,i64_w,i32_w]
                          rfl
                         refine pure_ (i:=2) (N:=some 43) (v:=?_) (a':=?_) #[true,true,true,false,false,false,false,false,false,false,false,false,false,false,false,false] rfl rfl (any_of HT_.out (by kernel_rfl)) (fun _ _ _ h => h) (Or.inl ⟨by rfl,?_⟩) ?_ ?_
                         rotate_left
                         ·intro w'
                          go_simp
                          with_reducible rfl
                         rotate_left
                         ·simp only [Act.put,List.setIfInBounds_toArray,List.set_cons_zero,List.set_cons_succ,i64_w,i32_w]
                          rfl
                         refine pure_ (i:=3) (N:=some 44) (v:=?_) (a':=?_) #[true,true,true,true,false,false,false,false,false,false,false,false,false,false,false,false] rfl rfl (any_of HT_.out (by kernel_rfl)) (fun _ _ _ h => h) (Or.inl ⟨by rfl,?_⟩) ?_ ?_
                         rotate_left
                         ·intro w'
                          go_simp
                          with_reducible rfl
                         rotate_left
                         ·simp only [Act.put,List.setIfInBounds_toArray,List.set_cons_zero,List.set_cons_succ,i64_w,i32_w]
                          rfl
                         refine pure_ (i:=4) (N:=some 45) (v:=?_) (a':=?_) #[true,true,true,true,true,false,false,false,false,false,false,false,false,false,false,false] rfl rfl (any_of HT_.out (by kernel_rfl)) (fun _ _ _ h => h) (Or.inl ⟨by rfl,?_⟩) ?_ ?_
                         rotate_left
                         ·intro w'
                          go_simp
                          with_reducible rfl
                         rotate_left
                         ·simp only [Act.put,List.setIfInBounds_toArray,List.set_cons_zero,List.set_cons_succ,i64_w,i32_w]
                          rfl
                         refine pure_ (i:=8) (N:=some 49) (v:=?_) (a':=?_) #[true,true,true,true,true,false,false,false,true,false,false,false,false,false,false,false] rfl rfl (any_of HT_.out (by kernel_rfl)) (fun _ _ _ h => h) (Or.inl ⟨by rfl,?_⟩) ?_ ?_
                         rotate_left
                         ·intro w'
                          go_simp
                          with_reducible rfl
                         rotate_left
                         ·simp only [Act.put,List.setIfInBounds_toArray,List.set_cons_zero,List.set_cons_succ,i64_w,i32_w]
                          rfl
                         refine pure_ (i:=9) (N:=some 50) (v:=?_) (a':=?_) #[true,true,true,true,true,false,false,false,true,true,false,false,false,false,false,false] rfl rfl (any_of HT_.out (by kernel_rfl)) (fun _ _ _ h => h) (Or.inl ⟨by rfl,?_⟩) ?_ ?_
                         rotate_left
                         ·intro w'
                          go_simp
                          with_reducible rfl
                         rotate_left
                         ·simp only [Act.put,List.setIfInBounds_toArray,List.set_cons_zero,List.set_cons_succ,i64_w,i32_w]
                          rfl
                         refine pure_ (i:=10) (N:=some 51) (v:=?_) (a':=?_) #[true,true,true,true,true,false,false,false,true,true,true,false,false,false,false,false] rfl rfl (any_of HT_.out (by kernel_rfl)) (fun _ _ _ h => h) (Or.inl ⟨by rfl,?_⟩) ?_ ?_
                         rotate_left
                         ·intro w'
                          go_simp
                          with_reducible rfl
                         rotate_left
                         ·simp only [Act.put,List.setIfInBounds_toArray,List.set_cons_zero,List.set_cons_succ,i64_w,i32_w]
                          rfl
                         refine pure_ (i:=11) (N:=some 52) (v:=?_) (a':=?_) #[true,true,true,true,true,false,false,false,true,true,true,true,false,false,false,false] rfl rfl (any_of HT_.out (by kernel_rfl)) (fun _ _ _ h => h) (Or.inl ⟨by rfl,?_⟩) ?_ ?_
                         rotate_left
                         ·intro w'
                          go_simp
                          with_reducible rfl
                         rotate_left
                         ·simp only [Act.put,List.setIfInBounds_toArray,List.set_cons_zero,List.set_cons_succ,i64_w,i32_w]
                          rfl
                         refine pure_ (i:=12) (N:=some 53) (v:=?_) (a':=?_) #[true,true,true,true,true,false,false,false,true,true,true,true,true,false,false,false] rfl rfl (any_of HT_.out (by kernel_rfl)) (fun _ _ _ h => h) (Or.inl ⟨by rfl,?_⟩) ?_ ?_
                         rotate_left
                         ·intro w'
                          go_simp
                          with_reducible rfl
                         rotate_left
                         ·simp only [Act.put,List.setIfInBounds_toArray,List.set_cons_zero,List.set_cons_succ,i64_w,i32_w]
                          rfl
                         refine pure_ (i:=13) (N:=some 54) (v:=?_) (a':=?_) #[true,true,true,true,true,false,false,false,true,true,true,true,true,true,false,false] rfl rfl (any_of HT_.out (by kernel_rfl)) (fun _ _ _ h => h) (Or.inl ⟨by rfl,?_⟩) ?_ ?_
                         rotate_left
                         ·intro w'
                          go_simp
                          with_reducible rfl
                         rotate_left
                         ·simp only [Act.put,List.setIfInBounds_toArray,List.set_cons_zero,List.set_cons_succ,i64_w,i32_w]
                          rfl
                         refine take_ (i:=14) (N:=some 55) (v:=?_) (a':=?_) #[true,true,true,true,true,false,false,false,true,true,true,true,true,true,true,false] rfl rfl (by kernel_rfl) (fun _ _ _ h => h) (Or.inl ⟨by rfl,?_⟩) hHeld ?_ ?_
                         rotate_left
                         ·intro w' s0_
                          have hcv_:=Kd.C_string (P:=Tryd.prog) (A:=A51) (c:=(c0 - (ji16).toNat)) Tryd.underlying49 Tryd.underlying5 Tryd.underlying9 s0_
                          simp only [List.length_drop,List.length_take] at hcv_
                          try rw [Nat.min_eq_left (Int.toNat_le.mpr (of_decide_eq_true (by first|(with_reducible assumption)|assumption)))] at hcv_
                          go_simp
                          with_reducible rfl
                         rotate_left
                         ·simp only [Act.put,List.setIfInBounds_toArray,List.set_cons_zero,List.set_cons_succ,i64_w,i32_w]
                          rfl
                         refine one_ (i:=5) (N:=some 46) #[true,true,true,true,true,true,false,false,true,true,true,true,true,true,true,false] rfl rfl (one_of HT_.out (by kernel_rfl)) (by decide) (fun K hK => ?_)
                         refine goes_ Tryd.func88 (by kernel_rfl) rfl #[.slice A50 ((l0.take ((ji16) : Int).toNat).drop (a1 : Int).toNat).length (c0 - a1.toNat)] (by rfl) rfl rfl (by (try simp only [List.map_toArray,List.map_cons,List.map_nil]);first|done|(rw [show ((l0.take ((ji16) : Int).toNat).drop (a1 : Int).toNat).length = ((ji16).toNat - a1.toNat) from (by rw [List.length_drop,List.length_take];have h_ : ((ji16) : Int) ≤ (l0.length : Int):=of_decide_eq_true (by first|(with_reducible assumption)|assumption);omega)] <;> rfl)|(simp only [hji16];rfl)|rfl|(simp only [List.length_drop,List.length_take];rfl)) ?_
                         with_reducible refine (racewayref02_Sum.calls k2 _ _ ((l0.take ((ji16) : Int).toNat).drop (a1 : Int).toNat) t330 _ ?side1 ?side2 A14.out).mono ?_
                         (case side1 => repeat (first|exact (Kd.C_below HR329.out HB.out)|(with_reducible refine Kd.C_alloc ?_ _)|(with_reducible refine Kd.C_drewN ?_ _)|(with_reducible refine Kd.C_drew ?_)))
                         (case side2 => exact HC329.out)
                         rintro e w' ⟨rfl,⟨nd,rfl⟩⟩
                         refine ⟨_,rfl,?_⟩
                         refine hK.out _ _ (by repeat (first|exact (Kd.C_below HR334.out HB.out)|exact HR334.out|(with_reducible refine Kd.C_alloc ?_ _)|(with_reducible refine Kd.C_drewN ?_ _)|(with_reducible refine Kd.C_drew ?_))) (fun hHeld => ?_)
                         clear hK K
                         refine norm_ (a':=?_) ?_ ?_
                         rotate_left
                         ·show Act.put _ (some 46) _ = _
                          simp only [Act.put,List.setIfInBounds_toArray,List.set_cons_zero,List.set_cons_succ,i64_w,i32_w]
                          rfl
                         refine one_ (i:=6) (N:=some 47) #[true,true,true,true,true,true,true,false,true,true,true,true,true,true,true,false] rfl rfl (one_of HT_.out (by kernel_rfl)) (by decide) (fun K hK => ?_)
                         refine goes_ Tryd.func87 (by kernel_rfl) rfl #[.slice none 0 0,.int .u32 t330] (by rfl) rfl rfl (by (try simp only [List.map_toArray,List.map_cons,List.map_nil]);first|done|rfl|(simp only [List.length_drop,List.length_take];rfl)) ?_
                         refine (racewayref02_put.calls k2 (fun k_ => some k_ = (.slice none 0 0 : Value).ownBlock) (.slice none 0 0) ([] : List Int) t330 t331 w _ ?side1 ?side2 A15.out).mono ?_
                         (case side1 => repeat (first|(with_reducible first|exact HB.out|apply below_alloc|apply pw_below_drewN|apply below_drew1)|exact HB.out))
                         (case side2 => exact Kd.R_nil _ _ _ _ _)
                         rintro e w52 ⟨v332,rfl,ho0,hb,hkp⟩
                         refine ⟨_,rfl,?_⟩
                         have n0_:=Aside0.mk (Kd.R_mono (ok':=fun k_ => True) ho0 (fun k_ hk_ => trivial))
                         have n1_:=Aside0.mk (hb)
                         clear HB
                         have HO333:=n0_
                         have HB:=n1_
                         clear n0_ n1_
                         (try clear hb)
                         (try clear hkp)
                         (try clear ho0)
                         refine hK.out _ _ (by repeat (first|exact (Kd.C_below HR334.out HB.out)|exact HR334.out|(with_reducible refine Kd.C_alloc ?_ _)|(with_reducible refine Kd.C_drewN ?_ _)|(with_reducible refine Kd.C_drew ?_))) (fun hHeld => ?_)
                         clear hK K
                         refine norm_ (a':=?_) ?_ ?_
                         rotate_left
                         ·show Act.put _ (some 47) _ = _
                          simp only [Act.put,List.setIfInBounds_toArray,List.set_cons_zero,List.set_cons_succ,i64_w,i32_w]
                          rfl
                         refine one_ (i:=7) (N:=some 48) #[true,true,true,true,true,true,true,true,true,true,true,true,true,true,true,false] rfl rfl (one_of HT_.out (by kernel_rfl)) (by decide) (fun K hK => ?_)
                         have hcv53:=own_string (P:=Tryd.prog) Tryd.underlying49 Tryd.underlying5 Tryd.underlying9 (Kd.own_of_R HO333.out)
                         refine value_ (w1:=?_) (v:=?_) (by rfl) rfl ?_ ?_
                         rotate_left 2
                         ·go_simp
                          constructor
                          ·rfl
                          ·rfl
                         clear hcv53
                         refine hK.out _ _ (by repeat (first|exact (Kd.C_below HR334.out HB.out)|exact HR334.out|(with_reducible refine Kd.C_alloc ?_ _)|(with_reducible refine Kd.C_drewN ?_ _)|(with_reducible refine Kd.C_drew ?_))) (fun hHeld => ?_)
                         clear hK K
                         refine norm_ (a':=?_) ?_ ?_
                         rotate_left
                         ·show Act.put _ (some 48) _ = _
                          simp only [Act.put,List.setIfInBounds_toArray,List.set_cons_zero,List.set_cons_succ,i64_w,i32_w]
                          rfl
                         refine pure_ (i:=15) (N:=some 56) (v:=?_) (a':=?_) #[true,true,true,true,true,true,true,true,true,true,true,true,true,true,true,true] rfl rfl (any_of HT_.out (by kernel_rfl)) (fun _ _ _ h => h) (Or.inl ⟨by rfl,?_⟩) ?_ ?_
                         rotate_left
                         ·intro w'
                          go_simp
                          with_reducible rfl
                         rotate_left
                         ·simp only [Act.put,List.setIfInBounds_toArray,List.set_cons_zero,List.set_cons_succ,i64_w,i32_w]
                          rfl
                         refine done_ (done_of HT_.out (by kernel_rfl)) ?_
                         try go_wp2_with (first|((with_reducible refine gate_dst (N:=66) rfl ?_);(try (refine gate_guard (by rfl) ?_;dsimp only));refine Kd.R_lit (Kd.int .u8) _ 5 ?hg (N:=66) ?hd (xs:=([] : List Int)) (inner:=[]) (ok:=fun _ => True) (okp:=fun _ => True) ?hr ?hp (fun _ hk => hk) trivial (Below.refl _ _) (Nat.le_refl _) (by simp) ?_;(case hd => rfl);(case hg => rfl);(case hr => first|(go_simp;done)|(go_simp;rfl));(case hp => exact (Reps.none _ _));intro v336 w56 ho57 hb hg_ hnew_;clear hg_ hnew_;(first|rw [← Ny335.out] at ho57|(simp only [Int.reduceToNat] at ho57;rw [← Ny335.out] at ho57));have n0_:=Aside0.mk (Kd.R_elder' (by (with_reducible repeat (first|apply Kd.R_alloc|apply Kd.R_drewN|apply Kd.R_drew));exact HO333.out) (Kd.R_base ho57) hb);have n1_:=Aside0.mk (Kd.R_lower (Kd.R_new' ho57 (Kd.R_lt (by (with_reducible repeat (first|apply Kd.R_alloc|apply Kd.R_drewN|apply Kd.R_drew));exact HO333.out))) (below_size (by repeat (first|(with_reducible first|exact HB.out|apply below_alloc|apply pw_below_drewN|apply below_drew1)|exact HB.out))));have n2_:=Aside0.mk (below_step (by repeat (first|(with_reducible first|exact HB.out|apply below_alloc|apply pw_below_drewN|apply below_drew1)|exact HB.out)) hb);clear HO333;clear HB;have HO333:=n0_;have HO337:=n1_;have HB:=n2_;clear n0_ n1_ n2_;clear hb ho57;obtain ⟨i058,hi058,_,hsz58,_⟩:=info_parts info5;obtain ⟨A58,hcut58,hA58,hC58⟩:=print_mid_of (P:=Tryd.prog) (Value.int .u8) 0 49 5 .i64 .i64 Tryd.underlying49 hi058 hsz58 A0 c0 l0 (ji37) (wrap64 ((ji37) + x7_2)) (of_decide_eq_true (by first|(with_reducible assumption)|assumption)) (by first|omega|exact of_decide_eq_true (by first|(with_reducible assumption)|assumption)) (of_decide_eq_true (by first|(with_reducible assumption)|assumption)) HC0.out;have HR338:=Aside0.mk (Kd.C_of_reads (h1:=fun _ => rfl) (hA58 _ (Kd.reads_of_C HR0.out)));have HC338:=Aside0.mk hC58;clear hA58 hC58 hi058 hsz58)|((with_reducible refine gate_builtin (b:=.append) (xs:=#[.tmp 66,.tmp 74]) rfl ?_);(try (refine gate_guard (by rfl) ?_;dsimp only));at_builtin;refine Kd.R_append_rows (Kd.int .u8) (w0:=w) w.heap.size rfl (.tmp 66) (.tmp 74) 49 5 (.int .u8 0) 1 rfl Tryd.underlying49 info5 rfl (by decide) (by omega) v336 y335 ((l0.take ((wrap64 ((ji37) + x7_2)) : Int).toNat).drop ((ji37) : Int).toNat) _ _ _ (fun k_ => some k_ ≠ (v332 : Value).ownBlock) (fun _ => False) rfl rfl ?aO ?aR (fun _ _ h => h) (fun _ h => h.elim) ?aF ?aB ?aS ?aL ?_;(case aR => first|(rw [← show ((l0.take ((wrap64 ((ji37) + x7_2)) : Int).toNat).drop ((ji37) : Int).toNat).length = ((wrap64 ((ji37) + x7_2)).toNat - (ji37).toNat) from (by rw [List.length_drop,List.length_take];have h_ : ((wrap64 ((ji37) + x7_2)) : Int) ≤ (l0.length : Int):=of_decide_eq_true (by first|(with_reducible assumption)|assumption);omega)];repeat (first|exact (Kd.C_below HR338.out HB.out)|(with_reducible refine Kd.C_alloc ?_ _)|(with_reducible refine Kd.C_drewN ?_ _)|(with_reducible refine Kd.C_drew ?_)))|(repeat (first|exact (Kd.C_below HR338.out HB.out)|(with_reducible refine Kd.C_alloc ?_ _)|(with_reducible refine Kd.C_drewN ?_ _)|(with_reducible refine Kd.C_drew ?_))));(case aB => exact (by repeat (first|(with_reducible first|exact HB.out|apply below_alloc|apply pw_below_drewN|apply below_drew1)|exact HB.out)));(case aF => exact (fun k_ hk => Kd.fresh' (Kd.R_lt (by (with_reducible repeat (first|apply Kd.R_alloc|apply Kd.R_drewN|apply Kd.R_drew));exact HO333.out)) k_ hk));(case aO => exact (by (with_reducible repeat (first|apply Kd.R_alloc|apply Kd.R_drewN|apply Kd.R_drew));exact Kd.R_mono HO337.out (fun _ hk => hk.2)));(case aS => exact (below_size (by repeat (first|(with_reducible first|exact HB.out|apply below_alloc|apply pw_below_drewN|apply below_drew1)|exact HB.out))));(case aL => have:=LMc41.out;have hlx_:=(show ((l0.take ((wrap64 ((ji37) + x7_2)) : Int).toNat).drop ((ji37) : Int).toNat).length = ((wrap64 ((ji37) + x7_2)).toNat - (ji37).toNat) from (by rw [List.length_drop,List.length_take];have h_ : ((wrap64 ((ji37) + x7_2)) : Int) ≤ (l0.length : Int):=of_decide_eq_true (by first|(with_reducible assumption)|assumption);omega));omega);intro v340 w59 ho hb hg hat;rw [← Ny339.out] at ho;have n0_:=Aside0.mk (Kd.R_after (ok:=(fun _ => True)) (by (with_reducible repeat (first|apply Kd.R_alloc|apply Kd.R_drewN|apply Kd.R_drew));exact HO333.out) hg hat);have n1_:=Aside0.mk (hb);have n2_:=Aside0.mk (ho);clear HO333;clear HB;clear HO337;have HO333:=n0_;have HB:=n1_;have HO341:=n2_;clear n0_ n1_ n2_;clear ho hb hg hat;obtain ⟨Ao60,co60,eo60⟩:=Kd.R_slice HO341.out;subst eo60))
                         have n0_:=Aside0.mk (Kd.R_drew HO333.out)
                         have n1_:=Aside0.mk (Kd.R_drew HO341.out)
                         have n2_:=Aside0.mk (below_drew1 HB.out)
                         clear HO333
                         clear HO341
                         clear HB
                         have HO333:=n0_
                         have HO341:=n1_
                         have HB:=n2_
                         clear n0_ n1_ n2_
                         obtain ⟨i062,hi062,_,hsz62,_⟩:=info_parts info5
                         obtain ⟨A62,hcut62,hA62,hC62⟩:=print_mid_of (P:=Tryd.prog) (Value.int .u8) 0 49 5 .i64 .i64 Tryd.underlying49 hi062 hsz62 A0 c0 l0 (ji44) (ji37) (of_decide_eq_true (by first|(with_reducible assumption)|assumption)) (by first|omega|exact of_decide_eq_true (by first|(with_reducible assumption)|assumption)) (of_decide_eq_true (by first|(with_reducible assumption)|assumption)) HC0.out
                         have HR346:=Aside0.mk (Kd.C_of_reads (h1:=fun _ => rfl) (hA62 _ (Kd.reads_of_C HR0.out)))
                         have HC346:=Aside0.mk hC62
                         clear hA62 hC62 hi062 hsz62
                         refine start_ (n:=12) (S:=fun w' => Kd.C (Kd.int .u8) w' A62 _ _) (ds:=[]) #[false,false,false,false,false,false,false,false,false,false,false,false] (by kernel_rfl) rfl rfl (by repeat (first|exact (Kd.C_below HR346.out HB.out)|exact HR346.out|(with_reducible refine Kd.C_alloc ?_ _)|(with_reducible refine Kd.C_drewN ?_ _)|(with_reducible refine Kd.C_drew ?_))) (fun hHeld => ?_);refine with_tabW racewayref02_Next.tab19 racewayref02_Next.bits19 (fun HT_ HW_ => ?_)
                         generalize w59.drew = w61 at HO333 HO341 HB HR346 hHeld ⊢
                         refine pure_ (i:=0) (N:=some 76) (v:=?_) (a':=?_) #[true,false,false,false,false,false,false,false,false,false,false,false] rfl rfl (any_of HT_.out (by kernel_rfl)) (fun _ _ _ h => h) (Or.inl ⟨by rfl,?_⟩) ?_ ?_
                         rotate_left
                         ·intro w'
                          go_simp
                          with_reducible rfl
                         rotate_left
                         ·simp only [Act.put,List.setIfInBounds_toArray,List.set_cons_zero,List.set_cons_succ,i64_w,i32_w]
                          rfl
                         refine pure_ (i:=4) (N:=some 80) (v:=?_) (a':=?_) #[true,false,false,false,true,false,false,false,false,false,false,false] rfl rfl (any_of HT_.out (by kernel_rfl)) (fun _ _ _ h => h) (Or.inl ⟨by rfl,?_⟩) ?_ ?_
                         rotate_left
                         ·intro w'
                          go_simp
                          with_reducible rfl
                         rotate_left
                         ·simp only [Act.put,List.setIfInBounds_toArray,List.set_cons_zero,List.set_cons_succ,i64_w,i32_w]
                          rfl
                         refine pure_ (i:=5) (N:=some 81) (v:=?_) (a':=?_) #[true,false,false,false,true,true,false,false,false,false,false,false] rfl rfl (any_of HT_.out (by kernel_rfl)) (fun _ _ _ h => h) (Or.inl ⟨by rfl,?_⟩) ?_ ?_
                         rotate_left
                         ·intro w'
                          go_simp
                          with_reducible rfl
                         rotate_left
                         ·simp only [Act.put,List.setIfInBounds_toArray,List.set_cons_zero,List.set_cons_succ,i64_w,i32_w]
                          rfl
                         refine pure_ (i:=6) (N:=some 82) (v:=?_) (a':=?_) #[true,false,false,false,true,true,true,false,false,false,false,false] rfl rfl (any_of HT_.out (by kernel_rfl)) (fun _ _ _ h => h) (Or.inl ⟨by rfl,?_⟩) ?_ ?_
                         rotate_left
                         ·intro w'
                          go_simp
                          with_reducible rfl
                         rotate_left
                         ·simp only [Act.put,List.setIfInBounds_toArray,List.set_cons_zero,List.set_cons_succ,i64_w,i32_w]
                          rfl
                         refine pure_ (i:=7) (N:=some 83) (v:=?_) (a':=?_) #[true,false,false,false,true,true,true,true,false,false,false,false] rfl rfl (any_of HT_.out (by kernel_rfl)) (fun _ _ _ h => h) (Or.inl ⟨by rfl,?_⟩) ?_ ?_
                         rotate_left
                         ·intro w'
                          go_simp
                          with_reducible rfl
                         rotate_left
                         ·simp only [Act.put,List.setIfInBounds_toArray,List.set_cons_zero,List.set_cons_succ,i64_w,i32_w]
                          rfl
                         refine pure_ (i:=8) (N:=some 84) (v:=?_) (a':=?_) #[true,false,false,false,true,true,true,true,true,false,false,false] rfl rfl (any_of HT_.out (by kernel_rfl)) (fun _ _ _ h => h) (Or.inl ⟨by rfl,?_⟩) ?_ ?_
                         rotate_left
                         ·intro w'
                          go_simp
                          with_reducible rfl
                         rotate_left
                         ·simp only [Act.put,List.setIfInBounds_toArray,List.set_cons_zero,List.set_cons_succ,i64_w,i32_w]
                          rfl
                         refine pure_ (i:=9) (N:=some 85) (v:=?_) (a':=?_) #[true,false,false,false,true,true,true,true,true,true,false,false] rfl rfl (any_of HT_.out (by kernel_rfl)) (fun _ _ _ h => h) (Or.inl ⟨by rfl,?_⟩) ?_ ?_
                         rotate_left
                         ·intro w'
                          go_simp
                          with_reducible rfl
                         rotate_left
                         ·simp only [Act.put,List.setIfInBounds_toArray,List.set_cons_zero,List.set_cons_succ,i64_w,i32_w]
                          rfl
                         refine take_ (i:=10) (N:=some 86) (v:=?_) (a':=?_) #[true,false,false,false,true,true,true,true,true,true,true,false] rfl rfl (by kernel_rfl) (fun _ _ _ h => h) (Or.inl ⟨by rfl,?_⟩) hHeld ?_ ?_
                         rotate_left
                         ·intro w' s0_
                          have hcv_:=Kd.C_string (P:=Tryd.prog) (A:=A62) (c:=(c0 - (ji44).toNat)) Tryd.underlying49 Tryd.underlying5 Tryd.underlying9 s0_
                          simp only [List.length_drop,List.length_take] at hcv_
                          try rw [Nat.min_eq_left (Int.toNat_le.mpr (of_decide_eq_true (by first|(with_reducible assumption)|assumption)))] at hcv_
                          go_simp
                          with_reducible rfl
                         rotate_left
                         ·simp only [Act.put,List.setIfInBounds_toArray,List.set_cons_zero,List.set_cons_succ,i64_w,i32_w]
                          rfl
                         refine one_ (i:=1) (N:=some 77) #[true,true,false,false,true,true,true,true,true,true,true,false] rfl rfl (one_of HT_.out (by kernel_rfl)) (by decide) (fun K hK => ?_)
                         refine goes_ Tryd.func88 (by kernel_rfl) rfl #[.slice Ao60 y339.length co60] (by rfl) rfl rfl (by (try simp only [List.map_toArray,List.map_cons,List.map_nil]);first|done|rfl|(simp only [List.length_drop,List.length_take];rfl)) ?_
                         with_reducible refine (racewayref02_Sum.calls k2 _ _ y339 t342 _ ?side1 ?side2 A42.out).mono ?_
                         (case side1 => repeat (first|exact (Kd.R_reads' HO341.out).2.2|(with_reducible refine Kd.C_alloc ?_ _)|(with_reducible refine Kd.C_drewN ?_ _)|(with_reducible refine Kd.C_drew ?_)))
                         (case side2 => exact (Kd.R_reads' HO341.out).2.1)
                         rintro e w' ⟨rfl,⟨nd,rfl⟩⟩
                         refine ⟨_,rfl,?_⟩
                         refine hK.out _ _ (by repeat (first|exact (Kd.C_below HR346.out HB.out)|exact HR346.out|(with_reducible refine Kd.C_alloc ?_ _)|(with_reducible refine Kd.C_drewN ?_ _)|(with_reducible refine Kd.C_drew ?_))) (fun hHeld => ?_)
                         clear hK K
                         refine norm_ (a':=?_) ?_ ?_
                         rotate_left
                         ·show Act.put _ (some 77) _ = _
                          simp only [Act.put,List.setIfInBounds_toArray,List.set_cons_zero,List.set_cons_succ,i64_w,i32_w]
                          rfl
                         refine one_ (i:=2) (N:=some 78) #[true,true,true,false,true,true,true,true,true,true,true,false] rfl rfl (one_of HT_.out (by kernel_rfl)) (by decide) (fun K hK => ?_)
                         refine goes_ Tryd.func87 (by kernel_rfl) rfl #[.slice none 0 0,.int .u32 t342] (by rfl) rfl rfl (by (try simp only [List.map_toArray,List.map_cons,List.map_nil]);first|done|rfl|(simp only [List.length_drop,List.length_take];rfl)) ?_
                         refine (racewayref02_put.calls k2 (fun k_ => some k_ = (.slice none 0 0 : Value).ownBlock) (.slice none 0 0) ([] : List Int) t342 t343 w _ ?side1 ?side2 A43.out).mono ?_
                         (case side1 => repeat (first|(with_reducible first|exact HB.out|apply below_alloc|apply pw_below_drewN|apply below_drew1)|exact HB.out))
                         (case side2 => exact Kd.R_nil _ _ _ _ _)
                         rintro e w63 ⟨v344,rfl,ho0,hb,hkp⟩
                         refine ⟨_,rfl,?_⟩
                         have n0_:=Aside0.mk (Kd.R_mono (ok':=fun k_ => some k_ ≠ (.slice Ao60 y339.length co60 : Value).ownBlock ∧ some k_ ≠ (v344 : Value).ownBlock) (Kd.R_keptB (HO333.out) hkp (fun k_ hk_ hs_ => (fun e_ => by simp [Value.ownBlock] at e_) hs_)) (fun k_ hk_ => ⟨hk_.1.2,fun e_ => Or.elim (ho0.1 k_ e_.symm) (fun hs_ => hk_.2.1 hs_) (fun hn_ => Nat.not_le.2 hk_.2.2 hn_)⟩))
                         have n1_:=Aside0.mk (Kd.R_mono (ok':=fun k_ => some k_ ≠ (v332 : Value).ownBlock ∧ some k_ ≠ (v344 : Value).ownBlock) (Kd.R_keptB (HO341.out) hkp (fun k_ hk_ hs_ => (fun e_ => by simp [Value.ownBlock] at e_) hs_)) (fun k_ hk_ => ⟨hk_.1,fun e_ => Or.elim (ho0.1 k_ e_.symm) (fun hs_ => hk_.2.1 hs_) (fun hn_ => Nat.not_le.2 hk_.2.2 hn_)⟩))
                         have n2_:=Aside0.mk (Kd.R_mono (ok':=fun k_ => some k_ ≠ (v332 : Value).ownBlock ∧ some k_ ≠ (.slice Ao60 y339.length co60 : Value).ownBlock) ho0 (fun k_ hk_ => ⟨Or.elim hk_ (fun hs_ => absurd hs_ (by simp [Value.ownBlock])) (fun hn_ => (Kd.fresh' (Kd.R_lt (by (with_reducible repeat (first|apply Kd.R_alloc|apply Kd.R_drewN|apply Kd.R_drew));exact HO333.out)) k_ hn_)),Or.elim hk_ (fun hs_ => absurd hs_ (by simp [Value.ownBlock])) (fun hn_ => (Kd.fresh' (Kd.R_lt (by (with_reducible repeat (first|apply Kd.R_alloc|apply Kd.R_drewN|apply Kd.R_drew));exact HO341.out)) k_ hn_))⟩))
                         have n3_:=Aside0.mk (hb)
                         clear HO333
                         clear HO341
                         clear HB
                         have HO333:=n0_
                         have HO341:=n1_
                         have HO345:=n2_
                         have HB:=n3_
                         clear n0_ n1_ n2_ n3_
                         (try clear hb)
                         (try clear hkp)
                         (try clear ho0)
                         refine hK.out _ _ (by repeat (first|exact (Kd.C_below HR346.out HB.out)|exact HR346.out|(with_reducible refine Kd.C_alloc ?_ _)|(with_reducible refine Kd.C_drewN ?_ _)|(with_reducible refine Kd.C_drew ?_))) (fun hHeld => ?_)
                         clear hK K
                         refine norm_ (a':=?_) ?_ ?_
                         rotate_left
                         ·show Act.put _ (some 78) _ = _
                          simp only [Act.put,List.setIfInBounds_toArray,List.set_cons_zero,List.set_cons_succ,i64_w,i32_w]
                          rfl
                         refine one_ (i:=3) (N:=some 79) #[true,true,true,true,true,true,true,true,true,true,true,false] rfl rfl (one_of HT_.out (by kernel_rfl)) (by decide) (fun K hK => ?_)
                         have hcv64:=own_string (P:=Tryd.prog) Tryd.underlying49 Tryd.underlying5 Tryd.underlying9 (Kd.own_of_R HO345.out)
                         refine value_ (w1:=?_) (v:=?_) (by rfl) rfl ?_ ?_
                         rotate_left 2
                         ·go_simp
                          constructor
                          ·rfl
                          ·rfl
                         clear hcv64
                         refine hK.out _ _ (by repeat (first|exact (Kd.C_below HR346.out HB.out)|exact HR346.out|(with_reducible refine Kd.C_alloc ?_ _)|(with_reducible refine Kd.C_drewN ?_ _)|(with_reducible refine Kd.C_drew ?_))) (fun hHeld => ?_)
                         clear hK K
                         refine norm_ (a':=?_) ?_ ?_
                         rotate_left
                         ·show Act.put _ (some 79) _ = _
                          simp only [Act.put,List.setIfInBounds_toArray,List.set_cons_zero,List.set_cons_succ,i64_w,i32_w]
                          rfl
                         refine pure_ (i:=11) (N:=some 87) (v:=?_) (a':=?_) #[true,true,true,true,true,true,true,true,true,true,true,true] rfl rfl (any_of HT_.out (by kernel_rfl)) (fun _ _ _ h => h) (Or.inl ⟨by rfl,?_⟩) ?_ ?_
                         rotate_left
                         ·intro w'
                          go_simp
                          with_reducible rfl
                         rotate_left
                         ·simp only [Act.put,List.setIfInBounds_toArray,List.set_cons_zero,List.set_cons_succ,i64_w,i32_w]
                          rfl
                         refine done_ (done_of HT_.out (by kernel_rfl)) ?_
                         try go_wp2
                         go_ret3
                         exact ⟨_,by first|rfl|(simp [errW_none,errW_some] <;> rfl)|(simp only [← hji16,← hji37,← hji44];first|rfl|(simp [errW_none,errW_some] <;> rfl))|(simp [*,errW_none,errW_some] <;> rfl),by (with_reducible repeat (first|apply Kd.R_alloc|apply Kd.R_drewN|apply Kd.R_drew));exact Kd.R_mono HO341.out (fun _ hk => trivial),by repeat (first|(with_reducible first|exact HB.out|apply below_alloc|apply pw_below_drewN|apply below_drew1)|exact HB.out)⟩
                        ·rw [if_neg c48] at H
                         have c48b0 : ((strOfNums t343).toList == (strOfNums ((l0.take ((ji37) : Int).toNat).drop ((ji44) : Int).toNat)).toList) = false:=beq_eq_false_iff_ne.mpr c48
                         have c48b1 : ((strOfNums t343).toList != (strOfNums ((l0.take ((ji37) : Int).toNat).drop ((ji44) : Int).toNat)).toList) = true:=bne_iff_ne.mpr c48
                         simp only [Option.some.injEq,Prod.mk.injEq] at H
                         obtain ⟨rfl,rfl,rfl⟩:=H
                         try go_wp2
                         have n0_:=Aside0.mk (below_drew1 HB.out)
                         clear HB
                         have HB:=n0_
                         clear n0_
                         obtain ⟨i068,hi068,_,hsz68,_⟩:=info_parts info5
                         obtain ⟨A68,hcut68,hA68,hC68⟩:=print_mid_of (P:=Tryd.prog) (Value.int .u8) 0 49 5 .i64 .i64 Tryd.underlying49 hi068 hsz68 A0 c0 l0 a1 (ji16) (of_decide_eq_true (by first|(with_reducible assumption)|assumption)) (by first|omega|exact of_decide_eq_true (by first|(with_reducible assumption)|assumption)) (of_decide_eq_true (by first|(with_reducible assumption)|assumption)) HC0.out
                         have HR329:=Aside0.mk (Kd.C_of_reads (h1:=fun _ => rfl) (hA68 _ (Kd.reads_of_C HR0.out)))
                         have HC329:=Aside0.mk hC68
                         clear hA68 hC68 hi068 hsz68
                         obtain ⟨i069,hi069,_,hsz69,_⟩:=info_parts info5
                         obtain ⟨A69,hcut69,hA69,hC69⟩:=print_mid_of (P:=Tryd.prog) (Value.int .u8) 0 49 5 .i64 .i64 Tryd.underlying49 hi069 hsz69 A0 c0 l0 (ji16) (ji44) (of_decide_eq_true (by first|(with_reducible assumption)|assumption)) (by first|omega|exact of_decide_eq_true (by first|(with_reducible assumption)|assumption)) (of_decide_eq_true (by first|(with_reducible assumption)|assumption)) HC0.out
                         have HR334:=Aside0.mk (Kd.C_of_reads (h1:=fun _ => rfl) (hA69 _ (Kd.reads_of_C HR0.out)))
                         have HC334:=Aside0.mk hC69
                         clear hA69 hC69 hi069 hsz69
                         refine start_ (n:=16) (S:=fun w' => Kd.C (Kd.int .u8) w' A69 _ _) (ds:=[]) #[false,false,false,false,false,false,false,false,false,false,false,false,false,false,false,false] (by kernel_rfl) rfl rfl (by repeat (first|exact (Kd.C_below HR334.out HB.out)|exact HR334.out|(with_reducible refine Kd.C_alloc ?_ _)|(with_reducible refine Kd.C_drewN ?_ _)|(with_reducible refine Kd.C_drew ?_))) (fun hHeld => ?_);refine with_tabW racewayref02_Next.tab12 racewayref02_Next.bits12 (fun HT_ HW_ => ?_)
                         generalize wr.drew = w67 at HB HR329 HR334 hHeld ⊢
                         refine pure_ (i:=0) (N:=some 41) (v:=?_) (a':=?_) #[true,false,false,false,false,false,false,false,false,false,false,false,false,false,false,false] rfl rfl (any_of HT_.out (by kernel_rfl)) (fun _ _ _ h => h) (Or.inl ⟨by rfl,?_⟩) ?_ ?_
                         rotate_left
                         ·intro w'
                          go_simp
                          with_reducible rfl
                         rotate_left
                         ·simp only [Act.put,List.setIfInBounds_toArray,List.set_cons_zero,List.set_cons_succ,i64_w,i32_w]
                          rfl
                         refine pure_ (i:=1) (N:=some 42) (v:=?_) (a':=?_) #[true,true,false,false,false,false,false,false,false,false,false,false,false,false,false,false] rfl rfl (any_of HT_.out (by kernel_rfl)) (fun _ _ _ h => h) (Or.inl ⟨by rfl,?_⟩) ?_ ?_
                         rotate_left
                         ·intro w'
                          go_simp
                          with_reducible rfl
                         rotate_left
                         ·simp only [Act.put,List.setIfInBounds_toArray,List.set_cons_zero,List.set_cons_succ,i64_w,i32_w]
                          rfl
                         refine pure_ (i:=2) (N:=some 43) (v:=?_) (a':=?_) #[true,true,true,false,false,false,false,false,false,false,false,false,false,false,false,false] rfl rfl (any_of HT_.out (by kernel_rfl)) (fun _ _ _ h => h) (Or.inl ⟨by rfl,?_⟩) ?_ ?_
                         rotate_left
                         ·intro w'
                          go_simp
                          with_reducible rfl
                         rotate_left
                         ·simp only [Act.put,List.setIfInBounds_toArray,List.set_cons_zero,List.set_cons_succ,i64_w,i32_w]
                          rfl
                         refine pure_ (i:=3) (N:=some 44) (v:=?_) (a':=?_) #[true,true,true,true,false,false,false,false,false,false,false,false,false,false,false,false] rfl rfl (any_of HT_.out (by kernel_rfl)) (fun _ _ _ h => h) (Or.inl ⟨by rfl,?_⟩) ?_ ?_
                         rotate_left
                         ·intro w'
                          go_simp
                          with_reducible rfl
                         rotate_left
                         ·simp only [Act.put,List.setIfInBounds_toArray,List.set_cons_zero,List.set_cons_succ,i64_w,i32_w]
                          rfl
                         refine pure_ (i:=4) (N:=some 45) (v:=?_) (a':=?_) #[true,true,true,true,true,false,false,false,false,false,false,false,false,false,false,false] rfl rfl (any_of HT_.out (by kernel_rfl)) (fun _ _ _ h => h) (Or.inl ⟨by rfl,?_⟩) ?_ ?_
                         rotate_left
                         ·intro w'
                          go_simp
                          with_reducible rfl
                         rotate_left
                         ·simp only [Act.put,List.setIfInBounds_toArray,List.set_cons_zero,List.set_cons_succ,i64_w,i32_w]
                          rfl
                         refine pure_ (i:=8) (N:=some 49) (v:=?_) (a':=?_) #[true,true,true,true,true,false,false,false,true,false,false,false,false,false,false,false] rfl rfl (any_of HT_.out (by kernel_rfl)) (fun _ _ _ h => h) (Or.inl ⟨by rfl,?_⟩) ?_ ?_
                         rotate_left
                         ·intro w'
                          go_simp
                          with_reducible rfl
                         rotate_left
                         ·simp only [Act.put,List.setIfInBounds_toArray,List.set_cons_zero,List.set_cons_succ,i64_w,i32_w]
                          rfl
                         refine pure_ (i:=9) (N:=some 50) (v:=?_) (a':=?_) #[true,true,true,true,true,false,false,false,true,true,false,false,false,false,false,false] rfl rfl (any_of HT_.out (by kernel_rfl)) (fun _ _ _ h => h) (Or.inl ⟨by rfl,?_⟩) ?_ ?_
                         rotate_left
                         ·intro w'
                          go_simp
                          with_reducible rfl
                         rotate_left
                         ·simp only [Act.put,List.setIfInBounds_toArray,List.set_cons_zero,List.set_cons_succ,i64_w,i32_w]
                          rfl
                         refine pure_ (i:=10) (N:=some 51) (v:=?_) (a':=?_) #[true,true,true,true,true,false,false,false,true,true,true,false,false,false,false,false] rfl rfl (any_of HT_.out (by kernel_rfl)) (fun _ _ _ h => h) (Or.inl ⟨by rfl,?_⟩) ?_ ?_
                         rotate_left
                         ·intro w'
                          go_simp
                          with_reducible rfl
                         rotate_left
                         ·simp only [Act.put,List.setIfInBounds_toArray,List.set_cons_zero,List.set_cons_succ,i64_w,i32_w]
                          rfl
                         refine pure_ (i:=11) (N:=some 52) (v:=?_) (a':=?_) #[true,true,true,true,true,false,false,false,true,true,true,true,false,false,false,false] rfl rfl (any_of HT_.out (by kernel_rfl)) (fun _ _ _ h => h) (Or.inl ⟨by rfl,?_⟩) ?_ ?_
                         rotate_left
                         ·intro w'
                          go_simp
                          with_reducible rfl
                         rotate_left
                         ·simp only [Act.put,List.setIfInBounds_toArray,List.set_cons_zero,List.set_cons_succ,i64_w,i32_w]
                          rfl
                         refine pure_ (i:=12) (N:=some 53) (v:=?_) (a':=?_) #[true,true,true,true,true,false,false,false,true,true,true,true,true,false,false,false] rfl rfl (any_of HT_.out (by kernel_rfl)) (fun _ _ _ h => h) (Or.inl ⟨by rfl,?_⟩) ?_ ?_
                         rotate_left
                         ·intro w'
                          go_simp
                          with_reducible rfl
                         rotate_left
                         ·simp only [Act.put,List.setIfInBounds_toArray,List.set_cons_zero,List.set_cons_succ,i64_w,i32_w]
                          rfl
                         refine pure_ (i:=13) (N:=some 54) (v:=?_) (a':=?_) #[true,true,true,true,true,false,false,false,true,true,true,true,true,true,false,false] rfl rfl (any_of HT_.out (by kernel_rfl)) (fun _ _ _ h => h) (Or.inl ⟨by rfl,?_⟩) ?_ ?_
                         rotate_left
                         ·intro w'
                          go_simp
                          with_reducible rfl
                         rotate_left
                         ·simp only [Act.put,List.setIfInBounds_toArray,List.set_cons_zero,List.set_cons_succ,i64_w,i32_w]
                          rfl
                         refine take_ (i:=14) (N:=some 55) (v:=?_) (a':=?_) #[true,true,true,true,true,false,false,false,true,true,true,true,true,true,true,false] rfl rfl (by kernel_rfl) (fun _ _ _ h => h) (Or.inl ⟨by rfl,?_⟩) hHeld ?_ ?_
                         rotate_left
                         ·intro w' s0_
                          have hcv_:=Kd.C_string (P:=Tryd.prog) (A:=A69) (c:=(c0 - (ji16).toNat)) Tryd.underlying49 Tryd.underlying5 Tryd.underlying9 s0_
                          simp only [List.length_drop,List.length_take] at hcv_
                          try rw [Nat.min_eq_left (Int.toNat_le.mpr (of_decide_eq_true (by first|(with_reducible assumption)|assumption)))] at hcv_
                          go_simp
                          with_reducible rfl
                         rotate_left
                         ·simp only [Act.put,List.setIfInBounds_toArray,List.set_cons_zero,List.set_cons_succ,i64_w,i32_w]
                          rfl
                         refine one_ (i:=5) (N:=some 46) #[true,true,true,true,true,true,false,false,true,true,true,true,true,true,true,false] rfl rfl (one_of HT_.out (by kernel_rfl)) (by decide) (fun K hK => ?_)
                         refine goes_ Tryd.func88 (by kernel_rfl) rfl #[.slice A68 ((l0.take ((ji16) : Int).toNat).drop (a1 : Int).toNat).length (c0 - a1.toNat)] (by rfl) rfl rfl (by (try simp only [List.map_toArray,List.map_cons,List.map_nil]);first|done|(rw [show ((l0.take ((ji16) : Int).toNat).drop (a1 : Int).toNat).length = ((ji16).toNat - a1.toNat) from (by rw [List.length_drop,List.length_take];have h_ : ((ji16) : Int) ≤ (l0.length : Int):=of_decide_eq_true (by first|(with_reducible assumption)|assumption);omega)] <;> rfl)|(simp only [hji16];rfl)|rfl|(simp only [List.length_drop,List.length_take];rfl)) ?_
                         with_reducible refine (racewayref02_Sum.calls k2 _ _ ((l0.take ((ji16) : Int).toNat).drop (a1 : Int).toNat) t330 _ ?side1 ?side2 A14.out).mono ?_
                         (case side1 => repeat (first|exact (Kd.C_below HR329.out HB.out)|(with_reducible refine Kd.C_alloc ?_ _)|(with_reducible refine Kd.C_drewN ?_ _)|(with_reducible refine Kd.C_drew ?_)))
                         (case side2 => exact HC329.out)
                         rintro e w' ⟨rfl,⟨nd,rfl⟩⟩
                         refine ⟨_,rfl,?_⟩
                         refine hK.out _ _ (by repeat (first|exact (Kd.C_below HR334.out HB.out)|exact HR334.out|(with_reducible refine Kd.C_alloc ?_ _)|(with_reducible refine Kd.C_drewN ?_ _)|(with_reducible refine Kd.C_drew ?_))) (fun hHeld => ?_)
                         clear hK K
                         refine norm_ (a':=?_) ?_ ?_
                         rotate_left
                         ·show Act.put _ (some 46) _ = _
                          simp only [Act.put,List.setIfInBounds_toArray,List.set_cons_zero,List.set_cons_succ,i64_w,i32_w]
                          rfl
                         refine one_ (i:=6) (N:=some 47) #[true,true,true,true,true,true,true,false,true,true,true,true,true,true,true,false] rfl rfl (one_of HT_.out (by kernel_rfl)) (by decide) (fun K hK => ?_)
                         refine goes_ Tryd.func87 (by kernel_rfl) rfl #[.slice none 0 0,.int .u32 t330] (by rfl) rfl rfl (by (try simp only [List.map_toArray,List.map_cons,List.map_nil]);first|done|rfl|(simp only [List.length_drop,List.length_take];rfl)) ?_
                         refine (racewayref02_put.calls k2 (fun k_ => some k_ = (.slice none 0 0 : Value).ownBlock) (.slice none 0 0) ([] : List Int) t330 t331 w _ ?side1 ?side2 A15.out).mono ?_
                         (case side1 => repeat (first|(with_reducible first|exact HB.out|apply below_alloc|apply pw_below_drewN|apply below_drew1)|exact HB.out))
                         (case side2 => exact Kd.R_nil _ _ _ _ _)
                         rintro e w70 ⟨v332,rfl,ho0,hb,hkp⟩
                         refine ⟨_,rfl,?_⟩
                         have n0_:=Aside0.mk (Kd.R_mono (ok':=fun k_ => True) ho0 (fun k_ hk_ => trivial))
                         have n1_:=Aside0.mk (hb)
                         clear HB
                         have HO333:=n0_
                         have HB:=n1_
                         clear n0_ n1_
                         (try clear hb)
                         (try clear hkp)
                         (try clear ho0)
                         refine hK.out _ _ (by repeat (first|exact (Kd.C_below HR334.out HB.out)|exact HR334.out|(with_reducible refine Kd.C_alloc ?_ _)|(with_reducible refine Kd.C_drewN ?_ _)|(with_reducible refine Kd.C_drew ?_))) (fun hHeld => ?_)
                         clear hK K
                         refine norm_ (a':=?_) ?_ ?_
                         rotate_left
                         ·show Act.put _ (some 47) _ = _
                          simp only [Act.put,List.setIfInBounds_toArray,List.set_cons_zero,List.set_cons_succ,i64_w,i32_w]
                          rfl
                         refine one_ (i:=7) (N:=some 48) #[true,true,true,true,true,true,true,true,true,true,true,true,true,true,true,false] rfl rfl (one_of HT_.out (by kernel_rfl)) (by decide) (fun K hK => ?_)
                         have hcv71:=own_string (P:=Tryd.prog) Tryd.underlying49 Tryd.underlying5 Tryd.underlying9 (Kd.own_of_R HO333.out)
                         refine value_ (w1:=?_) (v:=?_) (by rfl) rfl ?_ ?_
                         rotate_left 2
                         ·go_simp
                          constructor
                          ·rfl
                          ·rfl
                         clear hcv71
                         refine hK.out _ _ (by repeat (first|exact (Kd.C_below HR334.out HB.out)|exact HR334.out|(with_reducible refine Kd.C_alloc ?_ _)|(with_reducible refine Kd.C_drewN ?_ _)|(with_reducible refine Kd.C_drew ?_))) (fun hHeld => ?_)
                         clear hK K
                         refine norm_ (a':=?_) ?_ ?_
                         rotate_left
                         ·show Act.put _ (some 48) _ = _
                          simp only [Act.put,List.setIfInBounds_toArray,List.set_cons_zero,List.set_cons_succ,i64_w,i32_w]
                          rfl
                         refine pure_ (i:=15) (N:=some 56) (v:=?_) (a':=?_) #[true,true,true,true,true,true,true,true,true,true,true,true,true,true,true,true] rfl rfl (any_of HT_.out (by kernel_rfl)) (fun _ _ _ h => h) (Or.inl ⟨by rfl,?_⟩) ?_ ?_
                         rotate_left
                         ·intro w'
                          go_simp
                          with_reducible rfl
                         rotate_left
                         ·simp only [Act.put,List.setIfInBounds_toArray,List.set_cons_zero,List.set_cons_succ,i64_w,i32_w]
                          rfl
                         refine done_ (done_of HT_.out (by kernel_rfl)) ?_
                         try go_wp2_with (first|((with_reducible refine gate_dst (N:=66) rfl ?_);(try (refine gate_guard (by rfl) ?_;dsimp only));refine Kd.R_lit (Kd.int .u8) _ 5 ?hg (N:=66) ?hd (xs:=([] : List Int)) (inner:=[]) (ok:=fun _ => True) (okp:=fun _ => True) ?hr ?hp (fun _ hk => hk) trivial (Below.refl _ _) (Nat.le_refl _) (by simp) ?_;(case hd => rfl);(case hg => rfl);(case hr => first|(go_simp;done)|(go_simp;rfl));(case hp => exact (Reps.none _ _));intro v336 w74 ho75 hb hg_ hnew_;clear hg_ hnew_;(first|rw [← Ny335.out] at ho75|(simp only [Int.reduceToNat] at ho75;rw [← Ny335.out] at ho75));have n0_:=Aside0.mk (Kd.R_elder' (by (with_reducible repeat (first|apply Kd.R_alloc|apply Kd.R_drewN|apply Kd.R_drew));exact HO333.out) (Kd.R_base ho75) hb);have n1_:=Aside0.mk (Kd.R_lower (Kd.R_new' ho75 (Kd.R_lt (by (with_reducible repeat (first|apply Kd.R_alloc|apply Kd.R_drewN|apply Kd.R_drew));exact HO333.out))) (below_size (by repeat (first|(with_reducible first|exact HB.out|apply below_alloc|apply pw_below_drewN|apply below_drew1)|exact HB.out))));have n2_:=Aside0.mk (below_step (by repeat (first|(with_reducible first|exact HB.out|apply below_alloc|apply pw_below_drewN|apply below_drew1)|exact HB.out)) hb);clear HO333;clear HB;have HO333:=n0_;have HO337:=n1_;have HB:=n2_;clear n0_ n1_ n2_;clear hb ho75;obtain ⟨i076,hi076,_,hsz76,_⟩:=info_parts info5;obtain ⟨A76,hcut76,hA76,hC76⟩:=print_mid_of (P:=Tryd.prog) (Value.int .u8) 0 49 5 .i64 .i64 Tryd.underlying49 hi076 hsz76 A0 c0 l0 (ji37) (wrap64 ((ji37) + x7_2)) (of_decide_eq_true (by first|(with_reducible assumption)|assumption)) (by first|omega|exact of_decide_eq_true (by first|(with_reducible assumption)|assumption)) (of_decide_eq_true (by first|(with_reducible assumption)|assumption)) HC0.out;have HR338:=Aside0.mk (Kd.C_of_reads (h1:=fun _ => rfl) (hA76 _ (Kd.reads_of_C HR0.out)));have HC338:=Aside0.mk hC76;clear hA76 hC76 hi076 hsz76)|((with_reducible refine gate_builtin (b:=.append) (xs:=#[.tmp 66,.tmp 74]) rfl ?_);(try (refine gate_guard (by rfl) ?_;dsimp only));at_builtin;refine Kd.R_append_rows (Kd.int .u8) (w0:=w) w.heap.size rfl (.tmp 66) (.tmp 74) 49 5 (.int .u8 0) 1 rfl Tryd.underlying49 info5 rfl (by decide) (by omega) v336 y335 ((l0.take ((wrap64 ((ji37) + x7_2)) : Int).toNat).drop ((ji37) : Int).toNat) _ _ _ (fun k_ => some k_ ≠ (v332 : Value).ownBlock) (fun _ => False) rfl rfl ?aO ?aR (fun _ _ h => h) (fun _ h => h.elim) ?aF ?aB ?aS ?aL ?_;(case aR => first|(rw [← show ((l0.take ((wrap64 ((ji37) + x7_2)) : Int).toNat).drop ((ji37) : Int).toNat).length = ((wrap64 ((ji37) + x7_2)).toNat - (ji37).toNat) from (by rw [List.length_drop,List.length_take];have h_ : ((wrap64 ((ji37) + x7_2)) : Int) ≤ (l0.length : Int):=of_decide_eq_true (by first|(with_reducible assumption)|assumption);omega)];repeat (first|exact (Kd.C_below HR338.out HB.out)|(with_reducible refine Kd.C_alloc ?_ _)|(with_reducible refine Kd.C_drewN ?_ _)|(with_reducible refine Kd.C_drew ?_)))|(repeat (first|exact (Kd.C_below HR338.out HB.out)|(with_reducible refine Kd.C_alloc ?_ _)|(with_reducible refine Kd.C_drewN ?_ _)|(with_reducible refine Kd.C_drew ?_))));(case aB => exact (by repeat (first|(with_reducible first|exact HB.out|apply below_alloc|apply pw_below_drewN|apply below_drew1)|exact HB.out)));(case aF => exact (fun k_ hk => Kd.fresh' (Kd.R_lt (by (with_reducible repeat (first|apply Kd.R_alloc|apply Kd.R_drewN|apply Kd.R_drew));exact HO333.out)) k_ hk));(case aO => exact (by (with_reducible repeat (first|apply Kd.R_alloc|apply Kd.R_drewN|apply Kd.R_drew));exact Kd.R_mono HO337.out (fun _ hk => hk.2)));(case aS => exact (below_size (by repeat (first|(with_reducible first|exact HB.out|apply below_alloc|apply pw_below_drewN|apply below_drew1)|exact HB.out))));(case aL => have:=LMc41.out;have hlx_:=(show ((l0.take ((wrap64 ((ji37) + x7_2)) : Int).toNat).drop ((ji37) : Int).toNat).length = ((wrap64 ((ji37) + x7_2)).toNat - (ji37).toNat) from (by rw [List.length_drop,List.length_take];have h_ : ((wrap64 ((ji37) + x7_2)) : Int) ≤ (l0.length : Int):=of_decide_eq_true (by first|(with_reducible assumption)|assumption);omega));omega);intro v340 w77 ho hb hg hat;rw [← Ny339.out] at ho;have n0_:=Aside0.mk (Kd.R_after (ok:=(fun _ => True)) (by (with_reducible repeat (first|apply Kd.R_alloc|apply Kd.R_drewN|apply Kd.R_drew));exact HO333.out) hg hat);have n1_:=Aside0.mk (hb);have n2_:=Aside0.mk (ho);clear HO333;clear HB;clear HO337;have HO333:=n0_;have HB:=n1_;have HO341:=n2_;clear n0_ n1_ n2_;clear ho hb hg hat;obtain ⟨Ao78,co78,eo78⟩:=Kd.R_slice HO341.out;subst eo78))
                         have n0_:=Aside0.mk (Kd.R_drew HO333.out)
                         have n1_:=Aside0.mk (Kd.R_drew HO341.out)
                         have n2_:=Aside0.mk (below_drew1 HB.out)
                         clear HO333
                         clear HO341
                         clear HB
                         have HO333:=n0_
                         have HO341:=n1_
                         have HB:=n2_
                         clear n0_ n1_ n2_
                         obtain ⟨i080,hi080,_,hsz80,_⟩:=info_parts info5
                         obtain ⟨A80,hcut80,hA80,hC80⟩:=print_mid_of (P:=Tryd.prog) (Value.int .u8) 0 49 5 .i64 .i64 Tryd.underlying49 hi080 hsz80 A0 c0 l0 (ji44) (ji37) (of_decide_eq_true (by first|(with_reducible assumption)|assumption)) (by first|omega|exact of_decide_eq_true (by first|(with_reducible assumption)|assumption)) (of_decide_eq_true (by first|(with_reducible assumption)|assumption)) HC0.out
                         have HR346:=Aside0.mk (Kd.C_of_reads (h1:=fun _ => rfl) (hA80 _ (Kd.reads_of_C HR0.out)))
                         have HC346:=Aside0.mk hC80
                         clear hA80 hC80 hi080 hsz80
                         refine start_ (n:=12) (S:=fun w' => Kd.C (Kd.int .u8) w' A80 _ _) (ds:=[]) #[false,false,false,false,false,false,false,false,false,false,false,false] (by kernel_rfl) rfl rfl (by repeat (first|exact (Kd.C_below HR346.out HB.out)|exact HR346.out|(with_reducible refine Kd.C_alloc ?_ _)|(with_reducible refine Kd.C_drewN ?_ _)|(with_reducible refine Kd.C_drew ?_))) (fun hHeld => ?_);refine with_tabW racewayref02_Next.tab19 racewayref02_Next.bits19 (fun HT_ HW_ => ?_)
                         generalize w77.drew = w79 at HO333 HO341 HB HR346 hHeld ⊢
                         refine pure_ (i:=0) (N:=some 76) (v:=?_) (a':=?_) #[true,false,false,false,false,false,false,false,false,false,false,false] rfl rfl (any_of HT_.out (by kernel_rfl)) (fun _ _ _ h => h) (Or.inl ⟨by rfl,?_⟩) ?_ ?_
                         rotate_left
                         ·intro w'
                          go_simp
                          with_reducible rfl
                         rotate_left
                         ·simp only [Act.put,List.setIfInBounds_toArray,List.set_cons_zero,List.set_cons_succ,i64_w,i32_w]
                          rfl
                         refine pure_ (i:=4) (N:=some 80) (v:=?_) (a':=?_) #[true,false,false,false,true,false,false,false,false,false,false,false] rfl rfl (any_of HT_.out (by kernel_rfl)) (fun _ _ _ h => h) (Or.inl ⟨by rfl,?_⟩) ?_ ?_
                         rotate_left
                         ·intro w'
                          go_simp
                          with_reducible rfl
                         rotate_left
                         ·simp only [Act.put,List.setIfInBounds_toArray,List.set_cons_zero,List.set_cons_succ,i64_w,i32_w]
                          rfl
                         refine pure_ (i:=5) (N:=some 81) (v:=?_) (a':=?_) #[true,false,false,false,true,true,false,false,false,false,false,false] rfl rfl (any_of HT_.out (by kernel_rfl)) (fun _ _ _ h => h) (Or.inl ⟨by rfl,?_⟩) ?_ ?_
                         rotate_left
                         ·intro w'
                          go_simp
                          with_reducible rfl
                         rotate_left
                         ·simp only [Act.put,List.setIfInBounds_toArray,List.set_cons_zero,List.set_cons_succ,i64_w,i32_w]
                          rfl
                         refine pure_ (i:=6) (N:=some 82) (v:=?_) (a':=?_) #[true,false,false,false,true,true,true,false,false,false,false,false] rfl rfl (any_of HT_.out (by kernel_rfl)) (fun _ _ _ h => h) (Or.inl ⟨by rfl,?_⟩) ?_ ?_
                         rotate_left
                         ·intro w'
                          go_simp
                          with_reducible rfl
                         rotate_left
                         ·simp only [Act.put,List.setIfInBounds_toArray,List.set_cons_zero,List.set_cons_succ,i64_w,i32_w]
                          rfl
                         refine pure_ (i:=7) (N:=some 83) (v:=?_) (a':=?_) #[true,false,false,false,true,true,true,true,false,false,false,false] rfl rfl (any_of HT_.out (by kernel_rfl)) (fun _ _ _ h => h) (Or.inl ⟨by rfl,?_⟩) ?_ ?_
                         rotate_left
                         ·intro w'
                          go_simp
                          with_reducible rfl
                         rotate_left
                         ·simp only [Act.put,List.setIfInBounds_toArray,List.set_cons_zero,List.set_cons_succ,i64_w,i32_w]
                          rfl
                         refine pure_ (i:=8) (N:=some 84) (v:=?_) (a':=?_) #[true,false,false,false,true,true,true,true,true,false,false,false] rfl rfl (any_of HT_.out (by kernel_rfl)) (fun _ _ _ h => h) (Or.inl ⟨by rfl,?_⟩) ?_ ?_
                         rotate_left
                         ·intro w'
                          go_simp
                          with_reducible rfl
                         rotate_left
                         ·simp only [Act.put,List.setIfInBounds_toArray,List.set_cons_zero,List.set_cons_succ,i64_w,i32_w]
                          rfl
                         refine pure_ (i:=9) (N:=some 85) (v:=?_) (a':=?_) #[true,false,false,false,true,true,true,true,true,true,false,false] rfl rfl (any_of HT_.out (by kernel_rfl)) (fun _ _ _ h => h) (Or.inl ⟨by rfl,?_⟩) ?_ ?_
                         rotate_left
                         ·intro w'
                          go_simp
                          with_reducible rfl
                         rotate_left
                         ·simp only [Act.put,List.setIfInBounds_toArray,List.set_cons_zero,List.set_cons_succ,i64_w,i32_w]
                          rfl
                         refine take_ (i:=10) (N:=some 86) (v:=?_) (a':=?_) #[true,false,false,false,true,true,true,true,true,true,true,false] rfl rfl (by kernel_rfl) (fun _ _ _ h => h) (Or.inl ⟨by rfl,?_⟩) hHeld ?_ ?_
                         rotate_left
                         ·intro w' s0_
                          have hcv_:=Kd.C_string (P:=Tryd.prog) (A:=A80) (c:=(c0 - (ji44).toNat)) Tryd.underlying49 Tryd.underlying5 Tryd.underlying9 s0_
                          simp only [List.length_drop,List.length_take] at hcv_
                          try rw [Nat.min_eq_left (Int.toNat_le.mpr (of_decide_eq_true (by first|(with_reducible assumption)|assumption)))] at hcv_
                          go_simp
                          with_reducible rfl
                         rotate_left
                         ·simp only [Act.put,List.setIfInBounds_toArray,List.set_cons_zero,List.set_cons_succ,i64_w,i32_w]
                          rfl
                         refine one_ (i:=1) (N:=some 77) #[true,true,false,false,true,true,true,true,true,true,true,false] rfl rfl (one_of HT_.out (by kernel_rfl)) (by decide) (fun K hK => ?_)
                         refine goes_ Tryd.func88 (by kernel_rfl) rfl #[.slice Ao78 y339.length co78] (by rfl) rfl rfl (by (try simp only [List.map_toArray,List.map_cons,List.map_nil]);first|done|rfl|(simp only [List.length_drop,List.length_take];rfl)) ?_
                         with_reducible refine (racewayref02_Sum.calls k2 _ _ y339 t342 _ ?side1 ?side2 A42.out).mono ?_
                         (case side1 => repeat (first|exact (Kd.R_reads' HO341.out).2.2|(with_reducible refine Kd.C_alloc ?_ _)|(with_reducible refine Kd.C_drewN ?_ _)|(with_reducible refine Kd.C_drew ?_)))
                         (case side2 => exact (Kd.R_reads' HO341.out).2.1)
                         rintro e w' ⟨rfl,⟨nd,rfl⟩⟩
                         refine ⟨_,rfl,?_⟩
                         refine hK.out _ _ (by repeat (first|exact (Kd.C_below HR346.out HB.out)|exact HR346.out|(with_reducible refine Kd.C_alloc ?_ _)|(with_reducible refine Kd.C_drewN ?_ _)|(with_reducible refine Kd.C_drew ?_))) (fun hHeld => ?_)
                         clear hK K
                         refine norm_ (a':=?_) ?_ ?_
                         rotate_left
                         ·show Act.put _ (some 77) _ = _
                          simp only [Act.put,List.setIfInBounds_toArray,List.set_cons_zero,List.set_cons_succ,i64_w,i32_w]
                          rfl
                         refine one_ (i:=2) (N:=some 78) #[true,true,true,false,true,true,true,true,true,true,true,false] rfl rfl (one_of HT_.out (by kernel_rfl)) (by decide) (fun K hK => ?_)
                         refine goes_ Tryd.func87 (by kernel_rfl) rfl #[.slice none 0 0,.int .u32 t342] (by rfl) rfl rfl (by (try simp only [List.map_toArray,List.map_cons,List.map_nil]);first|done|rfl|(simp only [List.length_drop,List.length_take];rfl)) ?_
                         refine (racewayref02_put.calls k2 (fun k_ => some k_ = (.slice none 0 0 : Value).ownBlock) (.slice none 0 0) ([] : List Int) t342 t343 w _ ?side1 ?side2 A43.out).mono ?_
                         (case side1 => repeat (first|(with_reducible first|exact HB.out|apply below_alloc|apply pw_below_drewN|apply below_drew1)|exact HB.out))
                         (case side2 => exact Kd.R_nil _ _ _ _ _)
                         rintro e w81 ⟨v344,rfl,ho0,hb,hkp⟩
                         refine ⟨_,rfl,?_⟩
                         have n0_:=Aside0.mk (Kd.R_mono (ok':=fun k_ => some k_ ≠ (.slice Ao78 y339.length co78 : Value).ownBlock ∧ some k_ ≠ (v344 : Value).ownBlock) (Kd.R_keptB (HO333.out) hkp (fun k_ hk_ hs_ => (fun e_ => by simp [Value.ownBlock] at e_) hs_)) (fun k_ hk_ => ⟨hk_.1.2,fun e_ => Or.elim (ho0.1 k_ e_.symm) (fun hs_ => hk_.2.1 hs_) (fun hn_ => Nat.not_le.2 hk_.2.2 hn_)⟩))
                         have n1_:=Aside0.mk (Kd.R_mono (ok':=fun k_ => some k_ ≠ (v332 : Value).ownBlock ∧ some k_ ≠ (v344 : Value).ownBlock) (Kd.R_keptB (HO341.out) hkp (fun k_ hk_ hs_ => (fun e_ => by simp [Value.ownBlock] at e_) hs_)) (fun k_ hk_ => ⟨hk_.1,fun e_ => Or.elim (ho0.1 k_ e_.symm) (fun hs_ => hk_.2.1 hs_) (fun hn_ => Nat.not_le.2 hk_.2.2 hn_)⟩))
                         have n2_:=Aside0.mk (Kd.R_mono (ok':=fun k_ => some k_ ≠ (v332 : Value).ownBlock ∧ some k_ ≠ (.slice Ao78 y339.length co78 : Value).ownBlock) ho0 (fun k_ hk_ => ⟨Or.elim hk_ (fun hs_ => absurd hs_ (by simp [Value.ownBlock])) (fun hn_ => (Kd.fresh' (Kd.R_lt (by (with_reducible repeat (first|apply Kd.R_alloc|apply Kd.R_drewN|apply Kd.R_drew));exact HO333.out)) k_ hn_)),Or.elim hk_ (fun hs_ => absurd hs_ (by simp [Value.ownBlock])) (fun hn_ => (Kd.fresh' (Kd.R_lt (by (with_reducible repeat (first|apply Kd.R_alloc|apply Kd.R_drewN|apply Kd.R_drew));exact HO341.out)) k_ hn_))⟩))
                         have n3_:=Aside0.mk (hb)
                         clear HO333
                         clear HO341
                         clear HB
                         have HO333:=n0_
                         have HO341:=n1_
                         have HO345:=n2_
                         have HB:=n3_
                         clear n0_ n1_ n2_ n3_
                         (try clear hb)
                         (try clear hkp)
                         (try clear ho0)
                         refine hK.out _ _ (by repeat (first|exact (Kd.C_below HR346.out HB.out)|exact HR346.out|(with_reducible refine Kd.C_alloc ?_ _)|(with_reducible refine Kd.C_drewN ?_ _)|(with_reducible refine Kd.C_drew ?_))) (fun hHeld => ?_)
                         clear hK K
                         refine norm_ (a':=?_) ?_ ?_
                         rotate_left
                         ·show Act.put _ (some 78) _ = _
                          simp only [Act.put,List.setIfInBounds_toArray,List.set_cons_zero,List.set_cons_succ,i64_w,i32_w]
                          rfl
                         refine one_ (i:=3) (N:=some 79) #[true,true,true,true,true,true,true,true,true,true,true,false] rfl rfl (one_of HT_.out (by kernel_rfl)) (by decide) (fun K hK => ?_)
                         have hcv82:=own_string (P:=Tryd.prog) Tryd.underlying49 Tryd.underlying5 Tryd.underlying9 (Kd.own_of_R HO345.out)
                         refine value_ (w1:=?_) (v:=?_) (by rfl) rfl ?_ ?_
                         rotate_left 2
                         ·go_simp
                          constructor
                          ·rfl
                          ·rfl
                         clear hcv82
                         refine hK.out _ _ (by repeat (first|exact (Kd.C_below HR346.out HB.out)|exact HR346.out|(with_reducible refine Kd.C_alloc ?_ _)|(with_reducible refine Kd.C_drewN ?_ _)|(with_reducible refine Kd.C_drew ?_))) (fun hHeld => ?_)
                         clear hK K
                         refine norm_ (a':=?_) ?_ ?_
                         rotate_left
                         ·show Act.put _ (some 79) _ = _
                          simp only [Act.put,List.setIfInBounds_toArray,List.set_cons_zero,List.set_cons_succ,i64_w,i32_w]
                          rfl
                         refine pure_ (i:=11) (N:=some 87) (v:=?_) (a':=?_) #[true,true,true,true,true,true,true,true,true,true,true,true] rfl rfl (any_of HT_.out (by kernel_rfl)) (fun _ _ _ h => h) (Or.inl ⟨by rfl,?_⟩) ?_ ?_
                         rotate_left
                         ·intro w'
                          go_simp
                          with_reducible rfl
                         rotate_left
                         ·simp only [Act.put,List.setIfInBounds_toArray,List.set_cons_zero,List.set_cons_succ,i64_w,i32_w]
                          rfl
                         refine done_ (done_of HT_.out (by kernel_rfl)) ?_
                         try go_wp2
                         go_ret3
                         exact ⟨_,by first|rfl|(simp [errW_none,errW_some] <;> rfl)|(simp only [← hji16,← hji37,← hji44];first|rfl|(simp [errW_none,errW_some] <;> rfl))|(simp [*,errW_none,errW_some] <;> rfl),by first|exact Kd.R_nil _ _ _ _ _|exact Kd.N_nil _ _ _ _ _|exact Kd.V_nil _ _ _ _ _|exact Kd.Q_nil _ _ _ _ _|exact Kd.S_nil _ _ _ _ _,by repeat (first|(with_reducible first|exact HB.out|apply below_alloc|apply pw_below_drewN|apply below_drew1)|exact HB.out)⟩
                       ·rw [if_neg c47] at H
                        exact absurd H (by simp)
                      ·rw [if_neg c46] at H
                       exact absurd H (by simp)
                     ·rw [if_neg c45] at H
                      exact absurd H (by simp)
                    ·rw [if_neg c41] at H
                     exact absurd H (by simp)
                   ·rw [if_neg c40] at H
                    exact absurd H (by simp)
                  ·rw [if_neg c39] at H
                   exact absurd H (by simp)
                 ·rw [if_neg c38] at H
                  exact absurd H (by simp)
              ·rw [if_neg c20] at H
               have c20b0 : ((strOfNums t331).toList == (strOfNums ((l0.take ((wrap64 (a1 + 8)) : Int).toNat).drop ((ji16) : Int).toNat)).toList) = false:=beq_eq_false_iff_ne.mpr c20
               have c20b1 : ((strOfNums t331).toList != (strOfNums ((l0.take ((wrap64 (a1 + 8)) : Int).toNat).drop ((ji16) : Int).toNat)).toList) = true:=bne_iff_ne.mpr c20
               simp only [Option.some.injEq,Prod.mk.injEq] at H
               obtain ⟨rfl,rfl,rfl⟩:=H
               try go_wp2
               have n0_:=Aside0.mk (below_drew1 HB.out)
               clear HB
               have HB:=n0_
               clear n0_
               obtain ⟨i086,hi086,_,hsz86,_⟩:=info_parts info5
               obtain ⟨A86,hcut86,hA86,hC86⟩:=print_mid_of (P:=Tryd.prog) (Value.int .u8) 0 49 5 .i64 .i64 Tryd.underlying49 hi086 hsz86 A0 c0 l0 a1 (ji16) (of_decide_eq_true (by first|(with_reducible assumption)|assumption)) (by first|omega|exact of_decide_eq_true (by first|(with_reducible assumption)|assumption)) (of_decide_eq_true (by first|(with_reducible assumption)|assumption)) HC0.out
               have HR329:=Aside0.mk (Kd.C_of_reads (h1:=fun _ => rfl) (hA86 _ (Kd.reads_of_C HR0.out)))
               have HC329:=Aside0.mk hC86
               clear hA86 hC86 hi086 hsz86
               obtain ⟨i087,hi087,_,hsz87,_⟩:=info_parts info5
               obtain ⟨A87,hcut87,hA87,hC87⟩:=print_mid_of (P:=Tryd.prog) (Value.int .u8) 0 49 5 .i64 .i64 Tryd.underlying49 hi087 hsz87 A0 c0 l0 (ji16) (wrap64 (a1 + 8)) (of_decide_eq_true (by first|(with_reducible assumption)|assumption)) (by first|omega|exact of_decide_eq_true (by first|(with_reducible assumption)|assumption)) (of_decide_eq_true (by first|(with_reducible assumption)|assumption)) HC0.out
               have HR334:=Aside0.mk (Kd.C_of_reads (h1:=fun _ => rfl) (hA87 _ (Kd.reads_of_C HR0.out)))
               have HC334:=Aside0.mk hC87
               clear hA87 hC87 hi087 hsz87
               refine start_ (n:=16) (S:=fun w' => Kd.C (Kd.int .u8) w' A87 _ _) (ds:=[]) #[false,false,false,false,false,false,false,false,false,false,false,false,false,false,false,false] (by kernel_rfl) rfl rfl (by repeat (first|exact (Kd.C_below HR334.out HB.out)|exact HR334.out|(with_reducible refine Kd.C_alloc ?_ _)|(with_reducible refine Kd.C_drewN ?_ _)|(with_reducible refine Kd.C_drew ?_))) (fun hHeld => ?_);refine with_tabW racewayref02_Next.tab12 racewayref02_Next.bits12 (fun HT_ HW_ => ?_)
               generalize wr.drew = w85 at HB HR329 HR334 hHeld ⊢
               refine pure_ (i:=0) (N:=some 41) (v:=?_) (a':=?_) #[true,false,false,false,false,false,false,false,false,false,false,false,false,false,false,false] rfl rfl (any_of HT_.out (by kernel_rfl)) (fun _ _ _ h => h) (Or.inl ⟨by rfl,?_⟩) ?_ ?_
               rotate_left
               ·intro w'
                go_simp
                with_reducible rfl
               rotate_left
               ·simp only [Act.put,List.setIfInBounds_toArray,List.set_cons_zero,List.set_cons_succ,i64_w,i32_w]
                rfl
               refine pure_ (i:=1) (N:=some 42) (v:=?_) (a':=?_) #[true,true,false,false,false,false,false,false,false,false,false,false,false,false,false,false] rfl rfl (any_of HT_.out (by kernel_rfl)) (fun _ _ _ h => h) (Or.inl ⟨by rfl,?_⟩) ?_ ?_
               rotate_left
               ·intro w'
                go_simp
                with_reducible rfl
               rotate_left
               ·simp only [Act.put,List.setIfInBounds_toArray,List.set_cons_zero,List.set_cons_succ,i64_w,i32_w]
                rfl
               refine pure_ (i:=2) (N:=some 43) (v:=?_) (a':=?_) #[true,true,true,false,false,false,false,false,false,false,false,false,false,false,false,false] rfl rfl (any_of HT_.out (by kernel_rfl)) (fun _ _ _ h => h) (Or.inl ⟨by rfl,?_⟩) ?_ ?_
               rotate_left
               ·intro w'
                go_simp
                with_reducible rfl
               rotate_left
               ·simp only [Act.put,List.setIfInBounds_toArray,List.set_cons_zero,List.set_cons_succ,i64_w,i32_w]
                rfl
               refine pure_ (i:=3) (N:=some 44) (v:=?_) (a':=?_) #[true,true,true,true,false,false,false,false,false,false,false,false,false,false,false,false] rfl rfl (any_of HT_.out (by kernel_rfl)) (fun _ _ _ h => h) (Or.inl ⟨by rfl,?_⟩) ?_ ?_
               rotate_left
               ·intro w'
                go_simp
                with_reducible rfl
               rotate_left
               ·simp only [Act.put,List.setIfInBounds_toArray,List.set_cons_zero,List.set_cons_succ,i64_w,i32_w]
                rfl
               refine pure_ (i:=4) (N:=some 45) (v:=?_) (a':=?_) #[true,true,true,true,true,false,false,false,false,false,false,false,false,false,false,false] rfl rfl (any_of HT_.out (by kernel_rfl)) (fun _ _ _ h => h) (Or.inl ⟨by rfl,?_⟩) ?_ ?_
               rotate_left
               ·intro w'
                go_simp
                with_reducible rfl
               rotate_left
               ·simp only [Act.put,List.setIfInBounds_toArray,List.set_cons_zero,List.set_cons_succ,i64_w,i32_w]
                rfl
               refine pure_ (i:=8) (N:=some 49) (v:=?_) (a':=?_) #[true,true,true,true,true,false,false,false,true,false,false,false,false,false,false,false] rfl rfl (any_of HT_.out (by kernel_rfl)) (fun _ _ _ h => h) (Or.inl ⟨by rfl,?_⟩) ?_ ?_
               rotate_left
               ·intro w'
                go_simp
                with_reducible rfl
               rotate_left
               ·simp only [Act.put,List.setIfInBounds_toArray,List.set_cons_zero,List.set_cons_succ,i64_w,i32_w]
                rfl
               refine pure_ (i:=9) (N:=some 50) (v:=?_) (a':=?_) #[true,true,true,true,true,false,false,false,true,true,false,false,false,false,false,false] rfl rfl (any_of HT_.out (by kernel_rfl)) (fun _ _ _ h => h) (Or.inl ⟨by rfl,?_⟩) ?_ ?_
               rotate_left
               ·intro w'
                go_simp
                with_reducible rfl
               rotate_left
               ·simp only [Act.put,List.setIfInBounds_toArray,List.set_cons_zero,List.set_cons_succ,i64_w,i32_w]
                rfl
               refine pure_ (i:=10) (N:=some 51) (v:=?_) (a':=?_) #[true,true,true,true,true,false,false,false,true,true,true,false,false,false,false,false] rfl rfl (any_of HT_.out (by kernel_rfl)) (fun _ _ _ h => h) (Or.inl ⟨by rfl,?_⟩) ?_ ?_
               rotate_left
               ·intro w'
                go_simp
                with_reducible rfl
               rotate_left
               ·simp only [Act.put,List.setIfInBounds_toArray,List.set_cons_zero,List.set_cons_succ,i64_w,i32_w]
                rfl
               refine pure_ (i:=11) (N:=some 52) (v:=?_) (a':=?_) #[true,true,true,true,true,false,false,false,true,true,true,true,false,false,false,false] rfl rfl (any_of HT_.out (by kernel_rfl)) (fun _ _ _ h => h) (Or.inl ⟨by rfl,?_⟩) ?_ ?_
               rotate_left
               ·intro w'
                go_simp
                with_reducible rfl
               rotate_left
               ·simp only [Act.put,List.setIfInBounds_toArray,List.set_cons_zero,List.set_cons_succ,i64_w,i32_w]
                rfl
               refine pure_ (i:=12) (N:=some 53) (v:=?_) (a':=?_) #[true,true,true,true,true,false,false,false,true,true,true,true,true,false,false,false] rfl rfl (any_of HT_.out (by kernel_rfl)) (fun _ _ _ h => h) (Or.inl ⟨by rfl,?_⟩) ?_ ?_
               rotate_left
               ·intro w'
                go_simp
                with_reducible rfl
               rotate_left
               ·simp only [Act.put,List.setIfInBounds_toArray,List.set_cons_zero,List.set_cons_succ,i64_w,i32_w]
                rfl
               refine pure_ (i:=13) (N:=some 54) (v:=?_) (a':=?_) #[true,true,true,true,true,false,false,false,true,true,true,true,true,true,false,false] rfl rfl (any_of HT_.out (by kernel_rfl)) (fun _ _ _ h => h) (Or.inl ⟨by rfl,?_⟩) ?_ ?_
               rotate_left
               ·intro w'
                go_simp
                with_reducible rfl
               rotate_left
               ·simp only [Act.put,List.setIfInBounds_toArray,List.set_cons_zero,List.set_cons_succ,i64_w,i32_w]
                rfl
               refine take_ (i:=14) (N:=some 55) (v:=?_) (a':=?_) #[true,true,true,true,true,false,false,false,true,true,true,true,true,true,true,false] rfl rfl (by kernel_rfl) (fun _ _ _ h => h) (Or.inl ⟨by rfl,?_⟩) hHeld ?_ ?_
               rotate_left
               ·intro w' s0_
                have hcv_:=Kd.C_string (P:=Tryd.prog) (A:=A87) (c:=(c0 - (ji16).toNat)) Tryd.underlying49 Tryd.underlying5 Tryd.underlying9 s0_
                simp only [List.length_drop,List.length_take] at hcv_
                try rw [Nat.min_eq_left (Int.toNat_le.mpr (of_decide_eq_true (by first|(with_reducible assumption)|assumption)))] at hcv_
                go_simp
                with_reducible rfl
               rotate_left
               ·simp only [Act.put,List.setIfInBounds_toArray,List.set_cons_zero,List.set_cons_succ,i64_w,i32_w]
                rfl
               refine one_ (i:=5) (N:=some 46) #[true,true,true,true,true,true,false,false,true,true,true,true,true,true,true,false] rfl rfl (one_of HT_.out (by kernel_rfl)) (by decide) (fun K hK => ?_)
               refine goes_ Tryd.func88 (by kernel_rfl) rfl #[.slice A86 ((l0.take ((ji16) : Int).toNat).drop (a1 : Int).toNat).length (c0 - a1.toNat)] (by rfl) rfl rfl (by (try simp only [List.map_toArray,List.map_cons,List.map_nil]);first|done|(rw [show ((l0.take ((ji16) : Int).toNat).drop (a1 : Int).toNat).length = ((ji16).toNat - a1.toNat) from (by rw [List.length_drop,List.length_take];have h_ : ((ji16) : Int) ≤ (l0.length : Int):=of_decide_eq_true (by first|(with_reducible assumption)|assumption);omega)] <;> rfl)|(simp only [hji16];rfl)|rfl|(simp only [List.length_drop,List.length_take];rfl)) ?_
               with_reducible refine (racewayref02_Sum.calls k2 _ _ ((l0.take ((ji16) : Int).toNat).drop (a1 : Int).toNat) t330 _ ?side1 ?side2 A14.out).mono ?_
               (case side1 => repeat (first|exact (Kd.C_below HR329.out HB.out)|(with_reducible refine Kd.C_alloc ?_ _)|(with_reducible refine Kd.C_drewN ?_ _)|(with_reducible refine Kd.C_drew ?_)))
               (case side2 => exact HC329.out)
               rintro e w' ⟨rfl,⟨nd,rfl⟩⟩
               refine ⟨_,rfl,?_⟩
               refine hK.out _ _ (by repeat (first|exact (Kd.C_below HR334.out HB.out)|exact HR334.out|(with_reducible refine Kd.C_alloc ?_ _)|(with_reducible refine Kd.C_drewN ?_ _)|(with_reducible refine Kd.C_drew ?_))) (fun hHeld => ?_)
               clear hK K
               refine norm_ (a':=?_) ?_ ?_
               rotate_left
               ·show Act.put _ (some 46) _ = _
                simp only [Act.put,List.setIfInBounds_toArray,List.set_cons_zero,List.set_cons_succ,i64_w,i32_w]
                rfl
               refine one_ (i:=6) (N:=some 47) #[true,true,true,true,true,true,true,false,true,true,true,true,true,true,true,false] rfl rfl (one_of HT_.out (by kernel_rfl)) (by decide) (fun K hK => ?_)
               refine goes_ Tryd.func87 (by kernel_rfl) rfl #[.slice none 0 0,.int .u32 t330] (by rfl) rfl rfl (by (try simp only [List.map_toArray,List.map_cons,List.map_nil]);first|done|rfl|(simp only [List.length_drop,List.length_take];rfl)) ?_
               refine (racewayref02_put.calls k2 (fun k_ => some k_ = (.slice none 0 0 : Value).ownBlock) (.slice none 0 0) ([] : List Int) t330 t331 w _ ?side1 ?side2 A15.out).mono ?_
               (case side1 => repeat (first|(with_reducible first|exact HB.out|apply below_alloc|apply pw_below_drewN|apply below_drew1)|exact HB.out))
               (case side2 => exact Kd.R_nil _ _ _ _ _)
               rintro e w88 ⟨v332,rfl,ho0,hb,hkp⟩
               refine ⟨_,rfl,?_⟩
               have n0_:=Aside0.mk (Kd.R_mono (ok':=fun k_ => True) ho0 (fun k_ hk_ => trivial))
               have n1_:=Aside0.mk (hb)
               clear HB
               have HO333:=n0_
               have HB:=n1_
               clear n0_ n1_
               (try clear hb)
               (try clear hkp)
               (try clear ho0)
               refine hK.out _ _ (by repeat (first|exact (Kd.C_below HR334.out HB.out)|exact HR334.out|(with_reducible refine Kd.C_alloc ?_ _)|(with_reducible refine Kd.C_drewN ?_ _)|(with_reducible refine Kd.C_drew ?_))) (fun hHeld => ?_)
               clear hK K
               refine norm_ (a':=?_) ?_ ?_
               rotate_left
               ·show Act.put _ (some 47) _ = _
                simp only [Act.put,List.setIfInBounds_toArray,List.set_cons_zero,List.set_cons_succ,i64_w,i32_w]
                rfl
               refine one_ (i:=7) (N:=some 48) #[true,true,true,true,true,true,true,true,true,true,true,true,true,true,true,false] rfl rfl (one_of HT_.out (by kernel_rfl)) (by decide) (fun K hK => ?_)
               have hcv89:=own_string (P:=Tryd.prog) Tryd.underlying49 Tryd.underlying5 Tryd.underlying9 (Kd.own_of_R HO333.out)
               refine value_ (w1:=?_) (v:=?_) (by rfl) rfl ?_ ?_
               rotate_left 2
               ·go_simp
                constructor
                ·rfl
                ·rfl
               clear hcv89
               refine hK.out _ _ (by repeat (first|exact (Kd.C_below HR334.out HB.out)|exact HR334.out|(with_reducible refine Kd.C_alloc ?_ _)|(with_reducible refine Kd.C_drewN ?_ _)|(with_reducible refine Kd.C_drew ?_))) (fun hHeld => ?_)
               clear hK K
               refine norm_ (a':=?_) ?_ ?_
               rotate_left
               ·show Act.put _ (some 48) _ = _
                simp only [Act.put,List.setIfInBounds_toArray,List.set_cons_zero,List.set_cons_succ,i64_w,i32_w]
                rfl
               refine pure_ (i:=15) (N:=some 56) (v:=?_) (a':=?_) #[true,true,true,true,true,true,true,true,true,true,true,true,true,true,true,true] rfl rfl (any_of HT_.out (by kernel_rfl)) (fun _ _ _ h => h) (Or.inl ⟨by rfl,?_⟩) ?_ ?_
               rotate_left
               ·intro w'
                go_simp
                with_reducible rfl
               rotate_left
               ·simp only [Act.put,List.setIfInBounds_toArray,List.set_cons_zero,List.set_cons_succ,i64_w,i32_w]
                rfl
               refine done_ (done_of HT_.out (by kernel_rfl)) ?_
               try go_wp2
               go_ret3
               exact ⟨_,by first|rfl|(simp [errW_none,errW_some] <;> rfl)|(simp only [← hji16];first|rfl|(simp [errW_none,errW_some] <;> rfl))|(simp [*,errW_none,errW_some] <;> rfl),by first|exact Kd.R_nil _ _ _ _ _|exact Kd.N_nil _ _ _ _ _|exact Kd.V_nil _ _ _ _ _|exact Kd.Q_nil _ _ _ _ _|exact Kd.S_nil _ _ _ _ _,by repeat (first|(with_reducible first|exact HB.out|apply below_alloc|apply pw_below_drewN|apply below_drew1)|exact HB.out)⟩
             ·rw [if_neg c19] at H
              exact absurd H (by simp)
            ·rw [if_neg c18] at H
             exact absurd H (by simp)
           ·rw [if_neg c17] at H
            exact absurd H (by simp)
          ·rw [if_neg c13] at H
           exact absurd H (by simp)
         ·rw [if_neg c12] at H
          exact absurd H (by simp)
        ·rw [if_neg c11] at H
         exact absurd H (by simp)
end Go.Proofs.YtedfgkjimnjdpaaDoor.X
namespace Go.Proofs.YtedfgkjimnjdpaaDoor.X
open Go.RowKit Go.Proofs.YtedfgkjimnjdpaaDoorW.PrintWords Go.Proofs.YtedfgkjimnjdpaaDoorW.PrintLast Go.Proofs.YtedfgkjimnjdpaaDoorW.PrintMore
attribute [local go_sem] max2_int min2_int max_two min_two max_three min_three max_four min_four
set_option linter.unusedVariables false
set_option linter.unusedSimpArgs false
mutual
def racewayref01_ReadNum.l0 : Nat → List Int → Int → Int → Int → Option (Int × Int × Int)
 | 0,_,_,_,_ => none
 | k + 1,x0,x5,x6,x7 => if x7 < (x0.length : Int) then (if x7 = 9 then (racewayref01_ReadNum.j1 k x0 x5 x6 x7 true) else (if x7 > 0 then (if 0 ≤ x7 then (racewayref01_ReadNum.j1 k x0 x5 x6 x7 ((rd x0 x7) == 0)) else (none)) else (racewayref01_ReadNum.j1 k x0 x5 x6 x7 false))) else (some (0,0,4))
def racewayref01_ReadNum.j1 : Nat → List Int → Int → Int → Int → Bool → Option (Int × Int × Int)
 | 0,_,_,_,_,_ => none
 | k + 1,x0,x5,x6,x7,x27 => if x27 = true then (some (0,0,5)) else (if 0 ≤ x7 then (if x7 < (x0.length : Int) then (if (wrap64 (Int.tmod (rd x0 x7) 128)) > 0 then (if x7 = 8 then (if (wrap64 (Int.tmod (rd x0 x7) 128)) > 64 then (racewayref01_ReadNum.j2 k x0 x5 x6 x7 (wrap64 (Int.tmod (rd x0 x7) 128)) true) else (if (wrap64 (Int.tmod (rd x0 x7) 128)) = 64 then (racewayref01_ReadNum.j2 k x0 x5 x6 x7 (wrap64 (Int.tmod (rd x0 x7) 128)) (decide (x5 > 0))) else (racewayref01_ReadNum.j2 k x0 x5 x6 x7 (wrap64 (Int.tmod (rd x0 x7) 128)) false))) else (racewayref01_ReadNum.j2 k x0 x5 x6 x7 (wrap64 (Int.tmod (rd x0 x7) 128)) false)) else (racewayref01_ReadNum.j2 k x0 x5 x6 x7 (wrap64 (Int.tmod (rd x0 x7) 128)) false)) else (none)) else (none))
def racewayref01_ReadNum.j2 : Nat → List Int → Int → Int → Int → Int → Bool → Option (Int × Int × Int)
 | 0,_,_,_,_,_,_ => none
 | k + 1,x0,x5,x6,x7,x8,x55 => if x55 = true then (some (0,0,5)) else (if 0 ≤ x7 then (if x7 < (x0.length : Int) then (if (rd x0 x7) < 128 then (some (wrap64 (x5 + (wrap64 (x8 * x6))),wrap64 (x7 + 1),0)) else (if x7 < 8 then (racewayref01_ReadNum.l0 k x0 (wrap64 (x5 + (wrap64 (x8 * x6)))) (wrap64 (x6 * 128)) (wrap64 (x7 + 1))) else (racewayref01_ReadNum.l0 k x0 (wrap64 (x5 + (wrap64 (x8 * x6)))) x6 (wrap64 (x7 + 1))))) else (none)) else (none))
end
def racewayref01_ReadNum.f (k : Nat) (l0 : List Int) : Option (Int × Int × Int):=racewayref01_ReadNum.l0 k l0 0 1 0
set_option maxHeartbeats 8000000 in
set_option maxRecDepth 100000 in
theorem racewayref01_ReadNum.calls (k : Nat) (A0 : Option Addr) (c0 : Nat) (l0 : List Int) (r1 : Int) (r2 : Int) (r3 : Int) (w : World) (hr0 : Kd.C (Kd.int .u8) w A0 l0.length l0) (hc0 : l0.length ≤ c0) (h : racewayref01_ReadNum.f k l0 = some (r1,r2,r3)) :
  Calls Tryd.prog 55 #[.slice A0 l0.length c0] w fun e w' => e = .returned (.tuple #[.int .i64 r1,.int .i64 r2,.int .i64 r3]) ∧ Drawn0 w w':=by
 have HR0:=Aside0.mk hr0
 have HC0:=Aside0.mk hc0
 clear hr0 hc0
 have H : (racewayref01_ReadNum.l0 k l0 0 1 0) = some (r1,r2,r3):=h
 clear h
 have H':=Aside0.mk H
 clear H
 go_enter Tryd.func55,Tryd.ntmps55
 go_wp2
 go_loopg [5,6,7] k (fun kq v5 v6 v7 w' => ∃ (x5_1 : Int) (x6_1 : Int) (x7_1 : Int),v5 = .int .i64 x5_1 ∧ v6 = .int .i64 x6_1 ∧ v7 = .int .i64 x7_1 ∧ Aside0 (racewayref01_ReadNum.l0 kq l0 x5_1 x6_1 x7_1 = some (r1,r2,r3)) ∧ Aside0 (kq ≤ k) ∧ Drawn0 w w')
 case atStart => exact ⟨(0),(1),(0),(by first|rfl|(simp;done)|(simp;decide +kernel)|(simp [*];done)),(by first|rfl|(simp;done)|(simp;decide +kernel)|(simp [*];done)),(by first|rfl|(simp;done)|(simp;decide +kernel)|(simp [*];done)),(by first|exact H'|(subst_vars;exact H')),⟨Nat.le_refl _⟩,by repeat (first|exact Drawn0.refl _|apply Drawn0.step)⟩
 case round =>
  clear H'
  obtain ⟨x5_1,x6_1,x7_1,rfl,rfl,rfl,HA,HK1,⟨m1,rfl⟩⟩:=hrel
  cases gk with
  | zero => exact absurd HA.out (by simp [racewayref01_ReadNum.l0])
  | succ k1 =>
   have H:=HA.out
   clear HA
   simp only [racewayref01_ReadNum.l0] at H
   by_cases c2 : x7_1 < (l0.length : Int)
   ·rw [if_pos c2] at H
    have c2b0 : decide (x7_1 < (l0.length : Int)) = true:=decide_eq_true c2
    clear c2
    have HC3:=Aside0.mk H
    clear H
    go_upto_region 6 with (fail)
    go_cut [27] (fun v27 wc => ∃ (kq : Nat) (x27_2 : Bool),v27 = .bool x27_2 ∧ Aside0 (racewayref01_ReadNum.j1 kq l0 x5_1 x6_1 x7_1 x27_2 = some (r1,r2,r3)) ∧ Aside0 (kq ≤ k1) ∧ Drawn0 w wc)
    case first =>
     have H:=HC3.out
     clear HC3
     by_cases c4 : x7_1 = 9
     ·rw [if_pos c4] at H
      have c4b0 : (x7_1 == 9) = true:=beq_iff_eq.mpr c4
      have c4b1 : (x7_1 != 9) = false:=bne_eq_false_iff_eq.mpr c4
      clear c4
      (first|rw [c4b0]|(simp only [i64_w,i32_w];rw [c4b0])|skip)
      have H':=Aside0.mk H
      clear H
      go_wp2
      go_meet
      case rel => exact ⟨_,(true),(by first|rfl|(simp;done)|(simp;decide +kernel)|(simp [*];done)),(by first|exact H'|(subst_vars;exact H')),⟨by have:=HK1.out;first|omega|exact Nat.le_refl _⟩,by repeat (first|exact Drawn0.refl _|apply Drawn0.step)⟩
     ·rw [if_neg c4] at H
      have c4b0 : (x7_1 == 9) = false:=beq_eq_false_iff_ne.mpr c4
      have c4b1 : (x7_1 != 9) = true:=bne_iff_ne.mpr c4
      (first|rw [c4b0]|(simp only [i64_w,i32_w];rw [c4b0])|skip)
      by_cases c5 : x7_1 > 0
      ·rw [if_pos c5] at H
       have c5b0 : decide (0 < x7_1) = true:=decide_eq_true c5
       clear c5
       by_cases c6 : 0 ≤ x7_1
       ·rw [if_pos c6] at H
        have c6b0 : decide (0 ≤ x7_1) = true:=decide_eq_true c6
        clear c6
        have H':=Aside0.mk H
        clear H
        have p347 : 0 ≤ (x7_1 : Int):=of_decide_eq_true (by first|(with_reducible assumption)|assumption)
        have q347 : x7_1 < (l0.length : Int):=of_decide_eq_true (by first|(with_reducible assumption)|assumption)
        obtain ⟨ad347,e347,hx347_0⟩:=Kd.at_int HR0.out x7_1 p347 q347
        cases e347
        replace p347:=eq_true p347
        replace q347:=eq_true q347
        go_wp2
        go_meet
        case rel => exact ⟨_,(((rd l0 x7_1) == 0)),(by first|rfl|(simp;done)|(simp;decide +kernel)|(simp [*];done)),(by first|exact H'|(subst_vars;exact H')),⟨by have:=HK1.out;first|omega|exact Nat.le_refl _⟩,by repeat (first|exact Drawn0.refl _|apply Drawn0.step)⟩
       ·rw [if_neg c6] at H
        exact absurd H (by simp)
      ·rw [if_neg c5] at H
       have c5b0 : decide (0 < x7_1) = false:=decide_eq_false c5
       clear c5
       have H':=Aside0.mk H
       clear H
       go_wp2
       go_meet
       case rel => exact ⟨_,(false),(by first|rfl|(simp;done)|(simp;decide +kernel)|(simp [*];done)),(by first|exact H'|(subst_vars;exact H')),⟨by have:=HK1.out;first|omega|exact Nat.le_refl _⟩,by repeat (first|exact Drawn0.refl _|apply Drawn0.step)⟩
    case rest =>
     clear HC3
     try clear c2
     try clear c2b0
     try clear p2
     try clear p3
     try clear q3
     try clear hx3
     try clear c4
     try clear c4b0
     try clear c4b1
     try clear c5
     try clear c5b0
     try clear c6
     try clear c6b0
     try clear hx347_0
     try clear p347
     try clear q347
     obtain ⟨kq,x27_2,rfl,HA,HJ2,⟨mc2,rfl⟩⟩:=hcut
     cases kq with
     | zero => exact absurd HA.out (by simp [racewayref01_ReadNum.j1])
     | succ kj2 =>
      have H:=HA.out
      clear HA
      simp only [racewayref01_ReadNum.j1] at H
      by_cases c7 : x27_2 = true
      ·subst c7
       have H1 : (some (0,0,5)) = some (r1,r2,r3):=by rw [if_pos rfl] at H;exact H
       clear H
       have H:=H1
       clear H1
       simp only [Option.some.injEq,Prod.mk.injEq] at H
       obtain ⟨rfl,rfl,rfl⟩:=H
       go_wp2
       go_ret3
       exact ⟨by first|rfl|(simp;done)|(simp;decide +kernel)|(simp [*];done),by repeat (first|exact Drawn0.refl _|apply Drawn0.step)⟩
      ·replace c7:=Bool.eq_false_iff.mpr c7
       subst c7
       have H1 : (if 0 ≤ x7_1 then (if x7_1 < (l0.length : Int) then (if (wrap64 (Int.tmod (rd l0 x7_1) 128)) > 0 then (if x7_1 = 8 then (if (wrap64 (Int.tmod (rd l0 x7_1) 128)) > 64 then (racewayref01_ReadNum.j2 kj2 l0 x5_1 x6_1 x7_1 (wrap64 (Int.tmod (rd l0 x7_1) 128)) true) else (if (wrap64 (Int.tmod (rd l0 x7_1) 128)) = 64 then (racewayref01_ReadNum.j2 kj2 l0 x5_1 x6_1 x7_1 (wrap64 (Int.tmod (rd l0 x7_1) 128)) (decide (x5_1 > 0))) else (racewayref01_ReadNum.j2 kj2 l0 x5_1 x6_1 x7_1 (wrap64 (Int.tmod (rd l0 x7_1) 128)) false))) else (racewayref01_ReadNum.j2 kj2 l0 x5_1 x6_1 x7_1 (wrap64 (Int.tmod (rd l0 x7_1) 128)) false)) else (racewayref01_ReadNum.j2 kj2 l0 x5_1 x6_1 x7_1 (wrap64 (Int.tmod (rd l0 x7_1) 128)) false)) else (none)) else (none)) = some (r1,r2,r3):=by rw [if_neg (show ¬ (false = true) by decide)] at H;exact H
       clear H
       have H:=H1
       clear H1
       by_cases c8 : 0 ≤ x7_1
       ·rw [if_pos c8] at H
        have c8b0 : decide (0 ≤ x7_1) = true:=decide_eq_true c8
        clear c8
        by_cases c9 : x7_1 < (l0.length : Int)
        ·rw [if_pos c9] at H
         have c9b0 : decide (x7_1 < (l0.length : Int)) = true:=decide_eq_true c9
         clear c9
         have HC10:=Aside0.mk H
         clear H
         have p348 : 0 ≤ (x7_1 : Int):=of_decide_eq_true (by first|(with_reducible assumption)|assumption)
         have q348 : x7_1 < (l0.length : Int):=of_decide_eq_true (by first|(with_reducible assumption)|assumption)
         obtain ⟨ad348,e348,hx348_0⟩:=Kd.at_int HR0.out x7_1 p348 q348
         cases e348
         replace p348:=eq_true p348
         replace q348:=eq_true q348
         go_upto_region 9 with (fail)
         go_cut [55] (fun v55 wc => ∃ (kq : Nat) (x55_9 : Bool),v55 = .bool x55_9 ∧ Aside0 (racewayref01_ReadNum.j2 kq l0 x5_1 x6_1 x7_1 (wrap64 (Int.tmod (rd l0 x7_1) 128)) x55_9 = some (r1,r2,r3)) ∧ Aside0 (kq ≤ kj2) ∧ Drawn0 w wc)
         case first =>
          have H:=HC10.out
          clear HC10
          by_cases c11 : (wrap64 (Int.tmod (rd l0 x7_1) 128)) > 0
          ·rw [if_pos c11] at H
           have c11b0 : decide (0 < (wrap64 (Int.tmod (rd l0 x7_1) 128))) = true:=decide_eq_true c11
           clear c11
           (first|rw [c11b0]|(simp only [i64_w,i32_w];rw [c11b0])|skip)
           by_cases c12 : x7_1 = 8
           ·rw [if_pos c12] at H
            have c12b0 : (x7_1 == 8) = true:=beq_iff_eq.mpr c12
            have c12b1 : (x7_1 != 8) = false:=bne_eq_false_iff_eq.mpr c12
            clear c12
            by_cases c13 : (wrap64 (Int.tmod (rd l0 x7_1) 128)) > 64
            ·rw [if_pos c13] at H
             have c13b0 : decide (64 < (wrap64 (Int.tmod (rd l0 x7_1) 128))) = true:=decide_eq_true c13
             clear c13
             have H':=Aside0.mk H
             clear H
             go_wp2
             go_meet
             case rel => exact ⟨_,(true),(by first|rfl|(simp;done)|(simp;decide +kernel)|(simp [*];done)),(by first|exact H'|(subst_vars;exact H')),⟨by have:=HK1.out;have:=HJ2.out;first|omega|exact Nat.le_refl _⟩,by repeat (first|exact Drawn0.refl _|apply Drawn0.step)⟩
            ·rw [if_neg c13] at H
             have c13b0 : decide (64 < (wrap64 (Int.tmod (rd l0 x7_1) 128))) = false:=decide_eq_false c13
             clear c13
             by_cases c14 : (wrap64 (Int.tmod (rd l0 x7_1) 128)) = 64
             ·rw [if_pos c14] at H
              have c14b0 : ((wrap64 (Int.tmod (rd l0 x7_1) 128)) == 64) = true:=beq_iff_eq.mpr c14
              have c14b1 : ((wrap64 (Int.tmod (rd l0 x7_1) 128)) != 64) = false:=bne_eq_false_iff_eq.mpr c14
              clear c14
              have H':=Aside0.mk H
              clear H
              go_wp2
              go_meet
              case rel => exact ⟨_,(decide (x5_1 > 0)),(by first|rfl|(simp;done)|(simp;decide +kernel)|(simp [*];done)),(by first|exact H'|(subst_vars;exact H')),⟨by have:=HK1.out;have:=HJ2.out;first|omega|exact Nat.le_refl _⟩,by repeat (first|exact Drawn0.refl _|apply Drawn0.step)⟩
             ·rw [if_neg c14] at H
              have c14b0 : ((wrap64 (Int.tmod (rd l0 x7_1) 128)) == 64) = false:=beq_eq_false_iff_ne.mpr c14
              have c14b1 : ((wrap64 (Int.tmod (rd l0 x7_1) 128)) != 64) = true:=bne_iff_ne.mpr c14
              have H':=Aside0.mk H
              clear H
              go_wp2
              go_meet
              case rel => exact ⟨_,(false),(by first|rfl|(simp;done)|(simp;decide +kernel)|(simp [*];done)),(by first|exact H'|(subst_vars;exact H')),⟨by have:=HK1.out;have:=HJ2.out;first|omega|exact Nat.le_refl _⟩,by repeat (first|exact Drawn0.refl _|apply Drawn0.step)⟩
           ·rw [if_neg c12] at H
            have c12b0 : (x7_1 == 8) = false:=beq_eq_false_iff_ne.mpr c12
            have c12b1 : (x7_1 != 8) = true:=bne_iff_ne.mpr c12
            have H':=Aside0.mk H
            clear H
            go_wp2
            go_meet
            case rel => exact ⟨_,(false),(by first|rfl|(simp;done)|(simp;decide +kernel)|(simp [*];done)),(by first|exact H'|(subst_vars;exact H')),⟨by have:=HK1.out;have:=HJ2.out;first|omega|exact Nat.le_refl _⟩,by repeat (first|exact Drawn0.refl _|apply Drawn0.step)⟩
          ·rw [if_neg c11] at H
           have c11b0 : decide (0 < (wrap64 (Int.tmod (rd l0 x7_1) 128))) = false:=decide_eq_false c11
           clear c11
           (first|rw [c11b0]|(simp only [i64_w,i32_w];rw [c11b0])|skip)
           have H':=Aside0.mk H
           clear H
           go_wp2
           go_meet
           case rel => exact ⟨_,(false),(by first|rfl|(simp;done)|(simp;decide +kernel)|(simp [*];done)),(by first|exact H'|(subst_vars;exact H')),⟨by have:=HK1.out;have:=HJ2.out;first|omega|exact Nat.le_refl _⟩,by repeat (first|exact Drawn0.refl _|apply Drawn0.step)⟩
         case rest =>
          clear HC10
          try clear c1
          try clear c2
          try clear c2b0
          try clear p2
          try clear p3
          try clear q3
          try clear hx3
          try clear c4
          try clear c4b0
          try clear c4b1
          try clear c5
          try clear c5b0
          try clear c6
          try clear c6b0
          try clear p6
          try clear c7
          try clear c8
          try clear c8b0
          try clear c9
          try clear c9b0
          try clear c11
          try clear c11b0
          try clear c12
          try clear c12b0
          try clear c12b1
          try clear c13
          try clear c13b0
          try clear c14
          try clear c14b0
          try clear c14b1
          try clear hx347_0
          try clear hx348_0
          try clear p2
          try clear p3
          try clear p347
          try clear p348
          try clear q3
          try clear q347
          try clear q348
          obtain ⟨kq,x55_9,rfl,HA,HJ9,⟨mc9,rfl⟩⟩:=hcut
          cases kq with
          | zero => exact absurd HA.out (by simp [racewayref01_ReadNum.j2])
          | succ kj9 =>
           have H:=HA.out
           clear HA
           simp only [racewayref01_ReadNum.j2] at H
           by_cases c15 : x55_9 = true
           ·subst c15
            have H1 : (some (0,0,5)) = some (r1,r2,r3):=by rw [if_pos rfl] at H;exact H
            clear H
            have H:=H1
            clear H1
            simp only [Option.some.injEq,Prod.mk.injEq] at H
            obtain ⟨rfl,rfl,rfl⟩:=H
            go_wp2
            go_ret3
            exact ⟨by first|rfl|(simp;done)|(simp;decide +kernel)|(simp [*];done),by repeat (first|exact Drawn0.refl _|apply Drawn0.step)⟩
           ·replace c15:=Bool.eq_false_iff.mpr c15
            subst c15
            have H1 : (if 0 ≤ x7_1 then (if x7_1 < (l0.length : Int) then (if (rd l0 x7_1) < 128 then (some (wrap64 (x5_1 + (wrap64 ((wrap64 (Int.tmod (rd l0 x7_1) 128)) * x6_1))),wrap64 (x7_1 + 1),0)) else (if x7_1 < 8 then (racewayref01_ReadNum.l0 kj9 l0 (wrap64 (x5_1 + (wrap64 ((wrap64 (Int.tmod (rd l0 x7_1) 128)) * x6_1)))) (wrap64 (x6_1 * 128)) (wrap64 (x7_1 + 1))) else (racewayref01_ReadNum.l0 kj9 l0 (wrap64 (x5_1 + (wrap64 ((wrap64 (Int.tmod (rd l0 x7_1) 128)) * x6_1)))) x6_1 (wrap64 (x7_1 + 1))))) else (none)) else (none)) = some (r1,r2,r3):=by rw [if_neg (show ¬ (false = true) by decide)] at H;exact H
            clear H
            have H:=H1
            clear H1
            by_cases c16 : 0 ≤ x7_1
            ·rw [if_pos c16] at H
             have c16b0 : decide (0 ≤ x7_1) = true:=decide_eq_true c16
             clear c16
             by_cases c17 : x7_1 < (l0.length : Int)
             ·rw [if_pos c17] at H
              have c17b0 : decide (x7_1 < (l0.length : Int)) = true:=decide_eq_true c17
              clear c17
              by_cases c18 : (rd l0 x7_1) < 128
              ·rw [if_pos c18] at H
               have c18b0 : decide ((rd l0 x7_1) < 128) = true:=decide_eq_true c18
               clear c18
               simp only [Option.some.injEq,Prod.mk.injEq] at H
               obtain ⟨rfl,rfl,rfl⟩:=H
               have p349 : 0 ≤ (x7_1 : Int):=of_decide_eq_true (by first|(with_reducible assumption)|assumption)
               have q349 : x7_1 < (l0.length : Int):=of_decide_eq_true (by first|(with_reducible assumption)|assumption)
               obtain ⟨ad349,e349,hx349_0⟩:=Kd.at_int HR0.out x7_1 p349 q349
               obtain rfl : ad348 = ad349:=(by injection e349)
               replace p349:=eq_true p349
               replace q349:=eq_true q349
               go_wp2
               go_ret3
               exact ⟨by first|rfl|(simp;done)|(simp;decide +kernel)|(simp [*];done),by repeat (first|exact Drawn0.refl _|apply Drawn0.step)⟩
              ·rw [if_neg c18] at H
               have c18b0 : decide ((rd l0 x7_1) < 128) = false:=decide_eq_false c18
               clear c18
               by_cases c19 : x7_1 < 8
               ·rw [if_pos c19] at H
                have c19b0 : decide (x7_1 < 8) = true:=decide_eq_true c19
                clear c19
                have H':=Aside0.mk H
                clear H
                have p349 : 0 ≤ (x7_1 : Int):=of_decide_eq_true (by first|(with_reducible assumption)|assumption)
                have q349 : x7_1 < (l0.length : Int):=of_decide_eq_true (by first|(with_reducible assumption)|assumption)
                obtain ⟨ad349,e349,hx349_0⟩:=Kd.at_int HR0.out x7_1 p349 q349
                obtain rfl : ad348 = ad349:=(by injection e349)
                replace p349:=eq_true p349
                replace q349:=eq_true q349
                go_wp2
                go_roundg kj9
                case measure => have:=HK1.out;have:=HJ2.out;have:=HJ9.out;omega
                case rel => exact ⟨(wrap64 (x5_1 + (wrap64 ((wrap64 (Int.tmod (rd l0 x7_1) 128)) * x6_1)))),(wrap64 (x6_1 * 128)),(wrap64 (x7_1 + 1)),(by first|rfl|(simp;done)|(simp;decide +kernel)|(simp [*];done)),(by first|rfl|(simp;done)|(simp;decide +kernel)|(simp [*];done)),(by first|rfl|(simp;done)|(simp;decide +kernel)|(simp [*];done)),(by first|exact H'|(subst_vars;exact H')),⟨by have:=HK1.out;have:=HJ2.out;have:=HJ9.out;omega⟩,by repeat (first|exact Drawn0.refl _|apply Drawn0.step)⟩
               ·rw [if_neg c19] at H
                have c19b0 : decide (x7_1 < 8) = false:=decide_eq_false c19
                clear c19
                have H':=Aside0.mk H
                clear H
                have p349 : 0 ≤ (x7_1 : Int):=of_decide_eq_true (by first|(with_reducible assumption)|assumption)
                have q349 : x7_1 < (l0.length : Int):=of_decide_eq_true (by first|(with_reducible assumption)|assumption)
                obtain ⟨ad349,e349,hx349_0⟩:=Kd.at_int HR0.out x7_1 p349 q349
                obtain rfl : ad348 = ad349:=(by injection e349)
                replace p349:=eq_true p349
                replace q349:=eq_true q349
                go_wp2
                go_roundg kj9
                case measure => have:=HK1.out;have:=HJ2.out;have:=HJ9.out;omega
                case rel => exact ⟨(wrap64 (x5_1 + (wrap64 ((wrap64 (Int.tmod (rd l0 x7_1) 128)) * x6_1)))),(x6_1),(wrap64 (x7_1 + 1)),(by first|rfl|(simp;done)|(simp;decide +kernel)|(simp [*];done)),(by first|rfl|(simp;done)|(simp;decide +kernel)|(simp [*];done)),(by first|rfl|(simp;done)|(simp;decide +kernel)|(simp [*];done)),(by first|exact H'|(subst_vars;exact H')),⟨by have:=HK1.out;have:=HJ2.out;have:=HJ9.out;omega⟩,by repeat (first|exact Drawn0.refl _|apply Drawn0.step)⟩
             ·rw [if_neg c17] at H
              exact absurd H (by simp)
            ·rw [if_neg c16] at H
             exact absurd H (by simp)
        ·rw [if_neg c9] at H
         exact absurd H (by simp)
       ·rw [if_neg c8] at H
        exact absurd H (by simp)
   ·rw [if_neg c2] at H
    have c2b0 : decide (x7_1 < (l0.length : Int)) = false:=decide_eq_false c2
    clear c2
    simp only [Option.some.injEq,Prod.mk.injEq] at H
    obtain ⟨rfl,rfl,rfl⟩:=H
    go_wp2
    go_ret3
    exact ⟨by first|rfl|(simp;done)|(simp;decide +kernel)|(simp [*];done),by repeat (first|exact Drawn0.refl _|apply Drawn0.step)⟩
end Go.Proofs.YtedfgkjimnjdpaaDoor.X
namespace Go.Proofs.YtedfgkjimnjdpaaDoor.X
open Go.RowKit Go.Proofs.YtedfgkjimnjdpaaDoorW.PrintWords Go.Proofs.YtedfgkjimnjdpaaDoorW.PrintLast Go.Proofs.YtedfgkjimnjdpaaDoorW.PrintMore
attribute [local go_sem] max2_int min2_int max_two min_two max_three min_three max_four min_four
set_option linter.unusedVariables false
set_option linter.unusedSimpArgs false
def racewayref01_ReadText.f (k : Nat) (l0 : List Int) : Option (ByteArray × Int × Int):=(racewayref01_ReadNum.f k l0).bind fun bt350 => (if bt350.2.2 = 0 then (if bt350.1 > 4096 then (some ((⟨#[]⟩ : ByteArray),0,3)) else (if (wrap64 ((l0.length : Int) - bt350.2.1)) < bt350.1 then (some ((⟨#[]⟩ : ByteArray),0,4)) else (if 0 ≤ bt350.2.1 then (if bt350.2.1 ≤ (wrap64 (bt350.2.1 + bt350.1)) then (if (wrap64 (bt350.2.1 + bt350.1)) ≤ (l0.length : Int) then (some (strOfNums ((l0.take ((wrap64 (bt350.2.1 + bt350.1)) : Int).toNat).drop (bt350.2.1 : Int).toNat),wrap64 (bt350.2.1 + bt350.1),0)) else (none)) else (none)) else (none)))) else (some ((⟨#[]⟩ : ByteArray),0,bt350.2.2)))
set_option maxHeartbeats 8000000 in
set_option maxRecDepth 100000 in
theorem racewayref01_ReadText.calls (k : Nat) (A0 : Option Addr) (c0 : Nat) (l0 : List Int) (r1 : ByteArray) (r2 : Int) (r3 : Int) (w : World) (hr0 : Kd.C (Kd.int .u8) w A0 l0.length l0) (hc0 : l0.length ≤ c0) (h : racewayref01_ReadText.f k l0 = some (r1,r2,r3)) :
  Calls Tryd.prog 56 #[.slice A0 l0.length c0] w fun e w' => e = .returned (.tuple #[.string r1,.int .i64 r2,.int .i64 r3]) ∧ Drawn0 w w':=by
 have HR0:=Aside0.mk hr0
 have HC0:=Aside0.mk hc0
 clear hr0 hc0
 have H : ((racewayref01_ReadNum.f k l0).bind fun bt350 => (if bt350.2.2 = 0 then (if bt350.1 > 4096 then (some ((⟨#[]⟩ : ByteArray),0,3)) else (if (wrap64 ((l0.length : Int) - bt350.2.1)) < bt350.1 then (some ((⟨#[]⟩ : ByteArray),0,4)) else (if 0 ≤ bt350.2.1 then (if bt350.2.1 ≤ (wrap64 (bt350.2.1 + bt350.1)) then (if (wrap64 (bt350.2.1 + bt350.1)) ≤ (l0.length : Int) then (some (strOfNums ((l0.take ((wrap64 (bt350.2.1 + bt350.1)) : Int).toNat).drop (bt350.2.1 : Int).toNat),wrap64 (bt350.2.1 + bt350.1),0)) else (none)) else (none)) else (none)))) else (some ((⟨#[]⟩ : ByteArray),0,bt350.2.2)))) = some (r1,r2,r3):=h
 clear h
 replace H:=Option.bind_eq_some_iff.mp H
 obtain ⟨⟨t350,t351,t352⟩,A20,H⟩:=H
 replace H : (if t352 = 0 then (if t350 > 4096 then (some ((⟨#[]⟩ : ByteArray),0,3)) else (if (wrap64 ((l0.length : Int) - t351)) < t350 then (some ((⟨#[]⟩ : ByteArray),0,4)) else (if 0 ≤ t351 then (if t351 ≤ (wrap64 (t351 + t350)) then (if (wrap64 (t351 + t350)) ≤ (l0.length : Int) then (some (strOfNums ((l0.take ((wrap64 (t351 + t350)) : Int).toNat).drop (t351 : Int).toNat),wrap64 (t351 + t350),0)) else (none)) else (none)) else (none)))) else (some ((⟨#[]⟩ : ByteArray),0,t352))) = some (r1,r2,r3):=H
 have A2:=Aside0.mk A20
 clear A20
 by_cases c3 : t352 = 0
 ·rw [if_pos c3] at H
  have c3b0 : (t352 == 0) = true:=beq_iff_eq.mpr c3
  have c3b1 : (t352 != 0) = false:=bne_eq_false_iff_eq.mpr c3
  clear c3
  by_cases c4 : t350 > 4096
  ·rw [if_pos c4] at H
   have c4b0 : decide (4096 < t350) = true:=decide_eq_true c4
   clear c4
   simp only [Option.some.injEq,Prod.mk.injEq] at H
   obtain ⟨rfl,rfl,rfl⟩:=H
   go_enter Tryd.func56,Tryd.ntmps56
   go_wp2_with (first|((with_reducible refine gate_callee (f:=55) rfl ?_);refine goesL_ (some 10) rfl rfl Tryd.func55 (by kernel_rfl) rfl #[.slice A0 l0.length c0] rfl (by (try simp only [List.map_toArray,List.map_cons,List.map_nil]);first|done|rfl|(simp only [List.length_drop,List.length_take];rfl)) ?_;(with_reducible refine (racewayref01_ReadNum.calls k _ _ l0 t350 t351 t352 _ ?side1 ?side2 A2.out).mono ?_);(case side1 => repeat (first|exact HR0.out|(with_reducible refine Kd.C_alloc ?_ _)|(with_reducible refine Kd.C_drewN ?_ _)|(with_reducible refine Kd.C_drew ?_)));(case side2 => exact HC0.out);rintro e w' ⟨rfl,⟨nd,rfl⟩⟩;refine ⟨_,rfl,?_⟩))
   go_ret3
   exact ⟨by first|rfl|(simp;done)|(simp;decide +kernel)|(simp [*];done),by repeat (first|exact Drawn0.refl _|apply Drawn0.step)⟩
  ·rw [if_neg c4] at H
   have c4b0 : decide (4096 < t350) = false:=decide_eq_false c4
   clear c4
   by_cases c5 : (wrap64 ((l0.length : Int) - t351)) < t350
   ·rw [if_pos c5] at H
    have c5b0 : decide ((wrap64 ((l0.length : Int) - t351)) < t350) = true:=decide_eq_true c5
    clear c5
    simp only [Option.some.injEq,Prod.mk.injEq] at H
    obtain ⟨rfl,rfl,rfl⟩:=H
    go_enter Tryd.func56,Tryd.ntmps56
    go_wp2_with (first|((with_reducible refine gate_callee (f:=55) rfl ?_);refine goesL_ (some 10) rfl rfl Tryd.func55 (by kernel_rfl) rfl #[.slice A0 l0.length c0] rfl (by (try simp only [List.map_toArray,List.map_cons,List.map_nil]);first|done|rfl|(simp only [List.length_drop,List.length_take];rfl)) ?_;(with_reducible refine (racewayref01_ReadNum.calls k _ _ l0 t350 t351 t352 _ ?side1 ?side2 A2.out).mono ?_);(case side1 => repeat (first|exact HR0.out|(with_reducible refine Kd.C_alloc ?_ _)|(with_reducible refine Kd.C_drewN ?_ _)|(with_reducible refine Kd.C_drew ?_)));(case side2 => exact HC0.out);rintro e w' ⟨rfl,⟨nd,rfl⟩⟩;refine ⟨_,rfl,?_⟩))
    go_ret3
    exact ⟨by first|rfl|(simp;done)|(simp;decide +kernel)|(simp [*];done),by repeat (first|exact Drawn0.refl _|apply Drawn0.step)⟩
   ·rw [if_neg c5] at H
    have c5b0 : decide ((wrap64 ((l0.length : Int) - t351)) < t350) = false:=decide_eq_false c5
    clear c5
    by_cases c6 : 0 ≤ t351
    ·rw [if_pos c6] at H
     have c6b0:=eq_true c6
     have c6b1 : decide (0 ≤ t351) = true:=decide_eq_true c6
     clear c6
     by_cases c7 : t351 ≤ (wrap64 (t351 + t350))
     ·rw [if_pos c7] at H
      have c7b0:=eq_true c7
      have c7b1 : decide (t351 ≤ (wrap64 (t351 + t350))) = true:=decide_eq_true c7
      by_cases c8 : (wrap64 (t351 + t350)) ≤ (l0.length : Int)
      ·rw [if_pos c8] at H
       have c8b0:=eq_true c8
       have c8b1 : decide ((wrap64 (t351 + t350)) ≤ (l0.length : Int)) = true:=decide_eq_true c8
       simp only [Option.some.injEq,Prod.mk.injEq] at H
       obtain ⟨rfl,rfl,rfl⟩:=H
       go_enter Tryd.func56,Tryd.ntmps56
       go_wp2_with (first|((with_reducible refine gate_callee (f:=55) rfl ?_);refine goesL_ (some 10) rfl rfl Tryd.func55 (by kernel_rfl) rfl #[.slice A0 l0.length c0] rfl (by (try simp only [List.map_toArray,List.map_cons,List.map_nil]);first|done|rfl|(simp only [List.length_drop,List.length_take];rfl)) ?_;(with_reducible refine (racewayref01_ReadNum.calls k _ _ l0 t350 t351 t352 _ ?side1 ?side2 A2.out).mono ?_);(case side1 => repeat (first|exact HR0.out|(with_reducible refine Kd.C_alloc ?_ _)|(with_reducible refine Kd.C_drewN ?_ _)|(with_reducible refine Kd.C_drew ?_)));(case side2 => exact HC0.out);rintro e w' ⟨rfl,⟨nd,rfl⟩⟩;refine ⟨_,rfl,?_⟩;obtain ⟨i09,hi09,_,hsz9,_⟩:=info_parts info5;obtain ⟨A9,hcut9,hA9,hC9⟩:=print_mid_of (P:=Tryd.prog) (Value.int .u8) 0 49 5 .i64 .i64 Tryd.underlying49 hi09 hsz9 A0 c0 l0 t351 (wrap64 (t351 + t350)) (of_decide_eq_true (by first|(with_reducible assumption)|assumption)) (by first|omega|exact of_decide_eq_true (by first|(with_reducible assumption)|assumption)) (of_decide_eq_true (by first|(with_reducible assumption)|assumption)) HC0.out;have HR353:=Aside0.mk (Kd.C_of_reads (h1:=fun _ => rfl) (hA9 _ (Kd.reads_of_C HR0.out)));have HC353:=Aside0.mk hC9;clear hA9 hC9 hi09 hsz9;have hcv10:=Kd.C_string (P:=Tryd.prog) (A:=A9) (c:=(c0 - t351.toNat)) Tryd.underlying49 Tryd.underlying5 Tryd.underlying9 HR353.out;have hcv10d:=fun n => Kd.C_string (P:=Tryd.prog) (A:=A9) (c:=(c0 - t351.toNat)) Tryd.underlying49 Tryd.underlying5 Tryd.underlying9 (Kd.C_drewN HR353.out n);have hcv10l : ((wrap64 (t351 + t350))).toNat ≤ List.length l0:=Int.toNat_le.mpr (of_decide_eq_true (by first|(with_reducible assumption)|assumption));simp only [List.length_drop,List.length_take,Nat.min_eq_left hcv10l] at hcv10 hcv10d;clear hcv10l))
       go_ret3
       exact ⟨by first|rfl|(simp;done)|(simp;decide +kernel)|(simp [*];done),by repeat (first|exact Drawn0.refl _|apply Drawn0.step)⟩
      ·rw [if_neg c8] at H
       exact absurd H (by simp)
     ·rw [if_neg c7] at H
      exact absurd H (by simp)
    ·rw [if_neg c6] at H
     exact absurd H (by simp)
 ·rw [if_neg c3] at H
  have c3b0 : (t352 == 0) = false:=beq_eq_false_iff_ne.mpr c3
  have c3b1 : (t352 != 0) = true:=bne_iff_ne.mpr c3
  simp only [Option.some.injEq,Prod.mk.injEq] at H
  obtain ⟨rfl,rfl,rfl⟩:=H
  go_enter Tryd.func56,Tryd.ntmps56
  go_wp2_with (first|((with_reducible refine gate_callee (f:=55) rfl ?_);refine goesL_ (some 10) rfl rfl Tryd.func55 (by kernel_rfl) rfl #[.slice A0 l0.length c0] rfl (by (try simp only [List.map_toArray,List.map_cons,List.map_nil]);first|done|rfl|(simp only [List.length_drop,List.length_take];rfl)) ?_;(with_reducible refine (racewayref01_ReadNum.calls k _ _ l0 t350 t351 t352 _ ?side1 ?side2 A2.out).mono ?_);(case side1 => repeat (first|exact HR0.out|(with_reducible refine Kd.C_alloc ?_ _)|(with_reducible refine Kd.C_drewN ?_ _)|(with_reducible refine Kd.C_drew ?_)));(case side2 => exact HC0.out);rintro e w' ⟨rfl,⟨nd,rfl⟩⟩;refine ⟨_,rfl,?_⟩))
  go_ret3
  exact ⟨by first|rfl|(simp;done)|(simp;decide +kernel)|(simp [*];done),by repeat (first|exact Drawn0.refl _|apply Drawn0.step)⟩
end Go.Proofs.YtedfgkjimnjdpaaDoor.X
namespace Go.Proofs.YtedfgkjimnjdpaaDoor.X
open Go.RowKit Go.Proofs.YtedfgkjimnjdpaaDoorW.PrintWords Go.Proofs.YtedfgkjimnjdpaaDoorW.PrintLast Go.Proofs.YtedfgkjimnjdpaaDoorW.PrintMore
set_option linter.unusedVariables false
set_option linter.unusedSimpArgs false
def racewayref27_Open.g4 (k : Nat) (s : ByteArray) (q : Int) (g : ByteArray) (u c : Int) : Option (Int × ByteArray × Int × Int × Int) :=
 (racewayref27_Handle.f k q g u c).bind fun h => if h.2 = 0 then (if h.1.toList = s.toList then some (q,g,u,c,0) else some ((0,⟨#[]⟩,0,0,12) : Int × ByteArray × Int × Int × Int)) else some ((0,⟨#[]⟩,0,0,12) : Int × ByteArray × Int × Int × Int)
def racewayref27_Open.g3 (k : Nat) (s : ByteArray) (b : List Int) (q : Int) (g : ByteArray) (u : Int) (p : Int) : Option (Int × ByteArray × Int × Int × Int) :=
 if 0 ≤ p ∧ p ≤ b.length then (racewayref01_ReadNum.f k (b.drop p.toNat)).bind fun n => if n.2.2 = 0 then racewayref27_Open.g4 k s q g u n.1 else some ((0,⟨#[]⟩,0,0,12) : Int × ByteArray × Int × Int × Int) else none
def racewayref27_Open.g2 (k : Nat) (s : ByteArray) (b : List Int) (q : Int) (g : ByteArray) (p : Int) : Option (Int × ByteArray × Int × Int × Int) :=
 if 0 ≤ p ∧ p ≤ b.length then (racewayref01_ReadNum.f k (b.drop p.toNat)).bind fun n => if n.2.2 = 0 then racewayref27_Open.g3 k s b q g n.1 (p + n.2.1) else some ((0,⟨#[]⟩,0,0,12) : Int × ByteArray × Int × Int × Int) else none
def racewayref27_Open.g1 (k : Nat) (s : ByteArray) (b : List Int) (q : Int) (p : Int) : Option (Int × ByteArray × Int × Int × Int) :=
 if 0 ≤ p ∧ p ≤ b.length then (racewayref01_ReadText.f k (b.drop p.toNat)).bind fun t => if t.2.2 = 0 then racewayref27_Open.g2 k s b q t.1 (p + t.2.1) else some ((0,⟨#[]⟩,0,0,12) : Int × ByteArray × Int × Int × Int) else none
def racewayref27_Open.f (k : Nat) (s : ByteArray) : Option (Int × ByteArray × Int × Int × Int) :=
 (racewayref22_Decode.f k s).bind fun d => if d.2 = 0 then (racewayref02_Next.f k d.1 0).bind fun x => (if x.2.2 = 0 then (if x.1.length ≤ 1000000 then (racewayref01_ReadNum.f k x.1).bind fun n => (if n.2.2 = 0 then racewayref27_Open.g1 k s x.1 n.1 n.2.1 else some ((0,⟨#[]⟩,0,0,12) : Int × ByteArray × Int × Int × Int)) else none) else some ((0,⟨#[]⟩,0,0,12) : Int × ByteArray × Int × Int × Int)) else some ((0,⟨#[]⟩,0,0,12) : Int × ByteArray × Int × Int × Int)
structure OrI (wN W : World) (vs : List Value) : Prop where
 N : Below wN.heap.size wN W
 r : W.heap[wN.heap.size]? = some (.cells vs.toArray 39 (0,0))
theorem OrI.set {wN W : World} {vs : List Value} (h : OrI wN W vs) (o : Nat) (y : Value) (ho : o < vs.length) : OrI wN (W.setCell ⟨wN.heap.size,o,none⟩ y) (vs.set o y) :=
 ⟨h.N.setCell (Nat.le_refl _) _,set_field o y ho h.r⟩
theorem OrI.drawn {wN W W' : World} {vs : List Value} (h : OrI wN W vs) (hd : Drawn0 W W') : OrI wN W' vs :=
 ⟨below_step h.N hd.below,by rw [drawn_heap hd];exact h.r⟩
theorem OrI.at2 {wN W : World} {vs : List Value} (h : OrI wN W vs) (o : Nat) (x : Value) (hx : vs[o]? = some x) : W.cell? ⟨wN.heap.size,o,none⟩ = some x ∧ W.frozen? ⟨wN.heap.size,o,none⟩ = false :=
 ⟨(blk_cell h.r o).trans (by rw [List.getElem?_toArray];exact hx),blk_frozen h.r _⟩
set_option maxHeartbeats 8000000 in
set_option maxRecDepth 100000 in
theorem racewayref27_Open.calls (k : Nat) (a0 : ByteArray) (r1 : Int) (r2 : ByteArray) (r3 r4 r5 : Int) (w : World) (h : racewayref27_Open.f k a0 = some (r1,r2,r3,r4,r5)) :
  Calls Tryd.prog 23 #[.string a0] w fun e w' => e = .returned (.tuple #[.agg #[.int .i64 r1,.string r2,.int .i64 r3,.int .i64 r4],.int .i64 r5]) ∧ Below w.heap.size w w':=by
 change Calls Tryd.prog 23 #[.string a0] w fun e w' => e = .returned (.tuple #[.agg (vR r1 r2 r3 r4).toArray,.int .i64 r5]) ∧ Below w.heap.size w w'
 unfold racewayref27_Open.f at h
 obtain ⟨⟨f,e1⟩,hd,h⟩:=Option.bind_eq_some_iff.mp h
 have HD:=Lib.hid hd
 clear hd
 simp only at h
 go_enter Tryd.func23,Tryd.ntmps23
 go_upto_region 2 with (go_at_call 53;refine (racewayref22_Decode.calls k a0 f e1 _ HD.out).mono ?_;rintro e w1 ⟨v1,rfl,ho1,hb1⟩)
 obtain ⟨Z,hZ⟩ : ∃ Z,w.alloc (.cells (vR 0 ⟨#[]⟩ 0 0).toArray 39 (0,0)) = Z:=⟨_,rfl⟩
 have hz : Z.heap[w.heap.size]? = some (.cells (vR 0 ⟨#[]⟩ 0 0).toArray 39 (0,0)):=by rw [← hZ];exact heap_alloc_new w _
 have hbz : Below w.heap.size w Z:=by rw [← hZ];exact (Below.refl _ _).alloc (Nat.le_refl _) _
 have hb1' : Below Z.heap.size Z w1:=by rw [← hZ];exact hb1
 have H1:=Lib.hid (blk_below hz hb1')
 have HBW:=Lib.hid (below_step hbz hb1')
 obtain ⟨A1,c1,rfl⟩:=Kd.R_slice ho1
 have HR1:=Lib.hid (Kd.R_reads' ho1)
 clear hb1 ho1 hb1' hZ hz hbz
 by_cases he1 : e1 = 0
 ·subst he1
  rw [if_pos rfl] at h
  obtain ⟨⟨b,x,e2⟩,hn,h⟩:=Option.bind_eq_some_iff.mp h
  have HN:=Lib.hid hn
  clear hn
  simp only at h
  go_upto_region 5 with (go_at_call 54;refine (racewayref02_Next.calls k A1 c1 f 0 b x e2 _ HR1.out.2.2 HR1.out.2.1 HN.out).mono ?_;rintro e w3 ⟨v3,rfl,ho3,hb3⟩)
  obtain ⟨A3,c3,rfl⟩:=Kd.R_slice ho3
  have hr3:=Kd.R_reads' ho3
  have HC3:=Lib.hid hr3
  have H13:=Lib.hid (blk_below H1.out hb3)
  have HB13:=Lib.hid (below_step HBW.out hb3)
  clear ho3 hb3 hr3 H1 HBW
  by_cases he2 : e2 = 0
  ·subst he2
   rw [if_pos rfl] at h
   by_cases hbl : b.length ≤ 1000000
   ·rw [if_pos hbl] at h
    have HBL:=Lib.hid hbl
    clear hbl
    obtain ⟨⟨q,p1,e3⟩,hq,h⟩:=Option.bind_eq_some_iff.mp h
    have HQ:=Lib.hid hq
    clear hq
    simp only at h
    go_upto_region 8 with (fail)
    obtain ⟨W4,hW4⟩ : ∃ W4,(w3.alloc (Obj.cells #[Value.int IntKind.i64 0,Value.string ⟨#[]⟩,Value.int IntKind.i64 0,Value.int IntKind.i64 0] 39 (0,0))) = W4:=⟨_,rfl⟩
    have HI:=Lib.hid (show OrI w3 W4 (vR 0 ⟨#[]⟩ 0 0) by
     rw [← hW4]
     exact ⟨(Below.refl _ _).alloc (Nat.le_refl _) _,heap_alloc_new w3 _⟩)
    rw [hW4]
    clear hW4
    go_upto_region 9 with (go_at_call 55;refine (racewayref01_ReadNum.calls k A3 c3 b q p1 e3 _ (Kd.C_below HC3.out.2.2 HI.out.N) HC3.out.2.1 HQ.out).mono ?_;rintro e w5 ⟨rfl,hd5⟩)
    have HI5:=Lib.hid (HI.out.drawn hd5)
    clear HI hd5
    by_cases he3 : e3 = 0
    ·subst he3
     rw [if_pos rfl] at h
     unfold racewayref27_Open.g1 at h
     by_cases hp1 : 0 ≤ p1 ∧ p1 ≤ b.length
     ·rw [if_pos hp1] at h
      obtain ⟨m1,rfl⟩:=Int.eq_ofNat_of_zero_le hp1.1
      have HP1:=Lib.hid (show m1 ≤ b.length by have:=hp1.2;omega)
      clear hp1
      obtain ⟨⟨g,p2,e4⟩,ht,h⟩:=Option.bind_eq_some_iff.mp h
      rw [Int.toNat_natCast] at ht
      simp only at h
      obtain ⟨A5,hcut,hA5,hC5⟩:=cut_drop A3 c3 b m1 HP1.out HC3.out.2.1
      obtain ⟨D1,hD1⟩ : ∃ D,b.drop m1 = D:=⟨_,rfl⟩
      rw [hD1] at hcut hA5 hC5 ht
      have HT:=Lib.hid ht
      have HA5:=Lib.hid (hA5 w3 HC3.out.2.2)
      have HC5:=Lib.hid hC5
      clear ht hA5 hC5 hD1
      have y1:=(HI5.out.at2 0 (.int .i64 0) rfl).1
      have y2:=(HI5.out.at2 0 (.int .i64 0) rfl).2
      have HI6:=Lib.hid (HI5.out.set 0 (.int .i64 q) (by simp [vR]))
      go_upto_region 12 with (fail)
      clear y1 y2 HI5
      generalize World.setCell w5 _ _ = w6 at *
      go_upto_region 13 with (go_at_call 56;refine (racewayref01_ReadText.calls k A5 (c3 - m1) D1 g p2 e4 _ (Kd.C_below HA5.out HI6.out.N) HC5.out HT.out).mono ?_;rintro e w7 ⟨rfl,hd7⟩)
      have HI7:=Lib.hid (HI6.out.drawn hd7)
      clear HI6 hd7 hcut
      by_cases he4 : e4 = 0
      ·subst he4
       rw [if_pos rfl] at h
       unfold racewayref27_Open.g2 at h
       by_cases hp2 : 0 ≤ (m1 : Int) + p2 ∧ (m1 : Int) + p2 ≤ b.length
       ·rw [if_pos hp2] at h
        obtain ⟨m2,hm2⟩:=Int.eq_ofNat_of_zero_le hp2.1
        have hmb : m2 ≤ b.length:=by have:=hp2.2;omega
        have HP2:=Lib.hid hmb
        obtain ⟨⟨u,p3,e5⟩,ht,h⟩:=Option.bind_eq_some_iff.mp h
        have hbl:=HBL.out
        have hws : wrap64 ((m1 : Int) + p2) = (m2 : Int):=by rw [hm2];exact w64 (by omega) (by omega)
        have hws' : IntKind.i64.wrap ((m1 : Int) + p2) = (m2 : Int):=by rw [i64_w];exact hws
        rw [hm2] at h ht
        rw [Int.toNat_natCast] at ht
        simp only at h
        obtain ⟨A6,hcut,hA6,hC6⟩:=cut_drop A3 c3 b m2 HP2.out HC3.out.2.1
        obtain ⟨D2,hD2⟩ : ∃ D,b.drop m2 = D:=⟨_,rfl⟩
        rw [hD2] at hcut hA6 hC6 ht
        have HT2:=Lib.hid ht
        have HA6:=Lib.hid (hA6 w3 HC3.out.2.2)
        have HC6:=Lib.hid hC6
        clear ht hA6 hC6 hD2 hp2 hm2 hbl hmb
        have y1:=(HI7.out.at2 1 (.string ⟨#[]⟩) rfl).1
        have y2:=(HI7.out.at2 1 (.string ⟨#[]⟩) rfl).2
        have HI8:=Lib.hid (HI7.out.set 1 (.string g) (by simp [vR]))
        go_upto_region 16 with (fail)
        clear y1 y2 HI7
        generalize World.setCell w7 _ _ = w8 at *
        go_upto_region 17 with (fail)
        clear hws hws'
        go_upto_region 18 with (go_at_call 55;refine (racewayref01_ReadNum.calls k A6 (c3 - m2) D2 u p3 e5 _ (Kd.C_below HA6.out HI8.out.N) HC6.out HT2.out).mono ?_;rintro e w9 ⟨rfl,hd9⟩)
        have HI9:=Lib.hid (HI8.out.drawn hd9)
        clear HI8 hd9 hcut
        by_cases he5 : e5 = 0
        ·subst he5
         rw [if_pos rfl] at h
         unfold racewayref27_Open.g3 at h
         by_cases hp3 : 0 ≤ (m2 : Int) + p3 ∧ (m2 : Int) + p3 ≤ b.length
         ·rw [if_pos hp3] at h
          obtain ⟨m3,hm3⟩:=Int.eq_ofNat_of_zero_le hp3.1
          have hmb : m3 ≤ b.length:=by have:=hp3.2;omega
          have HP3:=Lib.hid hmb
          obtain ⟨⟨c,p4,e6⟩,ht,h⟩:=Option.bind_eq_some_iff.mp h
          have hbl:=HBL.out
          have hws : wrap64 ((m2 : Int) + p3) = (m3 : Int):=by rw [hm3];exact w64 (by omega) (by omega)
          have hws' : IntKind.i64.wrap ((m2 : Int) + p3) = (m3 : Int):=by rw [i64_w];exact hws
          rw [hm3] at ht
          rw [Int.toNat_natCast] at ht
          simp only at h
          obtain ⟨A7,hcut,hA7,hC7⟩:=cut_drop A3 c3 b m3 HP3.out HC3.out.2.1
          obtain ⟨D3,hD3⟩ : ∃ D,b.drop m3 = D:=⟨_,rfl⟩
          rw [hD3] at hcut hA7 hC7 ht
          have HT3:=Lib.hid ht
          have HA7:=Lib.hid (hA7 w3 HC3.out.2.2)
          have HC7:=Lib.hid hC7
          clear ht hA7 hC7 hD3 hp3 hm3 hbl hmb
          have y1:=(HI9.out.at2 2 (.int .i64 0) rfl).1
          have y2:=(HI9.out.at2 2 (.int .i64 0) rfl).2
          have HI10:=Lib.hid (HI9.out.set 2 (.int .i64 u) (by simp [vR]))
          go_upto_region 21 with (fail)
          clear y1 y2 HI9
          generalize World.setCell w9 _ _ = w10 at *
          go_upto_region 22 with (fail)
          clear hws hws'
          go_upto_region 23 with (go_at_call 55;refine (racewayref01_ReadNum.calls k A7 (c3 - m3) D3 c p4 e6 _ (Kd.C_below HA7.out HI10.out.N) HC7.out HT3.out).mono ?_;rintro e w11 ⟨rfl,hd11⟩)
          have HI11:=Lib.hid (HI10.out.drawn hd11)
          clear HI10 hd11 hcut
          by_cases he6 : e6 = 0
          ·subst he6
           rw [if_pos rfl] at h
           unfold racewayref27_Open.g4 at h
           obtain ⟨⟨hh,e7⟩,ht,h⟩:=Option.bind_eq_some_iff.mp h
           have HT4:=Lib.hid ht
           clear ht
           simp only at h
           have y1:=(HI11.out.at2 3 (.int .i64 0) rfl).1
           have y2:=(HI11.out.at2 3 (.int .i64 0) rfl).2
           have HI12:=HI11.out.set 3 (.int .i64 c) (by simp [vR])
           go_upto_region 26 with (fail)
           clear y1 y2 HI11
           generalize World.setCell w11 _ _ = w12 at *
           change OrI w3 w12 (vR q g u c) at HI12
           have hl:=load_R HI12.r
           refine wp_region_lit ?_
           refine wpList_load_at rfl _ _ rfl _ rfl _ hl ?_
           refine goesL_ (some 89) rfl rfl Tryd.func21 (by kernel_rfl) rfl #[.agg (vR q g u c).toArray] rfl (by simp only [List.map_toArray,List.map_cons,List.map_nil];rfl) ?_
           refine (racewayref27_Handle.calls k q g u c hh e7 _ HT4.out).mono ?_
           rintro e w13 ⟨rfl,hb13⟩
           refine ⟨_,rfl,?_⟩
           have HI13:=Lib.hid (show OrI w3 w13 (vR q g u c) from ⟨below_step HI12.N hb13,blk_below HI12.r hb13⟩)
           clear HI12 hb13 hl
           iterate 5 (refine wpList_step (fun K hK => ?_);go_simp;refine hK _ _ ?_;clear hK K)
           refine wpList_nil ?_
           by_cases he7 : e7 = 0
           ·subst he7
            rw [if_pos rfl] at h
            by_cases hst : hh.toList = a0.toList
            ·rw [if_pos hst] at h
             have t1 : (hh.toList != a0.toList) = false:=by rw [hst];simp
             have t2 : (hh.toList == a0.toList) = true:=by rw [hst];simp
             obtain ⟨rfl,rfl,rfl,rfl,rfl⟩ : q = r1 ∧ g = r2 ∧ u = r3 ∧ c = r4 ∧ 0 = r5:=by simpa using h
             clear h hst
             go_upto_region 29 with (fail)
             have h1:=blk_below H13.out HI13.out.N
             have hbw:=below_step HB13.out HI13.out.N
             have hl:=load_R HI13.out.r
             refine wp_region_lit ?_
             refine wpList_load_at rfl _ _ rfl _ rfl _ hl ?_
             refine wpList_store_at rfl _ _ _ rfl ⟨w.heap.size,0,none⟩ rfl (.agg (vR q g u c).toArray) rfl (store_R (cs:=vR 0 ⟨#[]⟩ 0 0) rfl h1 q g u c) ?_
             have h2:=set_R (cs:=vR 0 ⟨#[]⟩ 0 0) rfl h1 q g u c
             have hb2:=below_setCells w.heap.size (Nat.le_refl _) (vR q g u c) 0 _ hbw
             simp only [Act.put]
             generalize World.setCells _ w.heap.size 0 (vR q g u c) = w2 at *
             have H2:=Lib.hid h2
             have HB2:=Lib.hid hb2
             clear h1 h2 hb2 hbw hl t1 t2
             refine wpList_step (fun K hK => ?_)
             go_simp
             refine hK _ _ ?_
             clear hK K
             refine wpList_nil ?_
             go_wp2
             exact ⟨rfl,_,results_ct rfl _ _ w.heap.size 39 _ (0,0) _ rfl H2.out Tryd.underlying39 rfl (resR rfl),rfl,HB2.out⟩
            ·have t1 : (hh.toList != a0.toList) = true:=by simpa using hst
             have t2 : (hh.toList == a0.toList) = false:=by simpa using hst
             rw [if_neg hst] at h
             obtain ⟨rfl,rfl,rfl,rfl,rfl⟩ : 0 = r1 ∧ (⟨#[]⟩ : ByteArray) = r2 ∧ 0 = r3 ∧ 0 = r4 ∧ 12 = r5:=by simpa using h
             clear h hst
             go_upto_region 28 with (fail)
             have h1:=blk_below H13.out HI13.out.N
             have hbw:=below_step HB13.out HI13.out.N
             refine wp_region_lit ?_
             refine wpList_step (fun K hK => ?_)
             go_simp
             refine hK _ _ ?_
             clear hK K
             refine wpList_store_at rfl _ _ _ rfl ⟨w.heap.size,0,none⟩ rfl (.agg (vR 0 ⟨#[]⟩ 0 0).toArray) rfl (store_R (cs:=vR 0 ⟨#[]⟩ 0 0) rfl h1 0 ⟨#[]⟩ 0 0) ?_
             have h2:=set_R (cs:=vR 0 ⟨#[]⟩ 0 0) rfl h1 0 ⟨#[]⟩ 0 0
             have hb2:=below_setCells w.heap.size (Nat.le_refl _) (vR 0 ⟨#[]⟩ 0 0) 0 _ hbw
             simp only [Act.put]
             generalize World.setCells _ w.heap.size 0 (vR 0 ⟨#[]⟩ 0 0) = w2 at *
             have H2:=Lib.hid h2
             have HB2:=Lib.hid hb2
             clear h1 h2 hb2 hbw
             refine wpList_step (fun K hK => ?_)
             go_simp
             refine hK _ _ ?_
             clear hK K
             refine wpList_nil ?_
             go_wp2
             exact ⟨rfl,_,results_ct rfl _ _ w.heap.size 39 _ (0,0) _ rfl H2.out Tryd.underlying39 rfl (resR rfl),rfl,HB2.out⟩
           ·have t1 : (e7 != 0) = true:=by simpa using he7
            rw [if_neg he7] at h
            obtain ⟨rfl,rfl,rfl,rfl,rfl⟩ : 0 = r1 ∧ (⟨#[]⟩ : ByteArray) = r2 ∧ 0 = r3 ∧ 0 = r4 ∧ 12 = r5:=by simpa using h
            clear h he7
            go_upto_region 28 with (fail)
            have h1:=blk_below H13.out HI13.out.N
            have hbw:=below_step HB13.out HI13.out.N
            refine wp_region_lit ?_
            refine wpList_step (fun K hK => ?_)
            go_simp
            refine hK _ _ ?_
            clear hK K
            refine wpList_store_at rfl _ _ _ rfl ⟨w.heap.size,0,none⟩ rfl (.agg (vR 0 ⟨#[]⟩ 0 0).toArray) rfl (store_R (cs:=vR 0 ⟨#[]⟩ 0 0) rfl h1 0 ⟨#[]⟩ 0 0) ?_
            have h2:=set_R (cs:=vR 0 ⟨#[]⟩ 0 0) rfl h1 0 ⟨#[]⟩ 0 0
            have hb2:=below_setCells w.heap.size (Nat.le_refl _) (vR 0 ⟨#[]⟩ 0 0) 0 _ hbw
            simp only [Act.put]
            generalize World.setCells _ w.heap.size 0 (vR 0 ⟨#[]⟩ 0 0) = w2 at *
            have H2:=Lib.hid h2
            have HB2:=Lib.hid hb2
            clear h1 h2 hb2 hbw
            refine wpList_step (fun K hK => ?_)
            go_simp
            refine hK _ _ ?_
            clear hK K
            refine wpList_nil ?_
            go_wp2
            exact ⟨rfl,_,results_ct rfl _ _ w.heap.size 39 _ (0,0) _ rfl H2.out Tryd.underlying39 rfl (resR rfl),rfl,HB2.out⟩
          ·have t1 : (e6 != 0) = true:=by simpa using he6
           rw [if_neg he6] at h
           obtain ⟨rfl,rfl,rfl,rfl,rfl⟩ : 0 = r1 ∧ (⟨#[]⟩ : ByteArray) = r2 ∧ 0 = r3 ∧ 0 = r4 ∧ 12 = r5:=by simpa using h
           clear h he6
           go_upto_region 24 with (fail)
           have h1:=blk_below H13.out HI11.out.N
           have hbw:=below_step HB13.out HI11.out.N
           refine wp_region_lit ?_
           refine wpList_step (fun K hK => ?_)
           go_simp
           refine hK _ _ ?_
           clear hK K
           refine wpList_store_at rfl _ _ _ rfl ⟨w.heap.size,0,none⟩ rfl (.agg (vR 0 ⟨#[]⟩ 0 0).toArray) rfl (store_R (cs:=vR 0 ⟨#[]⟩ 0 0) rfl h1 0 ⟨#[]⟩ 0 0) ?_
           have h2:=set_R (cs:=vR 0 ⟨#[]⟩ 0 0) rfl h1 0 ⟨#[]⟩ 0 0
           have hb2:=below_setCells w.heap.size (Nat.le_refl _) (vR 0 ⟨#[]⟩ 0 0) 0 _ hbw
           simp only [Act.put]
           generalize World.setCells _ w.heap.size 0 (vR 0 ⟨#[]⟩ 0 0) = w2 at *
           have H2:=Lib.hid h2
           have HB2:=Lib.hid hb2
           clear h1 h2 hb2 hbw
           refine wpList_step (fun K hK => ?_)
           go_simp
           refine hK _ _ ?_
           clear hK K
           refine wpList_nil ?_
           go_wp2
           exact ⟨rfl,_,results_ct rfl _ _ w.heap.size 39 _ (0,0) _ rfl H2.out Tryd.underlying39 rfl (resR rfl),rfl,HB2.out⟩
         ·rw [if_neg hp3] at h
          exact absurd h (by simp)
        ·have t1 : (e5 != 0) = true:=by simpa using he5
         rw [if_neg he5] at h
         obtain ⟨rfl,rfl,rfl,rfl,rfl⟩ : 0 = r1 ∧ (⟨#[]⟩ : ByteArray) = r2 ∧ 0 = r3 ∧ 0 = r4 ∧ 12 = r5:=by simpa using h
         clear h he5
         go_upto_region 19 with (fail)
         have h1:=blk_below H13.out HI9.out.N
         have hbw:=below_step HB13.out HI9.out.N
         refine wp_region_lit ?_
         refine wpList_step (fun K hK => ?_)
         go_simp
         refine hK _ _ ?_
         clear hK K
         refine wpList_store_at rfl _ _ _ rfl ⟨w.heap.size,0,none⟩ rfl (.agg (vR 0 ⟨#[]⟩ 0 0).toArray) rfl (store_R (cs:=vR 0 ⟨#[]⟩ 0 0) rfl h1 0 ⟨#[]⟩ 0 0) ?_
         have h2:=set_R (cs:=vR 0 ⟨#[]⟩ 0 0) rfl h1 0 ⟨#[]⟩ 0 0
         have hb2:=below_setCells w.heap.size (Nat.le_refl _) (vR 0 ⟨#[]⟩ 0 0) 0 _ hbw
         simp only [Act.put]
         generalize World.setCells _ w.heap.size 0 (vR 0 ⟨#[]⟩ 0 0) = w2 at *
         have H2:=Lib.hid h2
         have HB2:=Lib.hid hb2
         clear h1 h2 hb2 hbw
         refine wpList_step (fun K hK => ?_)
         go_simp
         refine hK _ _ ?_
         clear hK K
         refine wpList_nil ?_
         go_wp2
         exact ⟨rfl,_,results_ct rfl _ _ w.heap.size 39 _ (0,0) _ rfl H2.out Tryd.underlying39 rfl (resR rfl),rfl,HB2.out⟩
       ·rw [if_neg hp2] at h
        exact absurd h (by simp)
      ·have t1 : (e4 != 0) = true:=by simpa using he4
       rw [if_neg he4] at h
       obtain ⟨rfl,rfl,rfl,rfl,rfl⟩ : 0 = r1 ∧ (⟨#[]⟩ : ByteArray) = r2 ∧ 0 = r3 ∧ 0 = r4 ∧ 12 = r5:=by simpa using h
       clear h he4
       go_upto_region 14 with (fail)
       have h1:=blk_below H13.out HI7.out.N
       have hbw:=below_step HB13.out HI7.out.N
       refine wp_region_lit ?_
       refine wpList_step (fun K hK => ?_)
       go_simp
       refine hK _ _ ?_
       clear hK K
       refine wpList_store_at rfl _ _ _ rfl ⟨w.heap.size,0,none⟩ rfl (.agg (vR 0 ⟨#[]⟩ 0 0).toArray) rfl (store_R (cs:=vR 0 ⟨#[]⟩ 0 0) rfl h1 0 ⟨#[]⟩ 0 0) ?_
       have h2:=set_R (cs:=vR 0 ⟨#[]⟩ 0 0) rfl h1 0 ⟨#[]⟩ 0 0
       have hb2:=below_setCells w.heap.size (Nat.le_refl _) (vR 0 ⟨#[]⟩ 0 0) 0 _ hbw
       simp only [Act.put]
       generalize World.setCells _ w.heap.size 0 (vR 0 ⟨#[]⟩ 0 0) = w2 at *
       have H2:=Lib.hid h2
       have HB2:=Lib.hid hb2
       clear h1 h2 hb2 hbw
       refine wpList_step (fun K hK => ?_)
       go_simp
       refine hK _ _ ?_
       clear hK K
       refine wpList_nil ?_
       go_wp2
       exact ⟨rfl,_,results_ct rfl _ _ w.heap.size 39 _ (0,0) _ rfl H2.out Tryd.underlying39 rfl (resR rfl),rfl,HB2.out⟩
     ·rw [if_neg hp1] at h
      exact absurd h (by simp)
    ·have t1 : (e3 != 0) = true:=by simpa using he3
     rw [if_neg he3] at h
     obtain ⟨rfl,rfl,rfl,rfl,rfl⟩ : 0 = r1 ∧ (⟨#[]⟩ : ByteArray) = r2 ∧ 0 = r3 ∧ 0 = r4 ∧ 12 = r5:=by simpa using h
     clear h he3
     go_upto_region 10 with (fail)
     have h1:=blk_below H13.out HI5.out.N
     have hbw:=below_step HB13.out HI5.out.N
     refine wp_region_lit ?_
     refine wpList_step (fun K hK => ?_)
     go_simp
     refine hK _ _ ?_
     clear hK K
     refine wpList_store_at rfl _ _ _ rfl ⟨w.heap.size,0,none⟩ rfl (.agg (vR 0 ⟨#[]⟩ 0 0).toArray) rfl (store_R (cs:=vR 0 ⟨#[]⟩ 0 0) rfl h1 0 ⟨#[]⟩ 0 0) ?_
     have h2:=set_R (cs:=vR 0 ⟨#[]⟩ 0 0) rfl h1 0 ⟨#[]⟩ 0 0
     have hb2:=below_setCells w.heap.size (Nat.le_refl _) (vR 0 ⟨#[]⟩ 0 0) 0 _ hbw
     simp only [Act.put]
     generalize World.setCells _ w.heap.size 0 (vR 0 ⟨#[]⟩ 0 0) = w2 at *
     have H2:=Lib.hid h2
     have HB2:=Lib.hid hb2
     clear h1 h2 hb2 hbw
     refine wpList_step (fun K hK => ?_)
     go_simp
     refine hK _ _ ?_
     clear hK K
     refine wpList_nil ?_
     go_wp2
     exact ⟨rfl,_,results_ct rfl _ _ w.heap.size 39 _ (0,0) _ rfl H2.out Tryd.underlying39 rfl (resR rfl),rfl,HB2.out⟩
   ·rw [if_neg hbl] at h
    exact absurd h (by simp)
  ·have t1 : (e2 != 0) = true:=by simpa using he2
   rw [if_neg he2] at h
   obtain ⟨rfl,rfl,rfl,rfl,rfl⟩ : 0 = r1 ∧ (⟨#[]⟩ : ByteArray) = r2 ∧ 0 = r3 ∧ 0 = r4 ∧ 12 = r5:=by simpa using h
   clear h he2
   go_upto_region 6 with (fail)
   have h1:=H13.out
   have hbw:=HB13.out
   refine wp_region_lit ?_
   refine wpList_step (fun K hK => ?_)
   go_simp
   refine hK _ _ ?_
   clear hK K
   refine wpList_store_at rfl _ _ _ rfl ⟨w.heap.size,0,none⟩ rfl (.agg (vR 0 ⟨#[]⟩ 0 0).toArray) rfl (store_R (cs:=vR 0 ⟨#[]⟩ 0 0) rfl h1 0 ⟨#[]⟩ 0 0) ?_
   have h2:=set_R (cs:=vR 0 ⟨#[]⟩ 0 0) rfl h1 0 ⟨#[]⟩ 0 0
   have hb2:=below_setCells w.heap.size (Nat.le_refl _) (vR 0 ⟨#[]⟩ 0 0) 0 _ hbw
   simp only [Act.put]
   generalize World.setCells _ w.heap.size 0 (vR 0 ⟨#[]⟩ 0 0) = w2 at *
   have H2:=Lib.hid h2
   have HB2:=Lib.hid hb2
   clear h1 h2 hb2 hbw
   refine wpList_step (fun K hK => ?_)
   go_simp
   refine hK _ _ ?_
   clear hK K
   refine wpList_nil ?_
   go_wp2
   exact ⟨rfl,_,results_ct rfl _ _ w.heap.size 39 _ (0,0) _ rfl H2.out Tryd.underlying39 rfl (resR rfl),rfl,HB2.out⟩
 ·have t1 : (e1 != 0) = true:=by simpa using he1
  rw [if_neg he1] at h
  obtain ⟨rfl,rfl,rfl,rfl,rfl⟩ : 0 = r1 ∧ (⟨#[]⟩ : ByteArray) = r2 ∧ 0 = r3 ∧ 0 = r4 ∧ 12 = r5:=by simpa using h
  clear h he1
  go_upto_region 3 with (fail)
  have h1:=H1.out
  have hbw:=HBW.out
  refine wp_region_lit ?_
  refine wpList_step (fun K hK => ?_)
  go_simp
  refine hK _ _ ?_
  clear hK K
  refine wpList_store_at rfl _ _ _ rfl ⟨w.heap.size,0,none⟩ rfl (.agg (vR 0 ⟨#[]⟩ 0 0).toArray) rfl (store_R (cs:=vR 0 ⟨#[]⟩ 0 0) rfl h1 0 ⟨#[]⟩ 0 0) ?_
  have h2:=set_R (cs:=vR 0 ⟨#[]⟩ 0 0) rfl h1 0 ⟨#[]⟩ 0 0
  have hb2:=below_setCells w.heap.size (Nat.le_refl _) (vR 0 ⟨#[]⟩ 0 0) 0 _ hbw
  simp only [Act.put]
  generalize World.setCells _ w.heap.size 0 (vR 0 ⟨#[]⟩ 0 0) = w2 at *
  have H2:=Lib.hid h2
  have HB2:=Lib.hid hb2
  clear h1 h2 hb2 hbw
  refine wpList_step (fun K hK => ?_)
  go_simp
  refine hK _ _ ?_
  clear hK K
  refine wpList_nil ?_
  go_wp2
  exact ⟨rfl,_,results_ct rfl _ _ w.heap.size 39 _ (0,0) _ rfl H2.out Tryd.underlying39 rfl (resR rfl),rfl,HB2.out⟩
end Go.Proofs.YtedfgkjimnjdpaaDoor.X
