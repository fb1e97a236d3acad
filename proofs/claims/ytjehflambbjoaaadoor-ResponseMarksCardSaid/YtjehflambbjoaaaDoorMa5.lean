/-
  What the claim's law rests on, part 5 of 8: printed walks, externals, plain lemmas; conditions: none of its own.
-/
import Derived.Lib.TrimUEq
import Derived.Lib.ValidLaws
import Derived.Test.YtjehflambbjoaaaDoorMa4
namespace Go.Proofs.YtjehflambbjoaaaDoor.X
open Go.RowKit Go.Proofs.YtjehflambbjoaaaDoorW.PrintWords Go.Proofs.YtjehflambbjoaaaDoorW.PrintLast Go.Proofs.YtjehflambbjoaaaDoorW.PrintMore
attribute [local go_sem] max2_int min2_int max_two min_two max_three min_three max_four min_four
set_option linter.unusedVariables false
set_option linter.unusedSimpArgs false
mutual
def racewayref25_number.j0 : Nat → ByteArray → Int → Int → Option (Int × Int × (List (S24)) × ByteArray)
 | 0,_,_,_ => none
 | k + 1,x0,x1,x5 => (racewayref25_digit.f x0 x1).bind fun t127 => (if t127 = true then (if 0 ≤ x1 then (if x1 < (x0.size : Int) then (if (bt x0 x1) = 48 then (racewayref25_number.j2 k x0 (wrap64 (x1 + 1)) x5) else (racewayref25_number.l0 k x0 x1 x5)) else (none)) else (none)) else ((racewayref25_fail.f x1).bind fun bt128 => (some (bt128.1,bt128.2.1,bt128.2.2.1,bt128.2.2.2))))
def racewayref25_number.j2 : Nat → ByteArray → Int → Int → Option (Int × Int × (List (S24)) × ByteArray)
 | 0,_,_,_ => none
 | k + 1,x0,x1,x5 => (racewayref25_is.f x0 x1 46).bind fun t135 => (if t135 = true then ((racewayref25_digit.f x0 (wrap64 (x1 + 1))).bind fun t136 => (if t136 = true then (racewayref25_number.l1 k x0 (wrap64 (x1 + 1)) x5) else ((racewayref25_fail.f (wrap64 (x1 + 1))).bind fun bt137 => (some (bt137.1,bt137.2.1,bt137.2.2.1,bt137.2.2.2))))) else (racewayref25_number.j4 k x0 x1 x5))
def racewayref25_number.j4 : Nat → ByteArray → Int → Int → Option (Int × Int × (List (S24)) × ByteArray)
 | 0,_,_,_ => none
 | k + 1,x0,x1,x5 => (racewayref25_is.f x0 x1 101).bind fun t144 => (if t144 = true then (racewayref25_number.j5 k x0 x1 x5 true) else ((racewayref25_is.f x0 x1 69).bind fun t145 => (racewayref25_number.j5 k x0 x1 x5 t145)))
def racewayref25_number.j5 : Nat → ByteArray → Int → Int → Bool → Option (Int × Int × (List (S24)) × ByteArray)
 | 0,_,_,_,_ => none
 | k + 1,x0,x1,x5,x52 => if x52 = true then ((racewayref25_is.f x0 (wrap64 (x1 + 1)) 43).bind fun t146 => (if t146 = true then (racewayref25_number.j6 k x0 (wrap64 (x1 + 1)) x5 true) else ((racewayref25_is.f x0 (wrap64 (x1 + 1)) 45).bind fun t147 => (racewayref25_number.j6 k x0 (wrap64 (x1 + 1)) x5 t147)))) else (if 0 ≤ x5 then (if x5 ≤ x1 then (if x1 ≤ (x0.size : Int) then (some (x1,0,([] : List (S24)),x0.extract (x5 : Int).toNat (x1 : Int).toNat)) else (none)) else (none)) else (none))
def racewayref25_number.j6 : Nat → ByteArray → Int → Int → Bool → Option (Int × Int × (List (S24)) × ByteArray)
 | 0,_,_,_,_ => none
 | k + 1,x0,x1,x5,x62 => if x62 = true then (racewayref25_number.j7 k x0 (wrap64 (x1 + 1)) x5) else (racewayref25_number.j7 k x0 x1 x5)
def racewayref25_number.j7 : Nat → ByteArray → Int → Int → Option (Int × Int × (List (S24)) × ByteArray)
 | 0,_,_,_ => none
 | k + 1,x0,x1,x5 => (racewayref25_digit.f x0 x1).bind fun t148 => (if t148 = true then (racewayref25_number.l2 k x0 x1 x5) else ((racewayref25_fail.f x1).bind fun bt149 => (some (bt149.1,bt149.2.1,bt149.2.2.1,bt149.2.2.2))))
def racewayref25_number.l2 : Nat → ByteArray → Int → Int → Option (Int × Int × (List (S24)) × ByteArray)
 | 0,_,_,_ => none
 | k + 1,x0,x1,x5 => (racewayref25_digit.f x0 x1).bind fun t155 => (if t155 = true then (racewayref25_number.l2 k x0 (wrap64 (x1 + 1)) x5) else (if 0 ≤ x5 then (if x5 ≤ x1 then (if x1 ≤ (x0.size : Int) then (some (x1,0,([] : List (S24)),x0.extract (x5 : Int).toNat (x1 : Int).toNat)) else (none)) else (none)) else (none)))
def racewayref25_number.l1 : Nat → ByteArray → Int → Int → Option (Int × Int × (List (S24)) × ByteArray)
 | 0,_,_,_ => none
 | k + 1,x0,x1,x5 => (racewayref25_digit.f x0 x1).bind fun t143 => (if t143 = true then (racewayref25_number.l1 k x0 (wrap64 (x1 + 1)) x5) else (racewayref25_number.j4 k x0 x1 x5))
def racewayref25_number.l0 : Nat → ByteArray → Int → Int → Option (Int × Int × (List (S24)) × ByteArray)
 | 0,_,_,_ => none
 | k + 1,x0,x1,x5 => (racewayref25_digit.f x0 x1).bind fun t134 => (if t134 = true then (racewayref25_number.l0 k x0 (wrap64 (x1 + 1)) x5) else (racewayref25_number.j2 k x0 x1 x5))
end
def racewayref25_number.f (k : Nat) (a0 : ByteArray) (a1 : Int) : Option (Int × Int × (List (S24)) × ByteArray):=(racewayref25_is.f a0 a1 45).bind fun t126 => (if t126 = true then (racewayref25_number.j0 k a0 (wrap64 (a1 + 1)) a1) else (racewayref25_number.j0 k a0 a1 a1))
set_option maxHeartbeats 8000000 in
set_option maxRecDepth 100000 in
theorem racewayref25_number.calls (k : Nat) (a0 : ByteArray) (a1 : Int) (r1 : Int) (r2 : Int) (r3 : List (S24)) (r4 : ByteArray) (w : World) (h : racewayref25_number.f k a0 a1 = some (r1,r2,r3,r4)) :
  Calls Tryd.prog 51 #[.string a0,.int .i64 a1] w fun e w' => ∃ v2_ : Value,e = .returned (.agg #[.int .i64 r1,.int .i64 r2,v2_,.string r4]) ∧ Kd.R k24 24 w' w.heap.size (fun _ => True) v2_ r3 ∧ Below w.heap.size w w':=by
 have hu92:=Tryd.underlying92
 have HB:=Aside0.mk (Below.refl w.heap.size w)
 have H : ((racewayref25_is.f a0 a1 45).bind fun t126 => (if t126 = true then (racewayref25_number.j0 k a0 (wrap64 (a1 + 1)) a1) else (racewayref25_number.j0 k a0 a1 a1))) = some (r1,r2,r3,r4):=h
 clear h
 replace H:=Option.bind_eq_some_iff.mp H
 obtain ⟨t126,A30,H⟩:=H
 replace H : (if t126 = true then (racewayref25_number.j0 k a0 (wrap64 (a1 + 1)) a1) else (racewayref25_number.j0 k a0 a1 a1)) = some (r1,r2,r3,r4):=H
 have A3:=Aside0.mk A30
 clear A30
 have HC4:=Aside0.mk H
 clear H
 go_enter Tryd.func51,Tryd.ntmps51
 go_upto_if 9 with (first|((with_reducible refine gate_dst (N:=4) rfl ?_);refine box_event ?hg (N:=4) ?hd (cs:=#[.int .i64 0,.int .i64 0,.slice none 0 0,.string (⟨#[]⟩ : ByteArray)]) (t:=92) ?hr ?_;(case hd => rfl);(case hg => rfl);(case hr => first|(go_simp;done)|(go_simp;rfl));intro gb125 hg w5 hbox hb;have n0_:=Aside0.mk (below_step (by repeat (first|(with_reducible first|exact HB.out|apply below_alloc|apply pw_below_drewN|apply below_drew1)|exact HB.out)) hb);have n1_:=Aside0.mk (hbox);have n2_:=Aside0.mk ((by rw [hg];exact (below_size (by repeat (first|(with_reducible first|exact HB.out|apply below_alloc|apply pw_below_drewN|apply below_drew1)|exact HB.out))) : w.heap.size ≤ gb125));have n3_:=Aside0.mk ((by rw [hg];exact (below_size (by repeat (first|(with_reducible first|exact HB.out|apply below_alloc|apply pw_below_drewN|apply below_drew1)|exact HB.out))) : w.heap.size ≤ gb125));clear HB;have HB:=n0_;have BK125:=n1_;have GW125:=n2_;have GE125:=n3_;clear n0_ n1_ n2_ n3_;clear hb hbox hg)|((with_reducible refine gate_callee (f:=60) rfl ?_);refine goesL_ (some 9) rfl rfl Tryd.func60 (by kernel_rfl) rfl #[.string a0,.int .i64 a1,.int .u8 45] rfl (by (try simp only [List.map_toArray,List.map_cons,List.map_nil]);first|done|rfl|(simp only [List.length_drop,List.length_take];rfl)) ?_;(with_reducible refine (racewayref25_is.calls a0 a1 45 t126 _ A3.out).mono ?_);rintro e w' ⟨rfl,⟨nd,rfl⟩⟩;refine ⟨_,rfl,?_⟩))
 (try simp only [Act.put,List.setIfInBounds_toArray,List.set_cons_zero,List.set_cons_succ])
 go_cut [1] (fun v1 wc => ∃ (kq : Nat) (x1_3 : Int),v1 = .int .i64 x1_3 ∧ Aside0 (racewayref25_number.j0 kq a0 x1_3 a1 = some (r1,r2,r3,r4)) ∧ Aside0 (kq ≤ k) ∧ Aside0 (wc.heap[gb125]? = some (.cells #[.int .i64 0,.int .i64 0,(.slice none 0 0),.string (⟨#[]⟩ : ByteArray)] 92 (0,0))) ∧ Aside0 (Below w.heap.size w wc))
 case first =>
  have H:=HC4.out
  clear HC4
  by_cases c6 : t126 = true
  ·subst c6
   have H1 : (racewayref25_number.j0 k a0 (wrap64 (a1 + 1)) a1) = some (r1,r2,r3,r4):=by rw [if_pos rfl] at H;exact H
   clear H
   have H:=H1
   clear H1
   have H':=Aside0.mk H
   clear H
   go_wp2
   go_meet
   case rel => exact ⟨_,(wrap64 (a1 + 1)),(by first|rfl|(simp;done)|(simp;decide +kernel)|(simp [*];done)),(by first|exact H'|(subst_vars;exact H')),⟨by first|omega|exact Nat.le_refl _⟩,⟨by (with_reducible repeat (first|refine blk_drewN ?_ _|refine blk_drew ?_|refine blk_alloc ?_ _));exact BK125.out⟩,⟨by repeat (first|(with_reducible first|exact HB.out|apply below_alloc|apply pw_below_drewN|apply below_drew1|refine below_set ?_ GE125.out)|exact HB.out)⟩⟩
  ·replace c6:=Bool.eq_false_iff.mpr c6
   subst c6
   have H1 : (racewayref25_number.j0 k a0 a1 a1) = some (r1,r2,r3,r4):=by rw [if_neg (show ¬ (false = true) by decide)] at H;exact H
   clear H
   have H:=H1
   clear H1
   have H':=Aside0.mk H
   clear H
   go_wp2
   go_meet
   case rel => exact ⟨_,(a1),(by first|rfl|(simp;done)|(simp;decide +kernel)|(simp [*];done)),(by first|exact H'|(subst_vars;exact H')),⟨by first|omega|exact Nat.le_refl _⟩,⟨by (with_reducible repeat (first|refine blk_drewN ?_ _|refine blk_drew ?_|refine blk_alloc ?_ _));exact BK125.out⟩,⟨by repeat (first|(with_reducible first|exact HB.out|apply below_alloc|apply pw_below_drewN|apply below_drew1|refine below_set ?_ GE125.out)|exact HB.out)⟩⟩
 case rest =>
  clear HC4
  try clear p2
  try clear c5
  try clear c6
  try clear p6
  obtain ⟨kq,x1_3,rfl,HA,HJ3,BK125,HB⟩:=hcut
  cases kq with
  | zero => exact absurd HA.out (by simp [racewayref25_number.j0])
  | succ kj3 =>
   have H:=HA.out
   clear HA
   simp only [racewayref25_number.j0] at H
   replace H:=Option.bind_eq_some_iff.mp H
   obtain ⟨t127,A70,H⟩:=H
   replace H : (if t127 = true then (if 0 ≤ x1_3 then (if x1_3 < (a0.size : Int) then (if (bt a0 x1_3) = 48 then (racewayref25_number.j2 kj3 a0 (wrap64 (x1_3 + 1)) a1) else (racewayref25_number.l0 kj3 a0 x1_3 a1)) else (none)) else (none)) else ((racewayref25_fail.f x1_3).bind fun bt128 => (some (bt128.1,bt128.2.1,bt128.2.2.1,bt128.2.2.2)))) = some (r1,r2,r3,r4):=H
   have A7:=Aside0.mk A70
   clear A70
   by_cases c8 : t127 = true
   ·subst c8
    have H1 : (if 0 ≤ x1_3 then (if x1_3 < (a0.size : Int) then (if (bt a0 x1_3) = 48 then (racewayref25_number.j2 kj3 a0 (wrap64 (x1_3 + 1)) a1) else (racewayref25_number.l0 kj3 a0 x1_3 a1)) else (none)) else (none)) = some (r1,r2,r3,r4):=by rw [if_pos rfl] at H;exact H
    clear H
    have H:=H1
    clear H1
    by_cases c9 : 0 ≤ x1_3
    ·rw [if_pos c9] at H
     have c9b0 : decide (0 ≤ x1_3) = true:=decide_eq_true c9
     clear c9
     by_cases c10 : x1_3 < (a0.size : Int)
     ·rw [if_pos c10] at H
      have c10b0 : decide (x1_3 < (a0.size : Int)) = true:=decide_eq_true c10
      clear c10
      have HC12:=Aside0.mk H
      clear H
      go_upto_if 21 with (first|((with_reducible refine gate_callee (f:=61) rfl ?_);refine goesL_ (some 14) rfl rfl Tryd.func61 (by kernel_rfl) rfl #[.string a0,.int .i64 x1_3] rfl (by (try simp only [List.map_toArray,List.map_cons,List.map_nil]);first|done|rfl|(simp only [List.length_drop,List.length_take];rfl)) ?_;(with_reducible refine (racewayref25_digit.calls a0 x1_3 true _ A7.out).mono ?_);rintro e w' ⟨rfl,⟨nd,rfl⟩⟩;refine ⟨_,rfl,?_⟩;have p11 : 0 ≤ (x1_3 : Int):=of_decide_eq_true (by first|(with_reducible assumption)|assumption);have q11 : x1_3 < (a0.size : Int):=of_decide_eq_true (by first|(with_reducible assumption)|assumption);have hx11:=bt_at a0 x1_3;replace p11:=eq_true p11;replace q11:=eq_true q11))
      (try simp only [Act.put,List.setIfInBounds_toArray,List.set_cons_zero,List.set_cons_succ])
      go_cut [1] (fun v1 wc => ∃ (kq : Nat) (x1_11 : Int),v1 = .int .i64 x1_11 ∧ Aside0 (racewayref25_number.j2 kq a0 x1_11 a1 = some (r1,r2,r3,r4)) ∧ Aside0 (kq ≤ kj3) ∧ Aside0 (wc.heap[gb125]? = some (.cells #[.int .i64 0,.int .i64 0,(.slice none 0 0),.string (⟨#[]⟩ : ByteArray)] 92 (0,0))) ∧ Aside0 (Below w.heap.size w wc))
      case first =>
       have H:=HC12.out
       clear HC12
       by_cases c13 : (bt a0 x1_3) = 48
       ·rw [if_pos c13] at H
        have c13b0 : ((bt a0 x1_3) == 48) = true:=beq_iff_eq.mpr c13
        have c13b1 : ((bt a0 x1_3) != 48) = false:=bne_eq_false_iff_eq.mpr c13
        clear c13
        (first|rw [c13b0]|(simp only [i64_w,i32_w];rw [c13b0])|skip)
        have H':=Aside0.mk H
        clear H
        go_wp2
        go_meet
        case rel => exact ⟨_,(wrap64 (x1_3 + 1)),(by first|rfl|(simp;done)|(simp;decide +kernel)|(simp [*];done)),(by first|exact H'|(subst_vars;exact H')),⟨by have:=HJ3.out;first|omega|exact Nat.le_refl _⟩,⟨by (with_reducible repeat (first|refine blk_drewN ?_ _|refine blk_drew ?_|refine blk_alloc ?_ _));exact BK125.out⟩,⟨by repeat (first|(with_reducible first|exact HB.out|apply below_alloc|apply pw_below_drewN|apply below_drew1|refine below_set ?_ GE125.out)|exact HB.out)⟩⟩
       ·rw [if_neg c13] at H
        have c13b0 : ((bt a0 x1_3) == 48) = false:=beq_eq_false_iff_ne.mpr c13
        have c13b1 : ((bt a0 x1_3) != 48) = true:=bne_iff_ne.mpr c13
        (first|rw [c13b0]|(simp only [i64_w,i32_w];rw [c13b0])|skip)
        have H':=Aside0.mk H
        clear H
        go_wp2
        go_loopg [1] kj3 (fun kq v1 w' => ∃ (x1_2 : Int),v1 = .int .i64 x1_2 ∧ Aside0 (racewayref25_number.l0 kq a0 x1_2 a1 = some (r1,r2,r3,r4)) ∧ Aside0 (kq ≤ kj3) ∧ Aside0 (w'.heap[gb125]? = some (.cells #[.int .i64 0,.int .i64 0,(.slice none 0 0),.string (⟨#[]⟩ : ByteArray)] 92 (0,0))) ∧ Aside0 (Below w.heap.size w w'))
        case atStart => exact ⟨(x1_3),(by first|rfl|(simp;done)|(simp;decide +kernel)|(simp [*];done)),(by first|exact H'|(subst_vars;exact H')),⟨Nat.le_refl _⟩,⟨by (with_reducible repeat (first|refine blk_drewN ?_ _|refine blk_drew ?_|refine blk_alloc ?_ _));exact BK125.out⟩,⟨by repeat (first|(with_reducible first|exact HB.out|apply below_alloc|apply pw_below_drewN|apply below_drew1|refine below_set ?_ GE125.out)|exact HB.out)⟩⟩
        case round =>
         clear H'
         try clear c1
         try clear p1
         try clear q1
         try clear hx1
         try clear p2
         try clear c5
         try clear c6
         try clear p6
         try clear c8
         try clear c9
         try clear c9b0
         try clear c10
         try clear c10b0
         try clear p11
         try clear q11
         try clear hx11
         try clear c13
         try clear c13b0
         try clear c13b1
         try clear p11
         try clear p2
         try clear p6
         try clear q11
         obtain ⟨x1_2,rfl,HA,HK2,BK125,HB⟩:=hrel
         cases gk with
         | zero => exact absurd HA.out (by simp [racewayref25_number.l0])
         | succ k2 =>
          have H:=HA.out
          clear HA
          simp only [racewayref25_number.l0] at H
          replace H:=Option.bind_eq_some_iff.mp H
          obtain ⟨t134,A140,H⟩:=H
          replace H : (if t134 = true then (racewayref25_number.l0 k2 a0 (wrap64 (x1_2 + 1)) a1) else (racewayref25_number.j2 k2 a0 x1_2 a1)) = some (r1,r2,r3,r4):=H
          have A14:=Aside0.mk A140
          clear A140
          by_cases c15 : t134 = true
          ·subst c15
           have H1 : (racewayref25_number.l0 k2 a0 (wrap64 (x1_2 + 1)) a1) = some (r1,r2,r3,r4):=by rw [if_pos rfl] at H;exact H
           clear H
           have H:=H1
           clear H1
           have H':=Aside0.mk H
           clear H
           go_wp2_with (first|((with_reducible refine gate_callee (f:=61) rfl ?_);refine goesL_ (some 26) rfl rfl Tryd.func61 (by kernel_rfl) rfl #[.string a0,.int .i64 x1_2] rfl (by (try simp only [List.map_toArray,List.map_cons,List.map_nil]);first|done|rfl|(simp only [List.length_drop,List.length_take];rfl)) ?_;(with_reducible refine (racewayref25_digit.calls a0 x1_2 true _ A14.out).mono ?_);rintro e w' ⟨rfl,⟨nd,rfl⟩⟩;refine ⟨_,rfl,?_⟩))
           go_roundg k2
           case measure => have:=HJ3.out;have:=HK2.out;omega
           case rel => exact ⟨(wrap64 (x1_2 + 1)),(by first|rfl|(simp;done)|(simp;decide +kernel)|(simp [*];done)),(by first|exact H'|(subst_vars;exact H')),⟨by have:=HJ3.out;have:=HK2.out;omega⟩,⟨by (with_reducible repeat (first|refine blk_drewN ?_ _|refine blk_drew ?_|refine blk_alloc ?_ _));exact BK125.out⟩,⟨by repeat (first|(with_reducible first|exact HB.out|apply below_alloc|apply pw_below_drewN|apply below_drew1|refine below_set ?_ GE125.out)|exact HB.out)⟩⟩
          ·replace c15:=Bool.eq_false_iff.mpr c15
           subst c15
           have H1 : (racewayref25_number.j2 k2 a0 x1_2 a1) = some (r1,r2,r3,r4):=by rw [if_neg (show ¬ (false = true) by decide)] at H;exact H
           clear H
           have H:=H1
           clear H1
           have H':=Aside0.mk H
           clear H
           go_wp2_with (first|((with_reducible refine gate_callee (f:=61) rfl ?_);refine goesL_ (some 26) rfl rfl Tryd.func61 (by kernel_rfl) rfl #[.string a0,.int .i64 x1_2] rfl (by (try simp only [List.map_toArray,List.map_cons,List.map_nil]);first|done|rfl|(simp only [List.length_drop,List.length_take];rfl)) ?_;(with_reducible refine (racewayref25_digit.calls a0 x1_2 false _ A14.out).mono ?_);rintro e w' ⟨rfl,⟨nd,rfl⟩⟩;refine ⟨_,rfl,?_⟩))
           go_meet
           case rel => exact ⟨_,(x1_2),(by first|rfl|(simp;done)|(simp;decide +kernel)|(simp [*];done)),(by first|exact H'|(subst_vars;exact H')),⟨by have:=HJ3.out;have:=HK2.out;first|omega|exact Nat.le_refl _⟩,⟨by (with_reducible repeat (first|refine blk_drewN ?_ _|refine blk_drew ?_|refine blk_alloc ?_ _));exact BK125.out⟩,⟨by repeat (first|(with_reducible first|exact HB.out|apply below_alloc|apply pw_below_drewN|apply below_drew1|refine below_set ?_ GE125.out)|exact HB.out)⟩⟩
      case rest =>
       clear HC12
       try clear c1
       try clear p1
       try clear q1
       try clear hx1
       try clear p2
       try clear c5
       try clear c6
       try clear p6
       try clear c8
       try clear c9
       try clear c9b0
       try clear c10
       try clear c10b0
       try clear p11
       try clear q11
       try clear hx11
       try clear c13
       try clear c13b0
       try clear c13b1
       try clear c15
       try clear p1
       try clear p11
       try clear p2
       try clear p6
       try clear q1
       try clear q11
       obtain ⟨kq,x1_11,rfl,HA,HJ11,BK125,HB⟩:=hcut
       cases kq with
       | zero => exact absurd HA.out (by simp [racewayref25_number.j2])
       | succ kj11 =>
        have H:=HA.out
        clear HA
        simp only [racewayref25_number.j2] at H
        replace H:=Option.bind_eq_some_iff.mp H
        obtain ⟨t135,A160,H⟩:=H
        replace H : (if t135 = true then ((racewayref25_digit.f a0 (wrap64 (x1_11 + 1))).bind fun t136 => (if t136 = true then (racewayref25_number.l1 kj11 a0 (wrap64 (x1_11 + 1)) a1) else ((racewayref25_fail.f (wrap64 (x1_11 + 1))).bind fun bt137 => (some (bt137.1,bt137.2.1,bt137.2.2.1,bt137.2.2.2))))) else (racewayref25_number.j4 kj11 a0 x1_11 a1)) = some (r1,r2,r3,r4):=H
        have A16:=Aside0.mk A160
        clear A160
        have HC17:=Aside0.mk H
        clear H
        go_upto_if 31 with (first|((with_reducible refine gate_callee (f:=60) rfl ?_);refine goesL_ (some 31) rfl rfl Tryd.func60 (by kernel_rfl) rfl #[.string a0,.int .i64 x1_11,.int .u8 46] rfl (by (try simp only [List.map_toArray,List.map_cons,List.map_nil]);first|done|rfl|(simp only [List.length_drop,List.length_take];rfl)) ?_;(with_reducible refine (racewayref25_is.calls a0 x1_11 46 t135 _ A16.out).mono ?_);rintro e w' ⟨rfl,⟨nd,rfl⟩⟩;refine ⟨_,rfl,?_⟩))
        (try simp only [Act.put,List.setIfInBounds_toArray,List.set_cons_zero,List.set_cons_succ])
        go_cut [1] (fun v1 wc => ∃ (kq : Nat) (x1_16 : Int) (x126000_16 : Int) (x126001_16 : Int) (x126003_16 : ByteArray),v1 = .int .i64 x1_16 ∧ Aside0 (racewayref25_number.j4 kq a0 x1_16 a1 = some (r1,r2,r3,r4)) ∧ Aside0 (kq ≤ kj11) ∧ Aside0 (wc.heap[gb125]? = some (.cells #[.int .i64 x126000_16,.int .i64 x126001_16,(.slice none 0 0),.string x126003_16] 92 (0,0))) ∧ Aside0 (Below w.heap.size w wc))
        case first =>
         have H:=HC17.out
         clear HC17
         by_cases c18 : t135 = true
         ·subst c18
          have H1 : ((racewayref25_digit.f a0 (wrap64 (x1_11 + 1))).bind fun t136 => (if t136 = true then (racewayref25_number.l1 kj11 a0 (wrap64 (x1_11 + 1)) a1) else ((racewayref25_fail.f (wrap64 (x1_11 + 1))).bind fun bt137 => (some (bt137.1,bt137.2.1,bt137.2.2.1,bt137.2.2.2))))) = some (r1,r2,r3,r4):=by rw [if_pos rfl] at H;exact H
          clear H
          have H:=H1
          clear H1
          replace H:=Option.bind_eq_some_iff.mp H
          obtain ⟨t136,A190,H⟩:=H
          replace H : (if t136 = true then (racewayref25_number.l1 kj11 a0 (wrap64 (x1_11 + 1)) a1) else ((racewayref25_fail.f (wrap64 (x1_11 + 1))).bind fun bt137 => (some (bt137.1,bt137.2.1,bt137.2.2.1,bt137.2.2.2)))) = some (r1,r2,r3,r4):=H
          have A19:=Aside0.mk A190
          clear A190
          by_cases c20 : t136 = true
          ·subst c20
           have H1 : (racewayref25_number.l1 kj11 a0 (wrap64 (x1_11 + 1)) a1) = some (r1,r2,r3,r4):=by rw [if_pos rfl] at H;exact H
           clear H
           have H:=H1
           clear H1
           have H':=Aside0.mk H
           clear H
           go_wp2_with (first|((with_reducible refine gate_callee (f:=61) rfl ?_);refine goesL_ (some 36) rfl rfl Tryd.func61 (by kernel_rfl) rfl #[.string a0,.int .i64 (wrap64 (x1_11 + 1))] rfl (by (try simp only [List.map_toArray,List.map_cons,List.map_nil]);first|done|rfl|(simp only [List.length_drop,List.length_take];rfl)) ?_;(with_reducible refine (racewayref25_digit.calls a0 (wrap64 (x1_11 + 1)) true _ A19.out).mono ?_);rintro e w' ⟨rfl,⟨nd,rfl⟩⟩;refine ⟨_,rfl,?_⟩))
           go_loopg [1] kj11 (fun kq v1 w' => ∃ (x1_3 : Int),v1 = .int .i64 x1_3 ∧ Aside0 (racewayref25_number.l1 kq a0 x1_3 a1 = some (r1,r2,r3,r4)) ∧ Aside0 (kq ≤ kj11) ∧ Aside0 (w'.heap[gb125]? = some (.cells #[.int .i64 0,.int .i64 0,(.slice none 0 0),.string (⟨#[]⟩ : ByteArray)] 92 (0,0))) ∧ Aside0 (Below w.heap.size w w'))
           case atStart => exact ⟨(wrap64 (x1_11 + 1)),(by first|rfl|(simp;done)|(simp;decide +kernel)|(simp [*];done)),(by first|exact H'|(subst_vars;exact H')),⟨Nat.le_refl _⟩,⟨by (with_reducible repeat (first|refine blk_drewN ?_ _|refine blk_drew ?_|refine blk_alloc ?_ _));exact BK125.out⟩,⟨by repeat (first|(with_reducible first|exact HB.out|apply below_alloc|apply pw_below_drewN|apply below_drew1|refine below_set ?_ GE125.out)|exact HB.out)⟩⟩
           case round =>
            clear H'
            try clear c1
            try clear p1
            try clear q1
            try clear hx1
            try clear c2
            try clear p2
            try clear c5
            try clear c6
            try clear p6
            try clear c8
            try clear c9
            try clear c9b0
            try clear c10
            try clear c10b0
            try clear p11
            try clear q11
            try clear hx11
            try clear c13
            try clear c13b0
            try clear c13b1
            try clear c15
            try clear c18
            try clear c20
            try clear p1
            try clear p11
            try clear p2
            try clear p6
            try clear q1
            try clear q11
            obtain ⟨x1_3,rfl,HA,HK3,BK125,HB⟩:=hrel
            cases gk with
            | zero => exact absurd HA.out (by simp [racewayref25_number.l1])
            | succ k3 =>
             have H:=HA.out
             clear HA
             simp only [racewayref25_number.l1] at H
             replace H:=Option.bind_eq_some_iff.mp H
             obtain ⟨t143,A210,H⟩:=H
             replace H : (if t143 = true then (racewayref25_number.l1 k3 a0 (wrap64 (x1_3 + 1)) a1) else (racewayref25_number.j4 k3 a0 x1_3 a1)) = some (r1,r2,r3,r4):=H
             have A21:=Aside0.mk A210
             clear A210
             by_cases c22 : t143 = true
             ·subst c22
              have H1 : (racewayref25_number.l1 k3 a0 (wrap64 (x1_3 + 1)) a1) = some (r1,r2,r3,r4):=by rw [if_pos rfl] at H;exact H
              clear H
              have H:=H1
              clear H1
              have H':=Aside0.mk H
              clear H
              go_wp2_with (first|((with_reducible refine gate_callee (f:=61) rfl ?_);refine goesL_ (some 42) rfl rfl Tryd.func61 (by kernel_rfl) rfl #[.string a0,.int .i64 x1_3] rfl (by (try simp only [List.map_toArray,List.map_cons,List.map_nil]);first|done|rfl|(simp only [List.length_drop,List.length_take];rfl)) ?_;(with_reducible refine (racewayref25_digit.calls a0 x1_3 true _ A21.out).mono ?_);rintro e w' ⟨rfl,⟨nd,rfl⟩⟩;refine ⟨_,rfl,?_⟩))
              go_roundg k3
              case measure => have:=HJ3.out;have:=HJ11.out;have:=HK3.out;omega
              case rel => exact ⟨(wrap64 (x1_3 + 1)),(by first|rfl|(simp;done)|(simp;decide +kernel)|(simp [*];done)),(by first|exact H'|(subst_vars;exact H')),⟨by have:=HJ3.out;have:=HJ11.out;have:=HK3.out;omega⟩,⟨by (with_reducible repeat (first|refine blk_drewN ?_ _|refine blk_drew ?_|refine blk_alloc ?_ _));exact BK125.out⟩,⟨by repeat (first|(with_reducible first|exact HB.out|apply below_alloc|apply pw_below_drewN|apply below_drew1|refine below_set ?_ GE125.out)|exact HB.out)⟩⟩
             ·replace c22:=Bool.eq_false_iff.mpr c22
              subst c22
              have H1 : (racewayref25_number.j4 k3 a0 x1_3 a1) = some (r1,r2,r3,r4):=by rw [if_neg (show ¬ (false = true) by decide)] at H;exact H
              clear H
              have H:=H1
              clear H1
              have H':=Aside0.mk H
              clear H
              go_wp2_with (first|((with_reducible refine gate_callee (f:=61) rfl ?_);refine goesL_ (some 42) rfl rfl Tryd.func61 (by kernel_rfl) rfl #[.string a0,.int .i64 x1_3] rfl (by (try simp only [List.map_toArray,List.map_cons,List.map_nil]);first|done|rfl|(simp only [List.length_drop,List.length_take];rfl)) ?_;(with_reducible refine (racewayref25_digit.calls a0 x1_3 false _ A21.out).mono ?_);rintro e w' ⟨rfl,⟨nd,rfl⟩⟩;refine ⟨_,rfl,?_⟩))
              go_meet
              case rel => exact ⟨_,(x1_3),(0),(0),((⟨#[]⟩ : ByteArray)),(by first|rfl|(simp;done)|(simp;decide +kernel)|(simp [*];done)),(by first|exact H'|(subst_vars;exact H')),⟨by have:=HJ3.out;have:=HJ11.out;have:=HK3.out;first|omega|exact Nat.le_refl _⟩,⟨by (with_reducible repeat (first|refine blk_drewN ?_ _|refine blk_drew ?_|refine blk_alloc ?_ _));exact BK125.out⟩,⟨by repeat (first|(with_reducible first|exact HB.out|apply below_alloc|apply pw_below_drewN|apply below_drew1|refine below_set ?_ GE125.out)|exact HB.out)⟩⟩
          ·replace c20:=Bool.eq_false_iff.mpr c20
           subst c20
           have H1 : ((racewayref25_fail.f (wrap64 (x1_11 + 1))).bind fun bt137 => (some (bt137.1,bt137.2.1,bt137.2.2.1,bt137.2.2.2))) = some (r1,r2,r3,r4):=by rw [if_neg (show ¬ (false = true) by decide)] at H;exact H
           clear H
           have H:=H1
           clear H1
           replace H:=Option.bind_eq_some_iff.mp H
           obtain ⟨⟨t137,t138,t139,t142⟩,A230,H⟩:=H
           replace H : (some (t137,t138,t139,t142)) = some (r1,r2,r3,r4):=H
           have A23:=Aside0.mk A230
           clear A230
           simp only [Option.some.injEq,Prod.mk.injEq] at H
           obtain ⟨rfl,rfl,rfl,rfl⟩:=H
           go_wp2_with (first|((with_reducible refine gate_callee (f:=61) rfl ?_);refine goesL_ (some 36) rfl rfl Tryd.func61 (by kernel_rfl) rfl #[.string a0,.int .i64 (wrap64 (x1_11 + 1))] rfl (by (try simp only [List.map_toArray,List.map_cons,List.map_nil]);first|done|rfl|(simp only [List.length_drop,List.length_take];rfl)) ?_;(with_reducible refine (racewayref25_digit.calls a0 (wrap64 (x1_11 + 1)) false _ A19.out).mono ?_);rintro e w' ⟨rfl,⟨nd,rfl⟩⟩;refine ⟨_,rfl,?_⟩;(try (rw [drewN_self wc];generalize hq_ : World.drewN wc _ = wc;have n0_ : Aside0 (wc.heap[gb125]? = some (.cells #[.int .i64 0,.int .i64 0,.slice none 0 0,.string (⟨#[]⟩ : ByteArray)] 92 (0,0))):=⟨by rw [← hq_];exact (by (with_reducible repeat (first|refine blk_drewN ?_ _|refine blk_drew ?_|refine blk_alloc ?_ _));exact BK125.out)⟩;have n1_ : Aside0 (Below w.heap.size w wc):=⟨by rw [← hq_];exact (by repeat (first|(with_reducible first|exact HB.out|apply below_alloc|apply pw_below_drewN|apply below_drew1|refine below_set ?_ GE125.out)|exact HB.out))⟩;clear BK125 HB hq_;have BK125:=n0_;have HB:=n1_;clear n0_ n1_)))|((with_reducible refine gate_callee (f:=62) rfl ?_);refine goesL_ (some 39) rfl rfl Tryd.func62 (by kernel_rfl) rfl #[.int .i64 (wrap64 (x1_11 + 1))] rfl (by (try simp only [List.map_toArray,List.map_cons,List.map_nil]);first|done|rfl|(simp only [List.length_drop,List.length_take];rfl)) ?_;(with_reducible refine (racewayref25_fail.calls (wrap64 (x1_11 + 1)) t137 t138 t139 t142 _ A23.out).mono ?_);rintro e w24 ⟨v140,rfl,ho0,hb⟩;refine ⟨_,rfl,?_⟩;have n0_:=Aside0.mk (Kd.R_lower ho0 (below_size (by repeat (first|(with_reducible first|exact HB.out|apply below_alloc|apply pw_below_drewN|apply below_drew1|refine below_set ?_ GE125.out)|exact HB.out))));have n1_:=Aside0.mk (blk_below (g:=gb125) (o:=.cells #[.int .i64 0,.int .i64 0,.slice none 0 0,.string (⟨#[]⟩ : ByteArray)] 92 (0,0)) (by (with_reducible repeat (first|refine blk_drewN ?_ _|refine blk_drew ?_|refine blk_alloc ?_ _));exact BK125.out) hb);have n2_:=Aside0.mk (below_step (by repeat (first|(with_reducible first|exact HB.out|apply below_alloc|apply pw_below_drewN|apply below_drew1|refine below_set ?_ GE125.out)|exact HB.out)) hb);clear BK125;clear HB;have HO141:=n0_;have BK125:=n1_;have HB:=n2_;clear n0_ n1_ n2_;(try clear hb);(try clear hb2);(try clear hk);(try clear hi);(try clear ho0);have hcz25_0 : w24.cell? ⟨gb125,0,none⟩ = some (.int .i64 0):=(blk_cell BK125.out 0).trans rfl;have hcz25_1 : w24.cell? ⟨gb125,1,none⟩ = some (.int .i64 0):=(blk_cell BK125.out 1).trans rfl;have hcz25_2 : w24.cell? ⟨gb125,2,none⟩ = some (.slice none 0 0):=(blk_cell BK125.out 2).trans rfl;have hcz25_3 : w24.cell? ⟨gb125,3,none⟩ = some (.string (⟨#[]⟩ : ByteArray)):=(blk_cell BK125.out 3).trans rfl;have hfz25_0:=blk_frozen BK125.out 0;have hfz25_1:=blk_frozen BK125.out 1;have hfz25_2:=blk_frozen BK125.out 2;have hfz25_3:=blk_frozen BK125.out 3;obtain ⟨Ao26,co26,eo26⟩:=Kd.R_slice HO141.out;subst eo26))
           refine bodyPost_ret (results_cell_row rfl _ _ gb125 92 #[.int .i64 t137,.int .i64 t138,.slice Ao26 t139.length co26,.string t142] (0,0) _ rfl (by (with_reducible repeat (first|refine blk_drewN ?_ _|refine blk_drew ?_|refine blk_alloc ?_ _));refine blk_put (cs:=#[.int .i64 t137,.int .i64 t138,.slice Ao26 t139.length co26,.string (⟨#[]⟩ : ByteArray)]) ?_ 3 _ rfl;(with_reducible repeat (first|refine blk_drewN ?_ _|refine blk_drew ?_|refine blk_alloc ?_ _));refine blk_put (cs:=#[.int .i64 t137,.int .i64 t138,.slice none 0 0,.string (⟨#[]⟩ : ByteArray)]) ?_ 2 _ rfl;(with_reducible repeat (first|refine blk_drewN ?_ _|refine blk_drew ?_|refine blk_alloc ?_ _));refine blk_put (cs:=#[.int .i64 t137,.int .i64 0,.slice none 0 0,.string (⟨#[]⟩ : ByteArray)]) ?_ 1 _ rfl;(with_reducible repeat (first|refine blk_drewN ?_ _|refine blk_drew ?_|refine blk_alloc ?_ _));refine blk_put (cs:=#[.int .i64 0,.int .i64 0,.slice none 0 0,.string (⟨#[]⟩ : ByteArray)]) ?_ 0 _ rfl;(with_reducible repeat (first|refine blk_drewN ?_ _|refine blk_drew ?_|refine blk_alloc ?_ _));exact BK125.out) Tryd.underlying92 rfl (by kernel_rfl)) rfl ?_
           exact ⟨_,by first|rfl|(simp [errW_none,errW_some] <;> rfl)|(simp [*,errW_none,errW_some] <;> rfl),by (with_reducible repeat (first|apply Kd.R_alloc|apply Kd.R_drewN|apply Kd.R_drew));exact Kd.R_mono (Kd.R_far (p:=⟨gb125,3,none⟩) (Kd.R_far (p:=⟨gb125,2,none⟩) (Kd.R_far (p:=⟨gb125,1,none⟩) (Kd.R_far (p:=⟨gb125,0,none⟩) (Kd.R_types HO141.out BK125.out (by decide)) (fun _ hk => hk.2) (.int .i64 t137)) (fun _ hk => hk.2) (.int .i64 t138)) (fun _ hk => hk.2) (.slice Ao26 t139.length co26)) (fun _ hk => hk.2) (.string t142)) (fun _ hk => trivial),by repeat (first|(with_reducible first|exact HB.out|apply below_alloc|apply pw_below_drewN|apply below_drew1|refine below_set ?_ GE125.out)|exact HB.out)⟩
         ·replace c18:=Bool.eq_false_iff.mpr c18
          subst c18
          have H1 : (racewayref25_number.j4 kj11 a0 x1_11 a1) = some (r1,r2,r3,r4):=by rw [if_neg (show ¬ (false = true) by decide)] at H;exact H
          clear H
          have H:=H1
          clear H1
          have H':=Aside0.mk H
          clear H
          go_wp2
          go_meet
          case rel => exact ⟨_,(x1_11),(0),(0),((⟨#[]⟩ : ByteArray)),(by first|rfl|(simp;done)|(simp;decide +kernel)|(simp [*];done)),(by first|exact H'|(subst_vars;exact H')),⟨by have:=HJ3.out;have:=HJ11.out;first|omega|exact Nat.le_refl _⟩,⟨by (with_reducible repeat (first|refine blk_drewN ?_ _|refine blk_drew ?_|refine blk_alloc ?_ _));exact BK125.out⟩,⟨by repeat (first|(with_reducible first|exact HB.out|apply below_alloc|apply pw_below_drewN|apply below_drew1|refine below_set ?_ GE125.out)|exact HB.out)⟩⟩
        case rest =>
         clear HC17
         try clear c1
         try clear p1
         try clear q1
         try clear hx1
         try clear c2
         try clear p2
         try clear c5
         try clear c6
         try clear p6
         try clear c8
         try clear c9
         try clear c9b0
         try clear c10
         try clear c10b0
         try clear p11
         try clear q11
         try clear hx11
         try clear c13
         try clear c13b0
         try clear c13b1
         try clear c15
         try clear c18
         try clear c20
         try clear c22
         try clear hcz25_0
         try clear hcz25_1
         try clear hcz25_2
         try clear hcz25_3
         try clear hfz25_0
         try clear hfz25_1
         try clear hfz25_2
         try clear hfz25_3
         try clear p1
         try clear p11
         try clear p2
         try clear p6
         try clear q1
         try clear q11
         obtain ⟨kq,x1_16,x126000_16,x126001_16,x126003_16,rfl,HA,HJ16,BK125,HB⟩:=hcut
         cases kq with
         | zero => exact absurd HA.out (by simp [racewayref25_number.j4])
         | succ kj16 =>
          have H:=HA.out
          clear HA
          simp only [racewayref25_number.j4] at H
          have HC27:=Aside0.mk H
          clear H
          go_upto_region 16 with (fail)
          go_cut [52] (fun v52 wc => ∃ (kq : Nat) (x52_26 : Bool),v52 = .bool x52_26 ∧ Aside0 (racewayref25_number.j5 kq a0 x1_16 a1 x52_26 = some (r1,r2,r3,r4)) ∧ Aside0 (kq ≤ kj16) ∧ Aside0 (wc.heap[gb125]? = some (.cells #[.int .i64 x126000_16,.int .i64 x126001_16,(.slice none 0 0),.string x126003_16] 92 (0,0))) ∧ Aside0 (Below w.heap.size w wc))
          case first =>
           have H:=HC27.out
           clear HC27
           replace H:=Option.bind_eq_some_iff.mp H
           obtain ⟨t144,A280,H⟩:=H
           replace H : (if t144 = true then (racewayref25_number.j5 kj16 a0 x1_16 a1 true) else ((racewayref25_is.f a0 x1_16 69).bind fun t145 => (racewayref25_number.j5 kj16 a0 x1_16 a1 t145))) = some (r1,r2,r3,r4):=H
           have A28:=Aside0.mk A280
           clear A280
           by_cases c29 : t144 = true
           ·subst c29
            have H1 : (racewayref25_number.j5 kj16 a0 x1_16 a1 true) = some (r1,r2,r3,r4):=by rw [if_pos rfl] at H;exact H
            clear H
            have H:=H1
            clear H1
            have H':=Aside0.mk H
            clear H
            go_wp2_with (first|((with_reducible refine gate_callee (f:=60) rfl ?_);refine goesL_ (some 47) rfl rfl Tryd.func60 (by kernel_rfl) rfl #[.string a0,.int .i64 x1_16,.int .u8 101] rfl (by (try simp only [List.map_toArray,List.map_cons,List.map_nil]);first|done|rfl|(simp only [List.length_drop,List.length_take];rfl)) ?_;(with_reducible refine (racewayref25_is.calls a0 x1_16 101 true _ A28.out).mono ?_);rintro e w' ⟨rfl,⟨nd,rfl⟩⟩;refine ⟨_,rfl,?_⟩))
            go_meet
            case rel => exact ⟨_,(true),(by first|rfl|(simp;done)|(simp;decide +kernel)|(simp [*];done)),(by first|exact H'|(subst_vars;exact H')),⟨by have:=HJ3.out;have:=HJ11.out;have:=HJ16.out;first|omega|exact Nat.le_refl _⟩,⟨by (with_reducible repeat (first|refine blk_drewN ?_ _|refine blk_drew ?_|refine blk_alloc ?_ _));exact BK125.out⟩,⟨by repeat (first|(with_reducible first|exact HB.out|apply below_alloc|apply pw_below_drewN|apply below_drew1|refine below_set ?_ GE125.out)|exact HB.out)⟩⟩
           ·replace c29:=Bool.eq_false_iff.mpr c29
            subst c29
            have H1 : ((racewayref25_is.f a0 x1_16 69).bind fun t145 => (racewayref25_number.j5 kj16 a0 x1_16 a1 t145)) = some (r1,r2,r3,r4):=by rw [if_neg (show ¬ (false = true) by decide)] at H;exact H
            clear H
            have H:=H1
            clear H1
            replace H:=Option.bind_eq_some_iff.mp H
            obtain ⟨t145,A300,H⟩:=H
            replace H : (racewayref25_number.j5 kj16 a0 x1_16 a1 t145) = some (r1,r2,r3,r4):=H
            have A30:=Aside0.mk A300
            clear A300
            have H':=Aside0.mk H
            clear H
            go_wp2_with (first|((with_reducible refine gate_callee (f:=60) rfl ?_);refine goesL_ (some 47) rfl rfl Tryd.func60 (by kernel_rfl) rfl #[.string a0,.int .i64 x1_16,.int .u8 101] rfl (by (try simp only [List.map_toArray,List.map_cons,List.map_nil]);first|done|rfl|(simp only [List.length_drop,List.length_take];rfl)) ?_;(with_reducible refine (racewayref25_is.calls a0 x1_16 101 false _ A28.out).mono ?_);rintro e w' ⟨rfl,⟨nd,rfl⟩⟩;refine ⟨_,rfl,?_⟩)|(go_at_call 60;(with_reducible refine (racewayref25_is.calls a0 x1_16 69 t145 _ A30.out).mono ?_);rintro e w' ⟨rfl,⟨nd,rfl⟩⟩))
            go_meet
            case rel => exact ⟨_,(t145),(by first|rfl|(simp;done)|(simp;decide +kernel)|(simp [*];done)),(by first|exact H'|(subst_vars;exact H')),⟨by have:=HJ3.out;have:=HJ11.out;have:=HJ16.out;first|omega|exact Nat.le_refl _⟩,⟨by (with_reducible repeat (first|refine blk_drewN ?_ _|refine blk_drew ?_|refine blk_alloc ?_ _));exact BK125.out⟩,⟨by repeat (first|(with_reducible first|exact HB.out|apply below_alloc|apply pw_below_drewN|apply below_drew1|refine below_set ?_ GE125.out)|exact HB.out)⟩⟩
          case rest =>
           clear HC27
           try clear c1
           try clear p1
           try clear q1
           try clear hx1
           try clear c2
           try clear p2
           try clear c5
           try clear c6
           try clear p6
           try clear c8
           try clear c9
           try clear c9b0
           try clear c10
           try clear c10b0
           try clear p11
           try clear q11
           try clear hx11
           try clear c13
           try clear c13b0
           try clear c13b1
           try clear c15
           try clear c18
           try clear c20
           try clear c22
           try clear c29
           try clear hcz25_0
           try clear hcz25_1
           try clear hcz25_2
           try clear hcz25_3
           try clear hfz25_0
           try clear hfz25_1
           try clear hfz25_2
           try clear hfz25_3
           try clear p1
           try clear p11
           try clear p2
           try clear p6
           try clear q1
           try clear q11
           obtain ⟨kq,x52_26,rfl,HA,HJ26,BK125,HB⟩:=hcut
           cases kq with
           | zero => exact absurd HA.out (by simp [racewayref25_number.j5])
           | succ kj26 =>
            have H:=HA.out
            clear HA
            simp only [racewayref25_number.j5] at H
            by_cases c31 : x52_26 = true
            ·subst c31
             have H1 : ((racewayref25_is.f a0 (wrap64 (x1_16 + 1)) 43).bind fun t146 => (if t146 = true then (racewayref25_number.j6 kj26 a0 (wrap64 (x1_16 + 1)) a1 true) else ((racewayref25_is.f a0 (wrap64 (x1_16 + 1)) 45).bind fun t147 => (racewayref25_number.j6 kj26 a0 (wrap64 (x1_16 + 1)) a1 t147)))) = some (r1,r2,r3,r4):=by rw [if_pos rfl] at H;exact H
             clear H
             have H:=H1
             clear H1
             have HC32:=Aside0.mk H
             clear H
             go_upto_region 18 with (fail)
             go_cut [62] (fun v62 wc => ∃ (kq : Nat) (x62_31 : Bool),v62 = .bool x62_31 ∧ Aside0 (racewayref25_number.j6 kq a0 (wrap64 (x1_16 + 1)) a1 x62_31 = some (r1,r2,r3,r4)) ∧ Aside0 (kq ≤ kj26) ∧ Aside0 (wc.heap[gb125]? = some (.cells #[.int .i64 x126000_16,.int .i64 x126001_16,(.slice none 0 0),.string x126003_16] 92 (0,0))) ∧ Aside0 (Below w.heap.size w wc))
             case first =>
              have H:=HC32.out
              clear HC32
              replace H:=Option.bind_eq_some_iff.mp H
              obtain ⟨t146,A330,H⟩:=H
              replace H : (if t146 = true then (racewayref25_number.j6 kj26 a0 (wrap64 (x1_16 + 1)) a1 true) else ((racewayref25_is.f a0 (wrap64 (x1_16 + 1)) 45).bind fun t147 => (racewayref25_number.j6 kj26 a0 (wrap64 (x1_16 + 1)) a1 t147))) = some (r1,r2,r3,r4):=H
              have A33:=Aside0.mk A330
              clear A330
              by_cases c34 : t146 = true
              ·subst c34
               have H1 : (racewayref25_number.j6 kj26 a0 (wrap64 (x1_16 + 1)) a1 true) = some (r1,r2,r3,r4):=by rw [if_pos rfl] at H;exact H
               clear H
               have H:=H1
               clear H1
               have H':=Aside0.mk H
               clear H
               go_wp2_with (first|((with_reducible refine gate_callee (f:=60) rfl ?_);refine goesL_ (some 57) rfl rfl Tryd.func60 (by kernel_rfl) rfl #[.string a0,.int .i64 (wrap64 (x1_16 + 1)),.int .u8 43] rfl (by (try simp only [List.map_toArray,List.map_cons,List.map_nil]);first|done|rfl|(simp only [List.length_drop,List.length_take];rfl)) ?_;(with_reducible refine (racewayref25_is.calls a0 (wrap64 (x1_16 + 1)) 43 true _ A33.out).mono ?_);rintro e w' ⟨rfl,⟨nd,rfl⟩⟩;refine ⟨_,rfl,?_⟩))
               go_meet
               case rel => exact ⟨_,(true),(by first|rfl|(simp;done)|(simp;decide +kernel)|(simp [*];done)),(by first|exact H'|(subst_vars;exact H')),⟨by have:=HJ3.out;have:=HJ11.out;have:=HJ16.out;have:=HJ26.out;first|omega|exact Nat.le_refl _⟩,⟨by (with_reducible repeat (first|refine blk_drewN ?_ _|refine blk_drew ?_|refine blk_alloc ?_ _));exact BK125.out⟩,⟨by repeat (first|(with_reducible first|exact HB.out|apply below_alloc|apply pw_below_drewN|apply below_drew1|refine below_set ?_ GE125.out)|exact HB.out)⟩⟩
              ·replace c34:=Bool.eq_false_iff.mpr c34
               subst c34
               have H1 : ((racewayref25_is.f a0 (wrap64 (x1_16 + 1)) 45).bind fun t147 => (racewayref25_number.j6 kj26 a0 (wrap64 (x1_16 + 1)) a1 t147)) = some (r1,r2,r3,r4):=by rw [if_neg (show ¬ (false = true) by decide)] at H;exact H
               clear H
               have H:=H1
               clear H1
               replace H:=Option.bind_eq_some_iff.mp H
               obtain ⟨t147,A350,H⟩:=H
               replace H : (racewayref25_number.j6 kj26 a0 (wrap64 (x1_16 + 1)) a1 t147) = some (r1,r2,r3,r4):=H
               have A35:=Aside0.mk A350
               clear A350
               have H':=Aside0.mk H
               clear H
               go_wp2_with (first|((with_reducible refine gate_callee (f:=60) rfl ?_);refine goesL_ (some 57) rfl rfl Tryd.func60 (by kernel_rfl) rfl #[.string a0,.int .i64 (wrap64 (x1_16 + 1)),.int .u8 43] rfl (by (try simp only [List.map_toArray,List.map_cons,List.map_nil]);first|done|rfl|(simp only [List.length_drop,List.length_take];rfl)) ?_;(with_reducible refine (racewayref25_is.calls a0 (wrap64 (x1_16 + 1)) 43 false _ A33.out).mono ?_);rintro e w' ⟨rfl,⟨nd,rfl⟩⟩;refine ⟨_,rfl,?_⟩)|(go_at_call 60;(with_reducible refine (racewayref25_is.calls a0 (wrap64 (x1_16 + 1)) 45 t147 _ A35.out).mono ?_);rintro e w' ⟨rfl,⟨nd,rfl⟩⟩))
               go_meet
               case rel => exact ⟨_,(t147),(by first|rfl|(simp;done)|(simp;decide +kernel)|(simp [*];done)),(by first|exact H'|(subst_vars;exact H')),⟨by have:=HJ3.out;have:=HJ11.out;have:=HJ16.out;have:=HJ26.out;first|omega|exact Nat.le_refl _⟩,⟨by (with_reducible repeat (first|refine blk_drewN ?_ _|refine blk_drew ?_|refine blk_alloc ?_ _));exact BK125.out⟩,⟨by repeat (first|(with_reducible first|exact HB.out|apply below_alloc|apply pw_below_drewN|apply below_drew1|refine below_set ?_ GE125.out)|exact HB.out)⟩⟩
             case rest =>
              clear HC32
              try clear c1
              try clear p1
              try clear q1
              try clear hx1
              try clear c2
              try clear p2
              try clear c3
              try clear c5
              try clear c6
              try clear p6
              try clear c8
              try clear c9
              try clear c9b0
              try clear c10
              try clear c10b0
              try clear p11
              try clear q11
              try clear hx11
              try clear c13
              try clear c13b0
              try clear c13b1
              try clear c15
              try clear c18
              try clear c20
              try clear c22
              try clear c29
              try clear c31
              try clear c34
              try clear hcz25_0
              try clear hcz25_1
              try clear hcz25_2
              try clear hcz25_3
              try clear hfz25_0
              try clear hfz25_1
              try clear hfz25_2
              try clear hfz25_3
              try clear p1
              try clear p11
              try clear p2
              try clear p6
              try clear q1
              try clear q11
              obtain ⟨kq,x62_31,rfl,HA,HJ31,BK125,HB⟩:=hcut
              cases kq with
              | zero => exact absurd HA.out (by simp [racewayref25_number.j6])
              | succ kj31 =>
               have H:=HA.out
               clear HA
               simp only [racewayref25_number.j6] at H
               have HC36:=Aside0.mk H
               clear H
               go_upto_if 62 with (fail)
               go_cut [1] (fun v1 wc => ∃ (kq : Nat) (x1_35 : Int),v1 = .int .i64 x1_35 ∧ Aside0 (racewayref25_number.j7 kq a0 x1_35 a1 = some (r1,r2,r3,r4)) ∧ Aside0 (kq ≤ kj31) ∧ Aside0 (wc.heap[gb125]? = some (.cells #[.int .i64 x126000_16,.int .i64 x126001_16,(.slice none 0 0),.string x126003_16] 92 (0,0))) ∧ Aside0 (Below w.heap.size w wc))
               case first =>
                have H:=HC36.out
                clear HC36
                by_cases c37 : x62_31 = true
                ·subst c37
                 have H1 : (racewayref25_number.j7 kj31 a0 (wrap64 ((wrap64 (x1_16 + 1)) + 1)) a1) = some (r1,r2,r3,r4):=by rw [if_pos rfl] at H;exact H
                 clear H
                 have H:=H1
                 clear H1
                 have H':=Aside0.mk H
                 clear H
                 go_wp2
                 go_meet
                 case rel => exact ⟨_,(wrap64 ((wrap64 (x1_16 + 1)) + 1)),(by first|rfl|(simp;done)|(simp;decide +kernel)|(simp [*];done)),(by first|exact H'|(subst_vars;exact H')),⟨by have:=HJ3.out;have:=HJ11.out;have:=HJ16.out;have:=HJ26.out;have:=HJ31.out;first|omega|exact Nat.le_refl _⟩,⟨by (with_reducible repeat (first|refine blk_drewN ?_ _|refine blk_drew ?_|refine blk_alloc ?_ _));exact BK125.out⟩,⟨by repeat (first|(with_reducible first|exact HB.out|apply below_alloc|apply pw_below_drewN|apply below_drew1|refine below_set ?_ GE125.out)|exact HB.out)⟩⟩
                ·replace c37:=Bool.eq_false_iff.mpr c37
                 subst c37
                 have H1 : (racewayref25_number.j7 kj31 a0 (wrap64 (x1_16 + 1)) a1) = some (r1,r2,r3,r4):=by rw [if_neg (show ¬ (false = true) by decide)] at H;exact H
                 clear H
                 have H:=H1
                 clear H1
                 have H':=Aside0.mk H
                 clear H
                 go_wp2
                 go_meet
                 case rel => exact ⟨_,((wrap64 (x1_16 + 1))),(by first|rfl|(simp;done)|(simp;decide +kernel)|(simp [*];done)),(by first|exact H'|(subst_vars;exact H')),⟨by have:=HJ3.out;have:=HJ11.out;have:=HJ16.out;have:=HJ26.out;have:=HJ31.out;first|omega|exact Nat.le_refl _⟩,⟨by (with_reducible repeat (first|refine blk_drewN ?_ _|refine blk_drew ?_|refine blk_alloc ?_ _));exact BK125.out⟩,⟨by repeat (first|(with_reducible first|exact HB.out|apply below_alloc|apply pw_below_drewN|apply below_drew1|refine below_set ?_ GE125.out)|exact HB.out)⟩⟩
               case rest =>
                clear HC36
                try clear c1
                try clear p1
                try clear q1
                try clear hx1
                try clear c2
                try clear p2
                try clear c3
                try clear c5
                try clear c6
                try clear p6
                try clear c8
                try clear c9
                try clear c9b0
                try clear c10
                try clear c10b0
                try clear p11
                try clear q11
                try clear hx11
                try clear c13
                try clear c13b0
                try clear c13b1
                try clear c15
                try clear c18
                try clear c20
                try clear c22
                try clear c29
                try clear c31
                try clear c34
                try clear c37
                try clear hcz25_0
                try clear hcz25_1
                try clear hcz25_2
                try clear hcz25_3
                try clear hfz25_0
                try clear hfz25_1
                try clear hfz25_2
                try clear hfz25_3
                try clear p1
                try clear p11
                try clear p2
                try clear p6
                try clear q1
                try clear q11
                obtain ⟨kq,x1_35,rfl,HA,HJ35,BK125,HB⟩:=hcut
                cases kq with
                | zero => exact absurd HA.out (by simp [racewayref25_number.j7])
                | succ kj35 =>
                 have H:=HA.out
                 clear HA
                 simp only [racewayref25_number.j7] at H
                 replace H:=Option.bind_eq_some_iff.mp H
                 obtain ⟨t148,A380,H⟩:=H
                 replace H : (if t148 = true then (racewayref25_number.l2 kj35 a0 x1_35 a1) else ((racewayref25_fail.f x1_35).bind fun bt149 => (some (bt149.1,bt149.2.1,bt149.2.2.1,bt149.2.2.2)))) = some (r1,r2,r3,r4):=H
                 have A38:=Aside0.mk A380
                 clear A380
                 by_cases c39 : t148 = true
                 ·subst c39
                  have H1 : (racewayref25_number.l2 kj35 a0 x1_35 a1) = some (r1,r2,r3,r4):=by rw [if_pos rfl] at H;exact H
                  clear H
                  have H:=H1
                  clear H1
                  have H':=Aside0.mk H
                  clear H
                  go_wp2_with (first|((with_reducible refine gate_callee (f:=61) rfl ?_);refine goesL_ (some 67) rfl rfl Tryd.func61 (by kernel_rfl) rfl #[.string a0,.int .i64 x1_35] rfl (by (try simp only [List.map_toArray,List.map_cons,List.map_nil]);first|done|rfl|(simp only [List.length_drop,List.length_take];rfl)) ?_;(with_reducible refine (racewayref25_digit.calls a0 x1_35 true _ A38.out).mono ?_);rintro e w' ⟨rfl,⟨nd,rfl⟩⟩;refine ⟨_,rfl,?_⟩))
                  go_loopg [1] kj35 (fun kq v1 w' => ∃ (x1_7 : Int),v1 = .int .i64 x1_7 ∧ Aside0 (racewayref25_number.l2 kq a0 x1_7 a1 = some (r1,r2,r3,r4)) ∧ Aside0 (kq ≤ kj35) ∧ Aside0 (w'.heap[gb125]? = some (.cells #[.int .i64 x126000_16,.int .i64 x126001_16,(.slice none 0 0),.string x126003_16] 92 (0,0))) ∧ Aside0 (Below w.heap.size w w'))
                  case atStart => exact ⟨(x1_35),(by first|rfl|(simp;done)|(simp;decide +kernel)|(simp [*];done)),(by first|exact H'|(subst_vars;exact H')),⟨Nat.le_refl _⟩,⟨by (with_reducible repeat (first|refine blk_drewN ?_ _|refine blk_drew ?_|refine blk_alloc ?_ _));exact BK125.out⟩,⟨by repeat (first|(with_reducible first|exact HB.out|apply below_alloc|apply pw_below_drewN|apply below_drew1|refine below_set ?_ GE125.out)|exact HB.out)⟩⟩
                  case round =>
                   clear H'
                   try clear c1
                   try clear p1
                   try clear q1
                   try clear hx1
                   try clear c2
                   try clear p2
                   try clear c3
                   try clear c5
                   try clear c6
                   try clear p6
                   try clear c8
                   try clear c9
                   try clear c9b0
                   try clear c10
                   try clear c10b0
                   try clear p11
                   try clear q11
                   try clear hx11
                   try clear c13
                   try clear c13b0
                   try clear c13b1
                   try clear c15
                   try clear c18
                   try clear c20
                   try clear c22
                   try clear c29
                   try clear c31
                   try clear c34
                   try clear c37
                   try clear c39
                   try clear hcz25_0
                   try clear hcz25_1
                   try clear hcz25_2
                   try clear hcz25_3
                   try clear hfz25_0
                   try clear hfz25_1
                   try clear hfz25_2
                   try clear hfz25_3
                   try clear p1
                   try clear p11
                   try clear p2
                   try clear p6
                   try clear q1
                   try clear q11
                   obtain ⟨x1_7,rfl,HA,HK7,BK125,HB⟩:=hrel
                   cases gk with
                   | zero => exact absurd HA.out (by simp [racewayref25_number.l2])
                   | succ k7 =>
                    have H:=HA.out
                    clear HA
                    simp only [racewayref25_number.l2] at H
                    replace H:=Option.bind_eq_some_iff.mp H
                    obtain ⟨t155,A400,H⟩:=H
                    replace H : (if t155 = true then (racewayref25_number.l2 k7 a0 (wrap64 (x1_7 + 1)) a1) else (if 0 ≤ a1 then (if a1 ≤ x1_7 then (if x1_7 ≤ (a0.size : Int) then (some (x1_7,0,([] : List (S24)),a0.extract (a1 : Int).toNat (x1_7 : Int).toNat)) else (none)) else (none)) else (none))) = some (r1,r2,r3,r4):=H
                    have A40:=Aside0.mk A400
                    clear A400
                    by_cases c41 : t155 = true
                    ·subst c41
                     have H1 : (racewayref25_number.l2 k7 a0 (wrap64 (x1_7 + 1)) a1) = some (r1,r2,r3,r4):=by rw [if_pos rfl] at H;exact H
                     clear H
                     have H:=H1
                     clear H1
                     have H':=Aside0.mk H
                     clear H
                     go_wp2_with (first|((with_reducible refine gate_callee (f:=61) rfl ?_);refine goesL_ (some 73) rfl rfl Tryd.func61 (by kernel_rfl) rfl #[.string a0,.int .i64 x1_7] rfl (by (try simp only [List.map_toArray,List.map_cons,List.map_nil]);first|done|rfl|(simp only [List.length_drop,List.length_take];rfl)) ?_;(with_reducible refine (racewayref25_digit.calls a0 x1_7 true _ A40.out).mono ?_);rintro e w' ⟨rfl,⟨nd,rfl⟩⟩;refine ⟨_,rfl,?_⟩))
                     go_roundg k7
                     case measure => have:=HJ3.out;have:=HJ11.out;have:=HJ16.out;have:=HJ26.out;have:=HJ31.out;have:=HJ35.out;have:=HK7.out;omega
                     case rel => exact ⟨(wrap64 (x1_7 + 1)),(by first|rfl|(simp;done)|(simp;decide +kernel)|(simp [*];done)),(by first|exact H'|(subst_vars;exact H')),⟨by have:=HJ3.out;have:=HJ11.out;have:=HJ16.out;have:=HJ26.out;have:=HJ31.out;have:=HJ35.out;have:=HK7.out;omega⟩,⟨by (with_reducible repeat (first|refine blk_drewN ?_ _|refine blk_drew ?_|refine blk_alloc ?_ _));exact BK125.out⟩,⟨by repeat (first|(with_reducible first|exact HB.out|apply below_alloc|apply pw_below_drewN|apply below_drew1|refine below_set ?_ GE125.out)|exact HB.out)⟩⟩
                    ·replace c41:=Bool.eq_false_iff.mpr c41
                     subst c41
                     have H1 : (if 0 ≤ a1 then (if a1 ≤ x1_7 then (if x1_7 ≤ (a0.size : Int) then (some (x1_7,0,([] : List (S24)),a0.extract (a1 : Int).toNat (x1_7 : Int).toNat)) else (none)) else (none)) else (none)) = some (r1,r2,r3,r4):=by rw [if_neg (show ¬ (false = true) by decide)] at H;exact H
                     clear H
                     have H:=H1
                     clear H1
                     by_cases c42 : 0 ≤ a1
                     ·rw [if_pos c42] at H
                      have c42b0:=eq_true c42
                      have c42b1 : decide (0 ≤ a1) = true:=decide_eq_true c42
                      clear c42
                      by_cases c43 : a1 ≤ x1_7
                      ·rw [if_pos c43] at H
                       have c43b0:=eq_true c43
                       have c43b1 : decide (a1 ≤ x1_7) = true:=decide_eq_true c43
                       clear c43
                       by_cases c44 : x1_7 ≤ (a0.size : Int)
                       ·rw [if_pos c44] at H
                        have c44b0:=eq_true c44
                        have c44b1 : decide (x1_7 ≤ (a0.size : Int)) = true:=decide_eq_true c44
                        clear c44
                        simp only [Option.some.injEq,Prod.mk.injEq] at H
                        obtain ⟨rfl,rfl,rfl,rfl⟩:=H
                        go_wp2_with (first|((with_reducible refine gate_callee (f:=61) rfl ?_);refine goesL_ (some 73) rfl rfl Tryd.func61 (by kernel_rfl) rfl #[.string a0,.int .i64 x1_7] rfl (by (try simp only [List.map_toArray,List.map_cons,List.map_nil]);first|done|rfl|(simp only [List.length_drop,List.length_take];rfl)) ?_;(with_reducible refine (racewayref25_digit.calls a0 x1_7 false _ A40.out).mono ?_);rintro e w' ⟨rfl,⟨nd,rfl⟩⟩;refine ⟨_,rfl,?_⟩;(try (rw [drewN_self wr];generalize hq_ : World.drewN wr _ = wr;have n0_ : Aside0 (wr.heap[gb125]? = some (.cells #[.int .i64 x126000_16,.int .i64 x126001_16,.slice none 0 0,.string x126003_16] 92 (0,0))):=⟨by rw [← hq_];exact (by (with_reducible repeat (first|refine blk_drewN ?_ _|refine blk_drew ?_|refine blk_alloc ?_ _));exact BK125.out)⟩;have n1_ : Aside0 (Below w.heap.size w wr):=⟨by rw [← hq_];exact (by repeat (first|(with_reducible first|exact HB.out|apply below_alloc|apply pw_below_drewN|apply below_drew1|refine below_set ?_ GE125.out)|exact HB.out))⟩;clear BK125 HB hq_;have BK125:=n0_;have HB:=n1_;clear n0_ n1_));have hcz45_0 : wr.cell? ⟨gb125,0,none⟩ = some (.int .i64 x126000_16):=(blk_cell BK125.out 0).trans rfl;have hcz45_1 : wr.cell? ⟨gb125,1,none⟩ = some (.int .i64 x126001_16):=(blk_cell BK125.out 1).trans rfl;have hcz45_2 : wr.cell? ⟨gb125,2,none⟩ = some (.slice none 0 0):=(blk_cell BK125.out 2).trans rfl;have hcz45_3 : wr.cell? ⟨gb125,3,none⟩ = some (.string x126003_16):=(blk_cell BK125.out 3).trans rfl;have hfz45_0:=blk_frozen BK125.out 0;have hfz45_1:=blk_frozen BK125.out 1;have hfz45_2:=blk_frozen BK125.out 2;have hfz45_3:=blk_frozen BK125.out 3))
                        refine bodyPost_ret (results_cell_row rfl _ _ gb125 92 #[.int .i64 x1_7,.int .i64 0,.slice none 0 0,.string (a0.extract (a1 : Int).toNat (x1_7 : Int).toNat)] (0,0) _ rfl (by (with_reducible repeat (first|refine blk_drewN ?_ _|refine blk_drew ?_|refine blk_alloc ?_ _));refine blk_put (cs:=#[.int .i64 x1_7,.int .i64 0,.slice none 0 0,.string x126003_16]) ?_ 3 _ rfl;(with_reducible repeat (first|refine blk_drewN ?_ _|refine blk_drew ?_|refine blk_alloc ?_ _));refine blk_put (cs:=#[.int .i64 x1_7,.int .i64 0,.slice none 0 0,.string x126003_16]) ?_ 2 _ rfl;(with_reducible repeat (first|refine blk_drewN ?_ _|refine blk_drew ?_|refine blk_alloc ?_ _));refine blk_put (cs:=#[.int .i64 x1_7,.int .i64 x126001_16,.slice none 0 0,.string x126003_16]) ?_ 1 _ rfl;(with_reducible repeat (first|refine blk_drewN ?_ _|refine blk_drew ?_|refine blk_alloc ?_ _));refine blk_put (cs:=#[.int .i64 x126000_16,.int .i64 x126001_16,.slice none 0 0,.string x126003_16]) ?_ 0 _ rfl;(with_reducible repeat (first|refine blk_drewN ?_ _|refine blk_drew ?_|refine blk_alloc ?_ _));exact BK125.out) Tryd.underlying92 rfl (by kernel_rfl)) rfl ?_
                        exact ⟨_,by first|rfl|(simp [errW_none,errW_some] <;> rfl)|(simp [*,errW_none,errW_some] <;> rfl),by first|exact Kd.R_nil _ _ _ _ _|exact Kd.N_nil _ _ _ _ _|exact Kd.V_nil _ _ _ _ _|exact Kd.Q_nil _ _ _ _ _|exact Kd.S_nil _ _ _ _ _,by repeat (first|(with_reducible first|exact HB.out|apply below_alloc|apply pw_below_drewN|apply below_drew1|refine below_set ?_ GE125.out)|exact HB.out)⟩
                       ·rw [if_neg c44] at H
                        exact absurd H (by simp)
                      ·rw [if_neg c43] at H
                       exact absurd H (by simp)
                     ·rw [if_neg c42] at H
                      exact absurd H (by simp)
                 ·replace c39:=Bool.eq_false_iff.mpr c39
                  subst c39
                  have H1 : ((racewayref25_fail.f x1_35).bind fun bt149 => (some (bt149.1,bt149.2.1,bt149.2.2.1,bt149.2.2.2))) = some (r1,r2,r3,r4):=by rw [if_neg (show ¬ (false = true) by decide)] at H;exact H
                  clear H
                  have H:=H1
                  clear H1
                  replace H:=Option.bind_eq_some_iff.mp H
                  obtain ⟨⟨t149,t150,t151,t154⟩,A460,H⟩:=H
                  replace H : (some (t149,t150,t151,t154)) = some (r1,r2,r3,r4):=H
                  have A46:=Aside0.mk A460
                  clear A460
                  simp only [Option.some.injEq,Prod.mk.injEq] at H
                  obtain ⟨rfl,rfl,rfl,rfl⟩:=H
                  go_wp2_with (first|((with_reducible refine gate_callee (f:=61) rfl ?_);refine goesL_ (some 67) rfl rfl Tryd.func61 (by kernel_rfl) rfl #[.string a0,.int .i64 x1_35] rfl (by (try simp only [List.map_toArray,List.map_cons,List.map_nil]);first|done|rfl|(simp only [List.length_drop,List.length_take];rfl)) ?_;(with_reducible refine (racewayref25_digit.calls a0 x1_35 false _ A38.out).mono ?_);rintro e w' ⟨rfl,⟨nd,rfl⟩⟩;refine ⟨_,rfl,?_⟩;(try (rw [drewN_self wc];generalize hq_ : World.drewN wc _ = wc;have n0_ : Aside0 (wc.heap[gb125]? = some (.cells #[.int .i64 x126000_16,.int .i64 x126001_16,.slice none 0 0,.string x126003_16] 92 (0,0))):=⟨by rw [← hq_];exact (by (with_reducible repeat (first|refine blk_drewN ?_ _|refine blk_drew ?_|refine blk_alloc ?_ _));exact BK125.out)⟩;have n1_ : Aside0 (Below w.heap.size w wc):=⟨by rw [← hq_];exact (by repeat (first|(with_reducible first|exact HB.out|apply below_alloc|apply pw_below_drewN|apply below_drew1|refine below_set ?_ GE125.out)|exact HB.out))⟩;clear BK125 HB hq_;have BK125:=n0_;have HB:=n1_;clear n0_ n1_)))|((with_reducible refine gate_callee (f:=62) rfl ?_);refine goesL_ (some 70) rfl rfl Tryd.func62 (by kernel_rfl) rfl #[.int .i64 x1_35] rfl (by (try simp only [List.map_toArray,List.map_cons,List.map_nil]);first|done|rfl|(simp only [List.length_drop,List.length_take];rfl)) ?_;(with_reducible refine (racewayref25_fail.calls x1_35 t149 t150 t151 t154 _ A46.out).mono ?_);rintro e w47 ⟨v152,rfl,ho0,hb⟩;refine ⟨_,rfl,?_⟩;have n0_:=Aside0.mk (Kd.R_lower ho0 (below_size (by repeat (first|(with_reducible first|exact HB.out|apply below_alloc|apply pw_below_drewN|apply below_drew1|refine below_set ?_ GE125.out)|exact HB.out))));have n1_:=Aside0.mk (blk_below (g:=gb125) (o:=.cells #[.int .i64 x126000_16,.int .i64 x126001_16,.slice none 0 0,.string x126003_16] 92 (0,0)) (by (with_reducible repeat (first|refine blk_drewN ?_ _|refine blk_drew ?_|refine blk_alloc ?_ _));exact BK125.out) hb);have n2_:=Aside0.mk (below_step (by repeat (first|(with_reducible first|exact HB.out|apply below_alloc|apply pw_below_drewN|apply below_drew1|refine below_set ?_ GE125.out)|exact HB.out)) hb);clear BK125;clear HB;have HO153:=n0_;have BK125:=n1_;have HB:=n2_;clear n0_ n1_ n2_;(try clear hb);(try clear hb2);(try clear hk);(try clear hi);(try clear ho0);have hcz48_0 : w47.cell? ⟨gb125,0,none⟩ = some (.int .i64 x126000_16):=(blk_cell BK125.out 0).trans rfl;have hcz48_1 : w47.cell? ⟨gb125,1,none⟩ = some (.int .i64 x126001_16):=(blk_cell BK125.out 1).trans rfl;have hcz48_2 : w47.cell? ⟨gb125,2,none⟩ = some (.slice none 0 0):=(blk_cell BK125.out 2).trans rfl;have hcz48_3 : w47.cell? ⟨gb125,3,none⟩ = some (.string x126003_16):=(blk_cell BK125.out 3).trans rfl;have hfz48_0:=blk_frozen BK125.out 0;have hfz48_1:=blk_frozen BK125.out 1;have hfz48_2:=blk_frozen BK125.out 2;have hfz48_3:=blk_frozen BK125.out 3;obtain ⟨Ao49,co49,eo49⟩:=Kd.R_slice HO153.out;subst eo49))
                  refine bodyPost_ret (results_cell_row rfl _ _ gb125 92 #[.int .i64 t149,.int .i64 t150,.slice Ao49 t151.length co49,.string t154] (0,0) _ rfl (by (with_reducible repeat (first|refine blk_drewN ?_ _|refine blk_drew ?_|refine blk_alloc ?_ _));refine blk_put (cs:=#[.int .i64 t149,.int .i64 t150,.slice Ao49 t151.length co49,.string x126003_16]) ?_ 3 _ rfl;(with_reducible repeat (first|refine blk_drewN ?_ _|refine blk_drew ?_|refine blk_alloc ?_ _));refine blk_put (cs:=#[.int .i64 t149,.int .i64 t150,.slice none 0 0,.string x126003_16]) ?_ 2 _ rfl;(with_reducible repeat (first|refine blk_drewN ?_ _|refine blk_drew ?_|refine blk_alloc ?_ _));refine blk_put (cs:=#[.int .i64 t149,.int .i64 x126001_16,.slice none 0 0,.string x126003_16]) ?_ 1 _ rfl;(with_reducible repeat (first|refine blk_drewN ?_ _|refine blk_drew ?_|refine blk_alloc ?_ _));refine blk_put (cs:=#[.int .i64 x126000_16,.int .i64 x126001_16,.slice none 0 0,.string x126003_16]) ?_ 0 _ rfl;(with_reducible repeat (first|refine blk_drewN ?_ _|refine blk_drew ?_|refine blk_alloc ?_ _));exact BK125.out) Tryd.underlying92 rfl (by kernel_rfl)) rfl ?_
                  exact ⟨_,by first|rfl|(simp [errW_none,errW_some] <;> rfl)|(simp [*,errW_none,errW_some] <;> rfl),by (with_reducible repeat (first|apply Kd.R_alloc|apply Kd.R_drewN|apply Kd.R_drew));exact Kd.R_mono (Kd.R_far (p:=⟨gb125,3,none⟩) (Kd.R_far (p:=⟨gb125,2,none⟩) (Kd.R_far (p:=⟨gb125,1,none⟩) (Kd.R_far (p:=⟨gb125,0,none⟩) (Kd.R_types HO153.out BK125.out (by decide)) (fun _ hk => hk.2) (.int .i64 t149)) (fun _ hk => hk.2) (.int .i64 t150)) (fun _ hk => hk.2) (.slice Ao49 t151.length co49)) (fun _ hk => hk.2) (.string t154)) (fun _ hk => trivial),by repeat (first|(with_reducible first|exact HB.out|apply below_alloc|apply pw_below_drewN|apply below_drew1|refine below_set ?_ GE125.out)|exact HB.out)⟩
            ·replace c31:=Bool.eq_false_iff.mpr c31
             subst c31
             have H1 : (if 0 ≤ a1 then (if a1 ≤ x1_16 then (if x1_16 ≤ (a0.size : Int) then (some (x1_16,0,([] : List (S24)),a0.extract (a1 : Int).toNat (x1_16 : Int).toNat)) else (none)) else (none)) else (none)) = some (r1,r2,r3,r4):=by rw [if_neg (show ¬ (false = true) by decide)] at H;exact H
             clear H
             have H:=H1
             clear H1
             by_cases c50 : 0 ≤ a1
             ·rw [if_pos c50] at H
              have c50b0:=eq_true c50
              have c50b1 : decide (0 ≤ a1) = true:=decide_eq_true c50
              clear c50
              by_cases c51 : a1 ≤ x1_16
              ·rw [if_pos c51] at H
               have c51b0:=eq_true c51
               have c51b1 : decide (a1 ≤ x1_16) = true:=decide_eq_true c51
               clear c51
               by_cases c52 : x1_16 ≤ (a0.size : Int)
               ·rw [if_pos c52] at H
                have c52b0:=eq_true c52
                have c52b1 : decide (x1_16 ≤ (a0.size : Int)) = true:=decide_eq_true c52
                clear c52
                simp only [Option.some.injEq,Prod.mk.injEq] at H
                obtain ⟨rfl,rfl,rfl,rfl⟩:=H
                have hcz53_0 : wc.cell? ⟨gb125,0,none⟩ = some (.int .i64 x126000_16):=(blk_cell BK125.out 0).trans rfl
                have hcz53_1 : wc.cell? ⟨gb125,1,none⟩ = some (.int .i64 x126001_16):=(blk_cell BK125.out 1).trans rfl
                have hcz53_2 : wc.cell? ⟨gb125,2,none⟩ = some (.slice none 0 0):=(blk_cell BK125.out 2).trans rfl
                have hcz53_3 : wc.cell? ⟨gb125,3,none⟩ = some (.string x126003_16):=(blk_cell BK125.out 3).trans rfl
                have hfz53_0:=blk_frozen BK125.out 0
                have hfz53_1:=blk_frozen BK125.out 1
                have hfz53_2:=blk_frozen BK125.out 2
                have hfz53_3:=blk_frozen BK125.out 3
                go_wp2
                refine bodyPost_ret (results_cell_row rfl _ _ gb125 92 #[.int .i64 x1_16,.int .i64 0,.slice none 0 0,.string (a0.extract (a1 : Int).toNat (x1_16 : Int).toNat)] (0,0) _ rfl (by (with_reducible repeat (first|refine blk_drewN ?_ _|refine blk_drew ?_|refine blk_alloc ?_ _));refine blk_put (cs:=#[.int .i64 x1_16,.int .i64 0,.slice none 0 0,.string x126003_16]) ?_ 3 _ rfl;(with_reducible repeat (first|refine blk_drewN ?_ _|refine blk_drew ?_|refine blk_alloc ?_ _));refine blk_put (cs:=#[.int .i64 x1_16,.int .i64 0,.slice none 0 0,.string x126003_16]) ?_ 2 _ rfl;(with_reducible repeat (first|refine blk_drewN ?_ _|refine blk_drew ?_|refine blk_alloc ?_ _));refine blk_put (cs:=#[.int .i64 x1_16,.int .i64 x126001_16,.slice none 0 0,.string x126003_16]) ?_ 1 _ rfl;(with_reducible repeat (first|refine blk_drewN ?_ _|refine blk_drew ?_|refine blk_alloc ?_ _));refine blk_put (cs:=#[.int .i64 x126000_16,.int .i64 x126001_16,.slice none 0 0,.string x126003_16]) ?_ 0 _ rfl;(with_reducible repeat (first|refine blk_drewN ?_ _|refine blk_drew ?_|refine blk_alloc ?_ _));exact BK125.out) Tryd.underlying92 rfl (by kernel_rfl)) rfl ?_
                exact ⟨_,by first|rfl|(simp [errW_none,errW_some] <;> rfl)|(simp [*,errW_none,errW_some] <;> rfl),by first|exact Kd.R_nil _ _ _ _ _|exact Kd.N_nil _ _ _ _ _|exact Kd.V_nil _ _ _ _ _|exact Kd.Q_nil _ _ _ _ _|exact Kd.S_nil _ _ _ _ _,by repeat (first|(with_reducible first|exact HB.out|apply below_alloc|apply pw_below_drewN|apply below_drew1|refine below_set ?_ GE125.out)|exact HB.out)⟩
               ·rw [if_neg c52] at H
                exact absurd H (by simp)
              ·rw [if_neg c51] at H
               exact absurd H (by simp)
             ·rw [if_neg c50] at H
              exact absurd H (by simp)
     ·rw [if_neg c10] at H
      exact absurd H (by simp)
    ·rw [if_neg c9] at H
     exact absurd H (by simp)
   ·replace c8:=Bool.eq_false_iff.mpr c8
    subst c8
    have H1 : ((racewayref25_fail.f x1_3).bind fun bt128 => (some (bt128.1,bt128.2.1,bt128.2.2.1,bt128.2.2.2))) = some (r1,r2,r3,r4):=by rw [if_neg (show ¬ (false = true) by decide)] at H;exact H
    clear H
    have H:=H1
    clear H1
    replace H:=Option.bind_eq_some_iff.mp H
    obtain ⟨⟨t128,t129,t130,t133⟩,A540,H⟩:=H
    replace H : (some (t128,t129,t130,t133)) = some (r1,r2,r3,r4):=H
    have A54:=Aside0.mk A540
    clear A540
    simp only [Option.some.injEq,Prod.mk.injEq] at H
    obtain ⟨rfl,rfl,rfl,rfl⟩:=H
    go_wp2_with (first|((with_reducible refine gate_callee (f:=61) rfl ?_);refine goesL_ (some 14) rfl rfl Tryd.func61 (by kernel_rfl) rfl #[.string a0,.int .i64 x1_3] rfl (by (try simp only [List.map_toArray,List.map_cons,List.map_nil]);first|done|rfl|(simp only [List.length_drop,List.length_take];rfl)) ?_;(with_reducible refine (racewayref25_digit.calls a0 x1_3 false _ A7.out).mono ?_);rintro e w' ⟨rfl,⟨nd,rfl⟩⟩;refine ⟨_,rfl,?_⟩;(try (rw [drewN_self wc];generalize hq_ : World.drewN wc _ = wc;have n0_ : Aside0 (wc.heap[gb125]? = some (.cells #[.int .i64 0,.int .i64 0,.slice none 0 0,.string (⟨#[]⟩ : ByteArray)] 92 (0,0))):=⟨by rw [← hq_];exact (by (with_reducible repeat (first|refine blk_drewN ?_ _|refine blk_drew ?_|refine blk_alloc ?_ _));exact BK125.out)⟩;have n1_ : Aside0 (Below w.heap.size w wc):=⟨by rw [← hq_];exact (by repeat (first|(with_reducible first|exact HB.out|apply below_alloc|apply pw_below_drewN|apply below_drew1|refine below_set ?_ GE125.out)|exact HB.out))⟩;clear BK125 HB hq_;have BK125:=n0_;have HB:=n1_;clear n0_ n1_)))|((with_reducible refine gate_callee (f:=62) rfl ?_);refine goesL_ (some 17) rfl rfl Tryd.func62 (by kernel_rfl) rfl #[.int .i64 x1_3] rfl (by (try simp only [List.map_toArray,List.map_cons,List.map_nil]);first|done|rfl|(simp only [List.length_drop,List.length_take];rfl)) ?_;(with_reducible refine (racewayref25_fail.calls x1_3 t128 t129 t130 t133 _ A54.out).mono ?_);rintro e w55 ⟨v131,rfl,ho0,hb⟩;refine ⟨_,rfl,?_⟩;have n0_:=Aside0.mk (Kd.R_lower ho0 (below_size (by repeat (first|(with_reducible first|exact HB.out|apply below_alloc|apply pw_below_drewN|apply below_drew1|refine below_set ?_ GE125.out)|exact HB.out))));have n1_:=Aside0.mk (blk_below (g:=gb125) (o:=.cells #[.int .i64 0,.int .i64 0,.slice none 0 0,.string (⟨#[]⟩ : ByteArray)] 92 (0,0)) (by (with_reducible repeat (first|refine blk_drewN ?_ _|refine blk_drew ?_|refine blk_alloc ?_ _));exact BK125.out) hb);have n2_:=Aside0.mk (below_step (by repeat (first|(with_reducible first|exact HB.out|apply below_alloc|apply pw_below_drewN|apply below_drew1|refine below_set ?_ GE125.out)|exact HB.out)) hb);clear BK125;clear HB;have HO132:=n0_;have BK125:=n1_;have HB:=n2_;clear n0_ n1_ n2_;(try clear hb);(try clear hb2);(try clear hk);(try clear hi);(try clear ho0);have hcz56_0 : w55.cell? ⟨gb125,0,none⟩ = some (.int .i64 0):=(blk_cell BK125.out 0).trans rfl;have hcz56_1 : w55.cell? ⟨gb125,1,none⟩ = some (.int .i64 0):=(blk_cell BK125.out 1).trans rfl;have hcz56_2 : w55.cell? ⟨gb125,2,none⟩ = some (.slice none 0 0):=(blk_cell BK125.out 2).trans rfl;have hcz56_3 : w55.cell? ⟨gb125,3,none⟩ = some (.string (⟨#[]⟩ : ByteArray)):=(blk_cell BK125.out 3).trans rfl;have hfz56_0:=blk_frozen BK125.out 0;have hfz56_1:=blk_frozen BK125.out 1;have hfz56_2:=blk_frozen BK125.out 2;have hfz56_3:=blk_frozen BK125.out 3;obtain ⟨Ao57,co57,eo57⟩:=Kd.R_slice HO132.out;subst eo57))
    refine bodyPost_ret (results_cell_row rfl _ _ gb125 92 #[.int .i64 t128,.int .i64 t129,.slice Ao57 t130.length co57,.string t133] (0,0) _ rfl (by (with_reducible repeat (first|refine blk_drewN ?_ _|refine blk_drew ?_|refine blk_alloc ?_ _));refine blk_put (cs:=#[.int .i64 t128,.int .i64 t129,.slice Ao57 t130.length co57,.string (⟨#[]⟩ : ByteArray)]) ?_ 3 _ rfl;(with_reducible repeat (first|refine blk_drewN ?_ _|refine blk_drew ?_|refine blk_alloc ?_ _));refine blk_put (cs:=#[.int .i64 t128,.int .i64 t129,.slice none 0 0,.string (⟨#[]⟩ : ByteArray)]) ?_ 2 _ rfl;(with_reducible repeat (first|refine blk_drewN ?_ _|refine blk_drew ?_|refine blk_alloc ?_ _));refine blk_put (cs:=#[.int .i64 t128,.int .i64 0,.slice none 0 0,.string (⟨#[]⟩ : ByteArray)]) ?_ 1 _ rfl;(with_reducible repeat (first|refine blk_drewN ?_ _|refine blk_drew ?_|refine blk_alloc ?_ _));refine blk_put (cs:=#[.int .i64 0,.int .i64 0,.slice none 0 0,.string (⟨#[]⟩ : ByteArray)]) ?_ 0 _ rfl;(with_reducible repeat (first|refine blk_drewN ?_ _|refine blk_drew ?_|refine blk_alloc ?_ _));exact BK125.out) Tryd.underlying92 rfl (by kernel_rfl)) rfl ?_
    exact ⟨_,by first|rfl|(simp [errW_none,errW_some] <;> rfl)|(simp [*,errW_none,errW_some] <;> rfl),by (with_reducible repeat (first|apply Kd.R_alloc|apply Kd.R_drewN|apply Kd.R_drew));exact Kd.R_mono (Kd.R_far (p:=⟨gb125,3,none⟩) (Kd.R_far (p:=⟨gb125,2,none⟩) (Kd.R_far (p:=⟨gb125,1,none⟩) (Kd.R_far (p:=⟨gb125,0,none⟩) (Kd.R_types HO132.out BK125.out (by decide)) (fun _ hk => hk.2) (.int .i64 t128)) (fun _ hk => hk.2) (.int .i64 t129)) (fun _ hk => hk.2) (.slice Ao57 t130.length co57)) (fun _ hk => hk.2) (.string t133)) (fun _ hk => trivial),by repeat (first|(with_reducible first|exact HB.out|apply below_alloc|apply pw_below_drewN|apply below_drew1|refine below_set ?_ GE125.out)|exact HB.out)⟩
end Go.Proofs.YtjehflambbjoaaaDoor.X
namespace Go.Proofs.YtjehflambbjoaaaDoor.X
open Go.RowKit Go.Proofs.YtjehflambbjoaaaDoorW.PrintWords Go.Proofs.YtjehflambbjoaaaDoorW.PrintLast Go.Proofs.YtjehflambbjoaaaDoorW.PrintMore
attribute [local go_sem] max2_int min2_int max_two min_two max_three min_three max_four min_four
set_option linter.unusedVariables false
set_option linter.unusedSimpArgs false
mutual
def racewayref25_Sign.j0 : Nat → ByteArray → Int → Int → Int → Int → Int → Bool → Option (Int)
 | 0,_,_,_,_,_,_,_ => none
 | k + 1,x0,x1,x5,x6,x7,x8,x22 => if x22 = true then (racewayref25_Sign.j2 k x0 x1 2 (wrap64 (x5 - 192)) 128) else (if x5 ≥ 224 then (racewayref25_Sign.j1 k x0 x1 x5 x6 x7 x8 (decide (x5 ≤ 239))) else (racewayref25_Sign.j1 k x0 x1 x5 x6 x7 x8 false))
def racewayref25_Sign.j2 : Nat → ByteArray → Int → Int → Int → Int → Option (Int)
 | 0,_,_,_,_,_ => none
 | k + 1,x0,x1,x6,x7,x8 => if x6 = 0 then (racewayref25_Sign.j3 k x0 x1 x6 x7 x8 true) else (racewayref25_Sign.j3 k x0 x1 x6 x7 x8 (decide ((wrap64 (x1 + x6)) > (x0.size : Int))))
def racewayref25_Sign.j3 : Nat → ByteArray → Int → Int → Int → Int → Bool → Option (Int)
 | 0,_,_,_,_,_,_ => none
 | k + 1,x0,x1,x6,x7,x8,x50 => if x50 = true then (some 0) else (racewayref25_Sign.l0 k x0 x1 x6 x7 x8 1)
def racewayref25_Sign.l0 : Nat → ByteArray → Int → Int → Int → Int → Int → Option (Int)
 | 0,_,_,_,_,_,_ => none
 | k + 1,x0,x1,x6,x7,x8,x9 => if x9 < x6 then (if 0 ≤ (wrap64 (x1 + x9)) then (if (wrap64 (x1 + x9)) < (x0.size : Int) then (if (wrap64 (bt x0 (wrap64 (x1 + x9)))) < 128 then (some 0) else (if (wrap64 (bt x0 (wrap64 (x1 + x9)))) > 191 then (some 0) else (racewayref25_Sign.l0 k x0 x1 x6 (wrap64 ((wrap64 ((wrap64 (64 * x7)) + (wrap64 (bt x0 (wrap64 (x1 + x9)))))) - 128)) x8 (wrap64 (x9 + 1))))) else (none)) else (none)) else (if x7 < x8 then (some 0) else (if x7 > 1114111 then (some 0) else (if x7 ≥ 55296 then (if x7 ≤ 57343 then (some 0) else (some x6)) else (some x6))))
def racewayref25_Sign.j1 : Nat → ByteArray → Int → Int → Int → Int → Int → Bool → Option (Int)
 | 0,_,_,_,_,_,_,_ => none
 | k + 1,x0,x1,x5,x6,x7,x8,x30 => if x30 = true then (racewayref25_Sign.j2 k x0 x1 3 (wrap64 (x5 - 224)) 2048) else (if x5 ≥ 240 then (if x5 ≤ 244 then (racewayref25_Sign.j2 k x0 x1 4 (wrap64 (x5 - 240)) 65536) else (racewayref25_Sign.j2 k x0 x1 x6 x7 x8)) else (racewayref25_Sign.j2 k x0 x1 x6 x7 x8))
end
def racewayref25_Sign.f (k : Nat) (a0 : ByteArray) (a1 : Int) : Option (Int):=if 0 ≤ a1 then (if a1 < (a0.size : Int) then (if (wrap64 (bt a0 a1)) < 128 then (some 1) else (if (wrap64 (bt a0 a1)) ≥ 194 then (racewayref25_Sign.j0 k a0 a1 (wrap64 (bt a0 a1)) 0 0 0 (decide ((wrap64 (bt a0 a1)) ≤ 223))) else (racewayref25_Sign.j0 k a0 a1 (wrap64 (bt a0 a1)) 0 0 0 false))) else (none)) else (none)
set_option maxHeartbeats 8000000 in
set_option maxRecDepth 100000 in
theorem racewayref25_Sign.calls (k : Nat) (a0 : ByteArray) (a1 : Int) (r : Int) (w : World) (h : racewayref25_Sign.f k a0 a1 = some r) :
  Calls Tryd.prog 46 #[.string a0,.int .i64 a1] w fun e w' => e = .returned (.int .i64 r) ∧ Drawn0 w w':=by
 have H : (if 0 ≤ a1 then (if a1 < (a0.size : Int) then (if (wrap64 (bt a0 a1)) < 128 then (some 1) else (if (wrap64 (bt a0 a1)) ≥ 194 then (racewayref25_Sign.j0 k a0 a1 (wrap64 (bt a0 a1)) 0 0 0 (decide ((wrap64 (bt a0 a1)) ≤ 223))) else (racewayref25_Sign.j0 k a0 a1 (wrap64 (bt a0 a1)) 0 0 0 false))) else (none)) else (none)) = some r:=h
 clear h
 by_cases c3 : 0 ≤ a1
 ·rw [if_pos c3] at H
  have c3b0 : decide (0 ≤ a1) = true:=decide_eq_true c3
  clear c3
  by_cases c4 : a1 < (a0.size : Int)
  ·rw [if_pos c4] at H
   have c4b0 : decide (a1 < (a0.size : Int)) = true:=decide_eq_true c4
   clear c4
   by_cases c6 : (wrap64 (bt a0 a1)) < 128
   ·rw [if_pos c6] at H
    have c6b0 : decide ((wrap64 (bt a0 a1)) < 128) = true:=decide_eq_true c6
    clear c6
    obtain rfl:=Option.some.inj H
    have p5 : 0 ≤ (a1 : Int):=of_decide_eq_true (by first|(with_reducible assumption)|assumption)
    have q5 : a1 < (a0.size : Int):=of_decide_eq_true (by first|(with_reducible assumption)|assumption)
    have hx5:=bt_at a0 a1
    replace p5:=eq_true p5
    replace q5:=eq_true q5
    go_enter Tryd.func46,Tryd.ntmps46
    go_wp2
    go_ret
    exact ⟨by first|rfl|(simp;done)|(simp;decide +kernel)|(simp [*];done),by repeat (first|exact Drawn0.refl _|apply Drawn0.step)⟩
   ·rw [if_neg c6] at H
    have c6b0 : decide ((wrap64 (bt a0 a1)) < 128) = false:=decide_eq_false c6
    clear c6
    have HC7:=Aside0.mk H
    clear H
    have p5 : 0 ≤ (a1 : Int):=of_decide_eq_true (by first|(with_reducible assumption)|assumption)
    have q5 : a1 < (a0.size : Int):=of_decide_eq_true (by first|(with_reducible assumption)|assumption)
    have hx5:=bt_at a0 a1
    replace p5:=eq_true p5
    replace q5:=eq_true q5
    go_enter Tryd.func46,Tryd.ntmps46
    go_upto_region 7 with (fail)
    go_cut [22] (fun v22 wc => ∃ (kq : Nat) (x22_6 : Bool),v22 = .bool x22_6 ∧ Aside0 (racewayref25_Sign.j0 kq a0 a1 (wrap64 (bt a0 a1)) 0 0 0 x22_6 = some r) ∧ Aside0 (kq ≤ k) ∧ Drawn0 w wc)
    case first =>
     have H:=HC7.out
     clear HC7
     by_cases c8 : (wrap64 (bt a0 a1)) ≥ 194
     ·rw [if_pos c8] at H
      have c8b0 : decide (194 ≤ (wrap64 (bt a0 a1))) = true:=decide_eq_true c8
      clear c8
      (first|rw [c8b0]|(simp only [i64_w,i32_w];rw [c8b0])|skip)
      have H':=Aside0.mk H
      clear H
      go_wp2
      go_meet
      case rel => exact ⟨_,(decide ((wrap64 (bt a0 a1)) ≤ 223)),(by first|rfl|(simp;done)|(simp;decide +kernel)|(simp [*];done)),(by first|exact H'|(subst_vars;exact H')),⟨by first|omega|exact Nat.le_refl _⟩,by repeat (first|exact Drawn0.refl _|apply Drawn0.step)⟩
     ·rw [if_neg c8] at H
      have c8b0 : decide (194 ≤ (wrap64 (bt a0 a1))) = false:=decide_eq_false c8
      clear c8
      (first|rw [c8b0]|(simp only [i64_w,i32_w];rw [c8b0])|skip)
      have H':=Aside0.mk H
      clear H
      go_wp2
      go_meet
      case rel => exact ⟨_,(false),(by first|rfl|(simp;done)|(simp;decide +kernel)|(simp [*];done)),(by first|exact H'|(subst_vars;exact H')),⟨by first|omega|exact Nat.le_refl _⟩,by repeat (first|exact Drawn0.refl _|apply Drawn0.step)⟩
    case rest =>
     clear HC7
     try clear p2
     try clear c3
     try clear c3b0
     try clear c4
     try clear c4b0
     try clear p5
     try clear q5
     try clear hx5
     try clear c6
     try clear c6b0
     try clear p6
     try clear c8
     try clear c8b0
     try clear p5
     try clear q5
     obtain ⟨kq,x22_6,rfl,HA,HJ6,⟨mc6,rfl⟩⟩:=hcut
     cases kq with
     | zero => exact absurd HA.out (by simp [racewayref25_Sign.j0])
     | succ kj6 =>
      have H:=HA.out
      clear HA
      simp only [racewayref25_Sign.j0] at H
      have HC9:=Aside0.mk H
      clear H
      go_upto_if 22 with (fail)
      go_cut [6,7,8] (fun v6 v7 v8 wc => ∃ (kq : Nat) (x6_8 : Int) (x7_8 : Int) (x8_8 : Int),v6 = .int .i64 x6_8 ∧ v7 = .int .i64 x7_8 ∧ v8 = .int .i64 x8_8 ∧ Aside0 (racewayref25_Sign.j2 kq a0 a1 x6_8 x7_8 x8_8 = some r) ∧ Aside0 (kq ≤ kj6) ∧ Drawn0 w wc)
      case first =>
       have H:=HC9.out
       clear HC9
       by_cases c10 : x22_6 = true
       ·subst c10
        have H1 : (racewayref25_Sign.j2 kj6 a0 a1 2 (wrap64 ((wrap64 (bt a0 a1)) - 192)) 128) = some r:=by rw [if_pos rfl] at H;exact H
        clear H
        have H:=H1
        clear H1
        have H':=Aside0.mk H
        clear H
        go_wp2
        go_meet
        case rel => exact ⟨_,(2),(wrap64 ((wrap64 (bt a0 a1)) - 192)),(128),(by first|rfl|(simp;done)|(simp;decide +kernel)|(simp [*];done)),(by first|rfl|(simp;done)|(simp;decide +kernel)|(simp [*];done)),(by first|rfl|(simp;done)|(simp;decide +kernel)|(simp [*];done)),(by first|exact H'|(subst_vars;exact H')),⟨by have:=HJ6.out;first|omega|exact Nat.le_refl _⟩,by repeat (first|exact Drawn0.refl _|apply Drawn0.step)⟩
       ·replace c10:=Bool.eq_false_iff.mpr c10
        subst c10
        have H1 : (if (wrap64 (bt a0 a1)) ≥ 224 then (racewayref25_Sign.j1 kj6 a0 a1 (wrap64 (bt a0 a1)) 0 0 0 (decide ((wrap64 (bt a0 a1)) ≤ 239))) else (racewayref25_Sign.j1 kj6 a0 a1 (wrap64 (bt a0 a1)) 0 0 0 false)) = some r:=by rw [if_neg (show ¬ (false = true) by decide)] at H;exact H
        clear H
        have H:=H1
        clear H1
        have HC11:=Aside0.mk H
        clear H
        go_upto_region 11 with (fail)
        go_cut [30] (fun v30 wc => ∃ (kq : Nat) (x30_10 : Bool),v30 = .bool x30_10 ∧ Aside0 (racewayref25_Sign.j1 kq a0 a1 (wrap64 (bt a0 a1)) 0 0 0 x30_10 = some r) ∧ Aside0 (kq ≤ kj6) ∧ Drawn0 w wc)
        case first =>
         have H:=HC11.out
         clear HC11
         by_cases c12 : (wrap64 (bt a0 a1)) ≥ 224
         ·rw [if_pos c12] at H
          have c12b0 : decide (224 ≤ (wrap64 (bt a0 a1))) = true:=decide_eq_true c12
          clear c12
          (first|rw [c12b0]|(simp only [i64_w,i32_w];rw [c12b0])|skip)
          have H':=Aside0.mk H
          clear H
          go_wp2
          go_meet
          case rel => exact ⟨_,(decide ((wrap64 (bt a0 a1)) ≤ 239)),(by first|rfl|(simp;done)|(simp;decide +kernel)|(simp [*];done)),(by first|exact H'|(subst_vars;exact H')),⟨by have:=HJ6.out;first|omega|exact Nat.le_refl _⟩,by repeat (first|exact Drawn0.refl _|apply Drawn0.step)⟩
         ·rw [if_neg c12] at H
          have c12b0 : decide (224 ≤ (wrap64 (bt a0 a1))) = false:=decide_eq_false c12
          clear c12
          (first|rw [c12b0]|(simp only [i64_w,i32_w];rw [c12b0])|skip)
          have H':=Aside0.mk H
          clear H
          go_wp2
          go_meet
          case rel => exact ⟨_,(false),(by first|rfl|(simp;done)|(simp;decide +kernel)|(simp [*];done)),(by first|exact H'|(subst_vars;exact H')),⟨by have:=HJ6.out;first|omega|exact Nat.le_refl _⟩,by repeat (first|exact Drawn0.refl _|apply Drawn0.step)⟩
        case rest =>
         clear HC11
         try clear c1
         try clear p2
         try clear c3
         try clear c3b0
         try clear c4
         try clear c4b0
         try clear p5
         try clear q5
         try clear hx5
         try clear c6
         try clear c6b0
         try clear p6
         try clear c8
         try clear c8b0
         try clear c10
         try clear c12
         try clear c12b0
         try clear p2
         try clear p5
         try clear p6
         try clear q5
         obtain ⟨kq,x30_10,rfl,HA,HJ10,⟨mc10,rfl⟩⟩:=hcut
         cases kq with
         | zero => exact absurd HA.out (by simp [racewayref25_Sign.j1])
         | succ kj10 =>
          have H:=HA.out
          clear HA
          simp only [racewayref25_Sign.j1] at H
          by_cases c13 : x30_10 = true
          ·subst c13
           have H1 : (racewayref25_Sign.j2 kj10 a0 a1 3 (wrap64 ((wrap64 (bt a0 a1)) - 224)) 2048) = some r:=by rw [if_pos rfl] at H;exact H
           clear H
           have H:=H1
           clear H1
           have H':=Aside0.mk H
           clear H
           go_wp2
           go_meet
           case rel => exact ⟨_,(3),(wrap64 ((wrap64 (bt a0 a1)) - 224)),(2048),(by first|rfl|(simp;done)|(simp;decide +kernel)|(simp [*];done)),(by first|rfl|(simp;done)|(simp;decide +kernel)|(simp [*];done)),(by first|rfl|(simp;done)|(simp;decide +kernel)|(simp [*];done)),(by first|exact H'|(subst_vars;exact H')),⟨by have:=HJ6.out;have:=HJ10.out;first|omega|exact Nat.le_refl _⟩,by repeat (first|exact Drawn0.refl _|apply Drawn0.step)⟩
          ·replace c13:=Bool.eq_false_iff.mpr c13
           subst c13
           have H1 : (if (wrap64 (bt a0 a1)) ≥ 240 then (if (wrap64 (bt a0 a1)) ≤ 244 then (racewayref25_Sign.j2 kj10 a0 a1 4 (wrap64 ((wrap64 (bt a0 a1)) - 240)) 65536) else (racewayref25_Sign.j2 kj10 a0 a1 0 0 0)) else (racewayref25_Sign.j2 kj10 a0 a1 0 0 0)) = some r:=by rw [if_neg (show ¬ (false = true) by decide)] at H;exact H
           clear H
           have H:=H1
           clear H1
           by_cases c14 : (wrap64 (bt a0 a1)) ≥ 240
           ·rw [if_pos c14] at H
            have c14b0 : decide (240 ≤ (wrap64 (bt a0 a1))) = true:=decide_eq_true c14
            clear c14
            by_cases c15 : (wrap64 (bt a0 a1)) ≤ 244
            ·rw [if_pos c15] at H
             have c15b0 : decide ((wrap64 (bt a0 a1)) ≤ 244) = true:=decide_eq_true c15
             clear c15
             have H':=Aside0.mk H
             clear H
             go_wp2
             go_meet
             case rel => exact ⟨_,(4),(wrap64 ((wrap64 (bt a0 a1)) - 240)),(65536),(by first|rfl|(simp;done)|(simp;decide +kernel)|(simp [*];done)),(by first|rfl|(simp;done)|(simp;decide +kernel)|(simp [*];done)),(by first|rfl|(simp;done)|(simp;decide +kernel)|(simp [*];done)),(by first|exact H'|(subst_vars;exact H')),⟨by have:=HJ6.out;have:=HJ10.out;first|omega|exact Nat.le_refl _⟩,by repeat (first|exact Drawn0.refl _|apply Drawn0.step)⟩
            ·rw [if_neg c15] at H
             have c15b0 : decide ((wrap64 (bt a0 a1)) ≤ 244) = false:=decide_eq_false c15
             clear c15
             have H':=Aside0.mk H
             clear H
             go_wp2
             go_meet
             case rel => exact ⟨_,(0),(0),(0),(by first|rfl|(simp;done)|(simp;decide +kernel)|(simp [*];done)),(by first|rfl|(simp;done)|(simp;decide +kernel)|(simp [*];done)),(by first|rfl|(simp;done)|(simp;decide +kernel)|(simp [*];done)),(by first|exact H'|(subst_vars;exact H')),⟨by have:=HJ6.out;have:=HJ10.out;first|omega|exact Nat.le_refl _⟩,by repeat (first|exact Drawn0.refl _|apply Drawn0.step)⟩
           ·rw [if_neg c14] at H
            have c14b0 : decide (240 ≤ (wrap64 (bt a0 a1))) = false:=decide_eq_false c14
            clear c14
            have H':=Aside0.mk H
            clear H
            go_wp2
            go_meet
            case rel => exact ⟨_,(0),(0),(0),(by first|rfl|(simp;done)|(simp;decide +kernel)|(simp [*];done)),(by first|rfl|(simp;done)|(simp;decide +kernel)|(simp [*];done)),(by first|rfl|(simp;done)|(simp;decide +kernel)|(simp [*];done)),(by first|exact H'|(subst_vars;exact H')),⟨by have:=HJ6.out;have:=HJ10.out;first|omega|exact Nat.le_refl _⟩,by repeat (first|exact Drawn0.refl _|apply Drawn0.step)⟩
      case rest =>
       clear HC9
       try clear c1
       try clear p2
       try clear c3
       try clear c3b0
       try clear c4
       try clear c4b0
       try clear p5
       try clear q5
       try clear hx5
       try clear c6
       try clear c6b0
       try clear p6
       try clear c8
       try clear c8b0
       try clear c10
       try clear c12
       try clear c12b0
       try clear c13
       try clear c14
       try clear c14b0
       try clear c15
       try clear c15b0
       try clear p2
       try clear p5
       try clear p6
       try clear q5
       obtain ⟨kq,x6_8,x7_8,x8_8,rfl,rfl,rfl,HA,HJ8,⟨mc8,rfl⟩⟩:=hcut
       cases kq with
       | zero => exact absurd HA.out (by simp [racewayref25_Sign.j2])
       | succ kj8 =>
        have H:=HA.out
        clear HA
        simp only [racewayref25_Sign.j2] at H
        have HC16:=Aside0.mk H
        clear H
        go_upto_region 19 with (fail)
        go_cut [50] (fun v50 wc => ∃ (kq : Nat) (x50_15 : Bool),v50 = .bool x50_15 ∧ Aside0 (racewayref25_Sign.j3 kq a0 a1 x6_8 x7_8 x8_8 x50_15 = some r) ∧ Aside0 (kq ≤ kj8) ∧ Drawn0 w wc)
        case first =>
         have H:=HC16.out
         clear HC16
         by_cases c17 : x6_8 = 0
         ·rw [if_pos c17] at H
          have c17b0 : (x6_8 == 0) = true:=beq_iff_eq.mpr c17
          have c17b1 : (x6_8 != 0) = false:=bne_eq_false_iff_eq.mpr c17
          clear c17
          (first|rw [c17b0]|(simp only [i64_w,i32_w];rw [c17b0])|skip)
          have H':=Aside0.mk H
          clear H
          go_wp2
          go_meet
          case rel => exact ⟨_,(true),(by first|rfl|(simp;done)|(simp;decide +kernel)|(simp [*];done)),(by first|exact H'|(subst_vars;exact H')),⟨by have:=HJ6.out;have:=HJ8.out;first|omega|exact Nat.le_refl _⟩,by repeat (first|exact Drawn0.refl _|apply Drawn0.step)⟩
         ·rw [if_neg c17] at H
          have c17b0 : (x6_8 == 0) = false:=beq_eq_false_iff_ne.mpr c17
          have c17b1 : (x6_8 != 0) = true:=bne_iff_ne.mpr c17
          (first|rw [c17b0]|(simp only [i64_w,i32_w];rw [c17b0])|skip)
          have H':=Aside0.mk H
          clear H
          go_wp2
          go_meet
          case rel => exact ⟨_,(decide ((wrap64 (a1 + x6_8)) > (a0.size : Int))),(by first|rfl|(simp;done)|(simp;decide +kernel)|(simp [*];done)),(by first|exact H'|(subst_vars;exact H')),⟨by have:=HJ6.out;have:=HJ8.out;first|omega|exact Nat.le_refl _⟩,by repeat (first|exact Drawn0.refl _|apply Drawn0.step)⟩
        case rest =>
         clear HC16
         try clear c1
         try clear p2
         try clear c3
         try clear c3b0
         try clear c4
         try clear c4b0
         try clear p5
         try clear q5
         try clear hx5
         try clear c6
         try clear c6b0
         try clear p6
         try clear c8
         try clear c8b0
         try clear c10
         try clear c12
         try clear c12b0
         try clear c13
         try clear c14
         try clear c14b0
         try clear c15
         try clear c15b0
         try clear c17
         try clear c17b0
         try clear c17b1
         try clear p2
         try clear p5
         try clear p6
         try clear q5
         obtain ⟨kq,x50_15,rfl,HA,HJ15,⟨mc15,rfl⟩⟩:=hcut
         cases kq with
         | zero => exact absurd HA.out (by simp [racewayref25_Sign.j3])
         | succ kj15 =>
          have H:=HA.out
          clear HA
          simp only [racewayref25_Sign.j3] at H
          by_cases c18 : x50_15 = true
          ·subst c18
           have H1 : (some 0) = some r:=by rw [if_pos rfl] at H;exact H
           clear H
           have H:=H1
           clear H1
           obtain rfl:=Option.some.inj H
           go_wp2
           go_ret
           exact ⟨by first|rfl|(simp;done)|(simp;decide +kernel)|(simp [*];done),by repeat (first|exact Drawn0.refl _|apply Drawn0.step)⟩
          ·replace c18:=Bool.eq_false_iff.mpr c18
           subst c18
           have H1 : (racewayref25_Sign.l0 kj15 a0 a1 x6_8 x7_8 x8_8 1) = some r:=by rw [if_neg (show ¬ (false = true) by decide)] at H;exact H
           clear H
           have H:=H1
           clear H1
           have H':=Aside0.mk H
           clear H
           go_wp2
           go_loopg [7,9] kj15 (fun kq v7 v9 w' => ∃ (x7_4 : Int) (x9_4 : Int),v7 = .int .i64 x7_4 ∧ v9 = .int .i64 x9_4 ∧ Aside0 (racewayref25_Sign.l0 kq a0 a1 x6_8 x7_4 x8_8 x9_4 = some r) ∧ Aside0 (kq ≤ kj15) ∧ Drawn0 w w')
           case atStart => exact ⟨(x7_8),(1),(by first|rfl|(simp;done)|(simp;decide +kernel)|(simp [*];done)),(by first|rfl|(simp;done)|(simp;decide +kernel)|(simp [*];done)),(by first|exact H'|(subst_vars;exact H')),⟨Nat.le_refl _⟩,by repeat (first|exact Drawn0.refl _|apply Drawn0.step)⟩
           case round =>
            clear H'
            try clear c1
            try clear p2
            try clear c3
            try clear c3b0
            try clear c4
            try clear c4b0
            try clear p5
            try clear q5
            try clear hx5
            try clear c6
            try clear c6b0
            try clear p6
            try clear c8
            try clear c8b0
            try clear c10
            try clear c12
            try clear c12b0
            try clear c13
            try clear c14
            try clear c14b0
            try clear c15
            try clear c15b0
            try clear c17
            try clear c17b0
            try clear c17b1
            try clear c18
            try clear p2
            try clear p5
            try clear p6
            try clear q5
            obtain ⟨x7_4,x9_4,rfl,rfl,HA,HK4,⟨m4,rfl⟩⟩:=hrel
            cases gk with
            | zero => exact absurd HA.out (by simp [racewayref25_Sign.l0])
            | succ k4 =>
             have H:=HA.out
             clear HA
             simp only [racewayref25_Sign.l0] at H
             by_cases c19 : x9_4 < x6_8
             ·rw [if_pos c19] at H
              have c19b0 : decide (x9_4 < x6_8) = true:=decide_eq_true c19
              clear c19
              obtain ⟨ji20,hji20⟩ : ∃ j_ : Int,(wrap64 (a1 + x9_4)) = j_:=⟨_,rfl⟩
              replace H : (if 0 ≤ (ji20) then (if (ji20) < (a0.size : Int) then (if (wrap64 (bt a0 (ji20))) < 128 then (some 0) else (if (wrap64 (bt a0 (ji20))) > 191 then (some 0) else (racewayref25_Sign.l0 k4 a0 a1 x6_8 (wrap64 ((wrap64 ((wrap64 (64 * x7_4)) + (wrap64 (bt a0 (ji20))))) - 128)) x8_8 (wrap64 (x9_4 + 1))))) else (none)) else (none)) = some r:=by first|(rw [hji20] at H;exact H)|(simp only [hji20] at H ⊢;exact H)
              have hji20w : (IntKind.i64.wrap (a1 + x9_4)) = ji20:=(i64_w _).trans hji20
              by_cases c21 : 0 ≤ (ji20)
              ·rw [if_pos c21] at H
               have c21b0 : decide (0 ≤ (ji20)) = true:=decide_eq_true c21
               clear c21
               by_cases c22 : (ji20) < (a0.size : Int)
               ·rw [if_pos c22] at H
                have c22b0 : decide ((ji20) < (a0.size : Int)) = true:=decide_eq_true c22
                clear c22
                by_cases c24 : (wrap64 (bt a0 (ji20))) < 128
                ·rw [if_pos c24] at H
                 have c24b0 : decide ((wrap64 (bt a0 (ji20))) < 128) = true:=decide_eq_true c24
                 clear c24
                 obtain rfl:=Option.some.inj H
                 have p23 : 0 ≤ ((ji20) : Int):=of_decide_eq_true (by first|(with_reducible assumption)|assumption)
                 have q23 : (ji20) < (a0.size : Int):=of_decide_eq_true (by first|(with_reducible assumption)|assumption)
                 have hx23:=bt_at a0 (ji20)
                 replace p23:=eq_true p23
                 replace q23:=eq_true q23
                 go_wp2
                 go_ret
                 exact ⟨by first|rfl|(simp;done)|(simp only [← hji20] <;> (first|rfl|simp))|(simp [*];done),by repeat (first|exact Drawn0.refl _|apply Drawn0.step)⟩
                ·rw [if_neg c24] at H
                 have c24b0 : decide ((wrap64 (bt a0 (ji20))) < 128) = false:=decide_eq_false c24
                 clear c24
                 by_cases c25 : (wrap64 (bt a0 (ji20))) > 191
                 ·rw [if_pos c25] at H
                  have c25b0 : decide (191 < (wrap64 (bt a0 (ji20)))) = true:=decide_eq_true c25
                  clear c25
                  obtain rfl:=Option.some.inj H
                  have p23 : 0 ≤ ((ji20) : Int):=of_decide_eq_true (by first|(with_reducible assumption)|assumption)
                  have q23 : (ji20) < (a0.size : Int):=of_decide_eq_true (by first|(with_reducible assumption)|assumption)
                  have hx23:=bt_at a0 (ji20)
                  replace p23:=eq_true p23
                  replace q23:=eq_true q23
                  go_wp2
                  go_ret
                  exact ⟨by first|rfl|(simp;done)|(simp only [← hji20] <;> (first|rfl|simp))|(simp [*];done),by repeat (first|exact Drawn0.refl _|apply Drawn0.step)⟩
                 ·rw [if_neg c25] at H
                  have c25b0 : decide (191 < (wrap64 (bt a0 (ji20)))) = false:=decide_eq_false c25
                  clear c25
                  have H':=Aside0.mk H
                  clear H
                  have p23 : 0 ≤ ((ji20) : Int):=of_decide_eq_true (by first|(with_reducible assumption)|assumption)
                  have q23 : (ji20) < (a0.size : Int):=of_decide_eq_true (by first|(with_reducible assumption)|assumption)
                  have hx23:=bt_at a0 (ji20)
                  replace p23:=eq_true p23
                  replace q23:=eq_true q23
                  go_wp2
                  go_roundg k4
                  case measure => have:=HJ6.out;have:=HJ8.out;have:=HJ15.out;have:=HK4.out;omega
                  case rel => exact ⟨(wrap64 ((wrap64 ((wrap64 (64 * x7_4)) + (wrap64 (bt a0 (ji20))))) - 128)),(wrap64 (x9_4 + 1)),(by first|rfl|(simp;done)|(simp only [← hji20] <;> (first|rfl|simp))|(simp [*];done)),(by first|rfl|(simp;done)|(simp;decide +kernel)|(simp [*];done)),(by first|exact H'|(subst_vars;exact H')),⟨by have:=HJ6.out;have:=HJ8.out;have:=HJ15.out;have:=HK4.out;omega⟩,by repeat (first|exact Drawn0.refl _|apply Drawn0.step)⟩
               ·rw [if_neg c22] at H
                exact absurd H (by simp)
              ·rw [if_neg c21] at H
               exact absurd H (by simp)
             ·rw [if_neg c19] at H
              have c19b0 : decide (x9_4 < x6_8) = false:=decide_eq_false c19
              clear c19
              by_cases c26 : x7_4 < x8_8
              ·rw [if_pos c26] at H
               have c26b0 : decide (x7_4 < x8_8) = true:=decide_eq_true c26
               clear c26
               obtain rfl:=Option.some.inj H
               go_wp2
               go_ret
               exact ⟨by first|rfl|(simp;done)|(simp;decide +kernel)|(simp [*];done),by repeat (first|exact Drawn0.refl _|apply Drawn0.step)⟩
              ·rw [if_neg c26] at H
               have c26b0 : decide (x7_4 < x8_8) = false:=decide_eq_false c26
               clear c26
               by_cases c27 : x7_4 > 1114111
               ·rw [if_pos c27] at H
                have c27b0 : decide (1114111 < x7_4) = true:=decide_eq_true c27
                clear c27
                obtain rfl:=Option.some.inj H
                go_wp2
                go_ret
                exact ⟨by first|rfl|(simp;done)|(simp;decide +kernel)|(simp [*];done),by repeat (first|exact Drawn0.refl _|apply Drawn0.step)⟩
               ·rw [if_neg c27] at H
                have c27b0 : decide (1114111 < x7_4) = false:=decide_eq_false c27
                clear c27
                by_cases c28 : x7_4 ≥ 55296
                ·rw [if_pos c28] at H
                 have c28b0 : decide (55296 ≤ x7_4) = true:=decide_eq_true c28
                 clear c28
                 by_cases c29 : x7_4 ≤ 57343
                 ·rw [if_pos c29] at H
                  have c29b0 : decide (x7_4 ≤ 57343) = true:=decide_eq_true c29
                  clear c29
                  obtain rfl:=Option.some.inj H
                  go_wp2
                  go_ret
                  exact ⟨by first|rfl|(simp;done)|(simp;decide +kernel)|(simp [*];done),by repeat (first|exact Drawn0.refl _|apply Drawn0.step)⟩
                 ·rw [if_neg c29] at H
                  have c29b0 : decide (x7_4 ≤ 57343) = false:=decide_eq_false c29
                  clear c29
                  obtain rfl:=Option.some.inj H
                  go_wp2
                  go_ret
                  exact ⟨by first|rfl|(simp;done)|(simp;decide +kernel)|(simp [*];done),by repeat (first|exact Drawn0.refl _|apply Drawn0.step)⟩
                ·rw [if_neg c28] at H
                 have c28b0 : decide (55296 ≤ x7_4) = false:=decide_eq_false c28
                 clear c28
                 obtain rfl:=Option.some.inj H
                 go_wp2
                 go_ret
                 exact ⟨by first|rfl|(simp;done)|(simp;decide +kernel)|(simp [*];done),by repeat (first|exact Drawn0.refl _|apply Drawn0.step)⟩
  ·rw [if_neg c4] at H
   exact absurd H (by simp)
 ·rw [if_neg c3] at H
  exact absurd H (by simp)
end Go.Proofs.YtjehflambbjoaaaDoor.X
namespace Go.Proofs.YtjehflambbjoaaaDoor.X
open Go.RowKit Go.Proofs.YtjehflambbjoaaaDoorW.PrintWords Go.Proofs.YtjehflambbjoaaaDoorW.PrintLast Go.Proofs.YtjehflambbjoaaaDoorW.PrintMore
attribute [local go_sem] max2_int min2_int max_two min_two max_three min_three max_four min_four
set_option linter.unusedVariables false
set_option linter.unusedSimpArgs false
def racewayref25_Valid.l0 : Nat → ByteArray → Int → Option (Bool)
 | 0,_,_ => none
 | k + 1,x0,x3 => if x3 < (x0.size : Int) then ((racewayref25_Sign.f k x0 x3).bind fun t123 => (if t123 = 0 then (some false) else (racewayref25_Valid.l0 k x0 (wrap64 (x3 + t123))))) else (some true)
def racewayref25_Valid.f (k : Nat) (a0 : ByteArray) : Option (Bool):=racewayref25_Valid.l0 k a0 0
set_option maxHeartbeats 8000000 in
set_option maxRecDepth 100000 in
theorem racewayref25_Valid.calls (k : Nat) (a0 : ByteArray) (r : Bool) (w : World) (h : racewayref25_Valid.f k a0 = some r) :
  Calls Tryd.prog 31 #[.string a0] w fun e w' => e = .returned (.bool r) ∧ Drawn0 w w':=by
 have H : (racewayref25_Valid.l0 k a0 0) = some r:=h
 clear h
 have H':=Aside0.mk H
 clear H
 go_enter Tryd.func31,Tryd.ntmps31
 go_wp2
 go_loopg [3] k (fun kq v3 w' => ∃ (x3_1 : Int),v3 = .int .i64 x3_1 ∧ Aside0 (racewayref25_Valid.l0 kq a0 x3_1 = some r) ∧ Aside0 (kq ≤ k) ∧ Drawn0 w w')
 case atStart => exact ⟨(0),(by first|rfl|(simp;done)|(simp;decide +kernel)|(simp [*];done)),(by first|exact H'|(subst_vars;exact H')),⟨Nat.le_refl _⟩,by repeat (first|exact Drawn0.refl _|apply Drawn0.step)⟩
 case round =>
  clear H'
  obtain ⟨x3_1,rfl,HA,HK1,⟨m1,rfl⟩⟩:=hrel
  cases gk with
  | zero => exact absurd HA.out (by simp [racewayref25_Valid.l0])
  | succ k1 =>
   have H:=HA.out
   clear HA
   simp only [racewayref25_Valid.l0] at H
   by_cases c2 : x3_1 < (a0.size : Int)
   ·rw [if_pos c2] at H
    have c2b0 : decide (x3_1 < (a0.size : Int)) = true:=decide_eq_true c2
    clear c2
    replace H:=Option.bind_eq_some_iff.mp H
    obtain ⟨t123,A30,H⟩:=H
    replace H : (if t123 = 0 then (some false) else (racewayref25_Valid.l0 k1 a0 (wrap64 (x3_1 + t123)))) = some r:=H
    have A3:=Aside0.mk A30
    clear A30
    by_cases c4 : t123 = 0
    ·rw [if_pos c4] at H
     have c4b0 : (t123 == 0) = true:=beq_iff_eq.mpr c4
     have c4b1 : (t123 != 0) = false:=bne_eq_false_iff_eq.mpr c4
     clear c4
     obtain rfl:=Option.some.inj H
     go_wp2_with (first|((with_reducible refine gate_callee (f:=46) rfl ?_);refine goesL_ (some 11) rfl rfl Tryd.func46 (by kernel_rfl) rfl #[.string a0,.int .i64 x3_1] rfl (by (try simp only [List.map_toArray,List.map_cons,List.map_nil]);first|done|rfl|(simp only [List.length_drop,List.length_take];rfl)) ?_;(with_reducible refine (racewayref25_Sign.calls k1 a0 x3_1 t123 _ A3.out).mono ?_);rintro e w' ⟨rfl,⟨nd,rfl⟩⟩;refine ⟨_,rfl,?_⟩))
     go_ret
     exact ⟨by first|rfl|(simp;done)|(simp;decide +kernel)|(simp [*];done),by repeat (first|exact Drawn0.refl _|apply Drawn0.step)⟩
    ·rw [if_neg c4] at H
     have c4b0 : (t123 == 0) = false:=beq_eq_false_iff_ne.mpr c4
     have c4b1 : (t123 != 0) = true:=bne_iff_ne.mpr c4
     have H':=Aside0.mk H
     clear H
     go_wp2_with (first|((with_reducible refine gate_callee (f:=46) rfl ?_);refine goesL_ (some 11) rfl rfl Tryd.func46 (by kernel_rfl) rfl #[.string a0,.int .i64 x3_1] rfl (by (try simp only [List.map_toArray,List.map_cons,List.map_nil]);first|done|rfl|(simp only [List.length_drop,List.length_take];rfl)) ?_;(with_reducible refine (racewayref25_Sign.calls k1 a0 x3_1 t123 _ A3.out).mono ?_);rintro e w' ⟨rfl,⟨nd,rfl⟩⟩;refine ⟨_,rfl,?_⟩))
     go_roundg k1
     case measure => have:=HK1.out;omega
     case rel => exact ⟨(wrap64 (x3_1 + t123)),(by first|rfl|(simp;done)|(simp;decide +kernel)|(simp [*];done)),(by first|exact H'|(subst_vars;exact H')),⟨by have:=HK1.out;omega⟩,by repeat (first|exact Drawn0.refl _|apply Drawn0.step)⟩
   ·rw [if_neg c2] at H
    have c2b0 : decide (x3_1 < (a0.size : Int)) = false:=decide_eq_false c2
    clear c2
    obtain rfl:=Option.some.inj H
    go_wp2
    go_ret
    exact ⟨by first|rfl|(simp;done)|(simp;decide +kernel)|(simp [*];done),by repeat (first|exact Drawn0.refl _|apply Drawn0.step)⟩
end Go.Proofs.YtjehflambbjoaaaDoor.X
namespace Go.Proofs.YtjehflambbjoaaaDoor.Pure
open Go.Proofs.YtjehflambbjoaaaDoor.X Go.RowKit Go.Proofs.YtjehflambbjoaaaDoorW.PrintWords Go.Proofs.YtjehflambbjoaaaDoorW.PrintMore
set_option linter.unusedVariables false
set_option linter.unusedSimpArgs false
theorem w64v {x : Int} (h0 : -9223372036854775808 ≤ x) (h1 : x ≤ 9223372036854775807) : wrap64 x = x:=by unfold wrap64;omega
theorem bt_getD (s : ByteArray) (i : Nat) : bt s (i : Int) = ((s.data.toList.getD i 0).toNat : Int):=by
 unfold bt
 rw [Int.toNat_natCast]
 split
 ·rename_i h
  rw [List.getD_eq_getElem?_getD,List.getElem?_eq_getElem (by simpa using h)]
  rfl
 ·rename_i h
  rw [List.getD_eq_getElem?_getD,List.getElem?_eq_none (by simpa using h)]
  rfl
def sgnN (n b0 b1 b2 b3 : Nat) : Nat:=if b0 < 128 then 1 else if (Lib.decodeN n b0 b1 b2 b3).2 = 1 then 0 else (Lib.decodeN n b0 b1 b2 b3).2
theorem sgnN_bad {n b0 b1 b2 b3 : Nat} (h : ¬ b0 < 128) (h1 : (Lib.decodeN n b0 b1 b2 b3).2 = 1) : sgnN n b0 b1 b2 b3 = 0:=by rw [sgnN,if_neg h,if_pos h1]
theorem sgnN_ok {n b0 b1 b2 b3 : Nat} (w : Nat) (h : ¬ b0 < 128) (h1 : (Lib.decodeN n b0 b1 b2 b3).2 = w) (hw : w ≠ 1) : sgnN n b0 b1 b2 b3 = w:=by rw [sgnN,if_neg h,h1,if_neg hw]
theorem sgn_N (l : Bs) (i : Nat) (h : i < l.length) : sgn (l.drop i) = sgnN (l.length - i) (l.getD i 0).toNat (l.getD (i + 1) 0).toNat (l.getD (i + 2) 0).toNat (l.getD (i + 3) 0).toNat:=by
 have e : ∀ j,(l.drop i).getD j 0 = l.getD (i + j) 0:=fun j => by simp [List.getD_eq_getElem?_getD,List.getElem?_drop]
 obtain ⟨c,r,hc⟩ : ∃ c r,l.drop i = c :: r:=⟨_,_,List.drop_eq_getElem_cons h⟩
 have h0 : c = l.getD i 0:=by rw [← Nat.add_zero i,← e 0,hc];rfl
 have hN:=Lib.decodeL_N (l.drop i)
 rw [e 0,e 1,e 2,e 3,List.length_drop,Nat.add_zero] at hN
 rw [hc] at hN ⊢
 simp only [sgn,sgnN]
 rw [hN,h0]
theorem sl_step (s : ByteArray) (k i x6 x7 x8 x9 b : Nat) (hb : b = (s.data.toList.getD (i + x9) 0).toNat) (h1 : i + x6 ≤ s.size) (h9 : x9 < x6) (h7 : x7 ≤ 100000000) (hs : s.size ≤ 100000000) :
  racewayref25_Sign.l0 (k + 1) s (i : Int) (x6 : Int) (x7 : Int) (x8 : Int) (x9 : Int) = if b < 128 then some 0 else if 191 < b then some 0 else racewayref25_Sign.l0 k s (i : Int) (x6 : Int) ((64 * x7 + b - 128 : Nat) : Int) (x8 : Int) ((x9 + 1 : Nat) : Int):=by
 have hb8 : b < 256:=by rw [hb];exact UInt8.toNat_lt _
 rw [racewayref25_Sign.l0,if_pos (by omega),w64v (x:=(i : Int) + (x9 : Int)) (by omega) (by omega),if_pos (by omega),if_pos (by omega),show (i : Int) + (x9 : Int) = ((i + x9 : Nat) : Int) by omega,bt_getD,← hb,w64v (x:=(b : Int)) (by omega) (by omega)]
 by_cases c1 : b < 128
 ·rw [if_pos c1,if_pos (by omega)]
 ·rw [if_neg c1,if_neg (by omega)]
  by_cases c2 : 191 < b
  ·rw [if_pos c2,if_pos (by omega)]
  ·rw [if_neg c2,if_neg (by omega),w64v (x:=64 * (x7 : Int)) (by omega) (by omega),w64v (x:=64 * (x7 : Int) + (b : Int)) (by omega) (by omega),w64v (x:=64 * (x7 : Int) + (b : Int) - 128) (by omega) (by omega),w64v (x:=(x9 : Int) + 1) (by omega) (by omega)]
   congr 1
   ·omega
theorem sl_end (s : ByteArray) (k i x6 x7 x8 : Nat) : racewayref25_Sign.l0 (k + 1) s (i : Int) (x6 : Int) (x7 : Int) (x8 : Int) (x6 : Int) = some (((if x7 < x8 then 0 else if 1114111 < x7 then 0 else if 55296 ≤ x7 ∧ x7 ≤ 57343 then 0 else x6) : Nat) : Int):=by
 rw [racewayref25_Sign.l0,if_neg (by omega)]
 by_cases c1 : x7 < x8
 ·rw [if_pos c1,if_pos (by omega)];rfl
 ·rw [if_neg c1,if_neg (by omega)]
  by_cases c2 : 1114111 < x7
  ·rw [if_pos c2,if_pos (by omega)];rfl
  ·rw [if_neg c2,if_neg (by omega)]
   by_cases c3 : 55296 ≤ x7
   ·rw [if_pos (by omega)]
    by_cases c4 : x7 ≤ 57343
    ·rw [if_pos (by omega),if_pos ⟨c3,c4⟩];rfl
    ·rw [if_neg (by omega),if_neg (by omega)]
   ·rw [if_neg (by omega),if_neg (by omega)]
theorem sj2 (s : ByteArray) (k i x6 x7 x8 : Nat) (h6 : x6 ≠ 0) (hi : i ≤ s.size) (h64 : x6 ≤ 4) (hs : s.size ≤ 100000000) :
  racewayref25_Sign.j2 (k + 2) s (i : Int) (x6 : Int) (x7 : Int) (x8 : Int) = if s.size < i + x6 then some 0 else racewayref25_Sign.l0 k s (i : Int) (x6 : Int) (x7 : Int) (x8 : Int) ((1 : Nat) : Int):=by
 rw [racewayref25_Sign.j2,if_neg (by omega),racewayref25_Sign.j3,w64v (by omega) (by omega)]
 by_cases c : s.size < i + x6
 ·rw [if_pos c,if_pos (by simp;omega)]
 ·rw [if_neg c,if_neg (by simp;omega)]
  rfl
set_option maxRecDepth 100000 in
set_option maxHeartbeats 4000000 in
theorem sign_N (s : ByteArray) (i k b0 b1 b2 b3 : Nat) (hi : i < s.size) (hs : s.size ≤ 100000000) (h0 : b0 = (s.data.toList.getD i 0).toNat) (h1 : b1 = (s.data.toList.getD (i + 1) 0).toNat) (h2 : b2 = (s.data.toList.getD (i + 2) 0).toNat) (h3 : b3 = (s.data.toList.getD (i + 3) 0).toNat) :
  racewayref25_Sign.f (k + 20) s (i : Int) = some ((sgnN (s.size - i) b0 b1 b2 b3 : Nat) : Int):=by
 have q0 : b0 < 256:=by rw [h0];exact UInt8.toNat_lt _
 have q1 : b1 < 256:=by rw [h1];exact UInt8.toNat_lt _
 have q2 : b2 < 256:=by rw [h2];exact UInt8.toNat_lt _
 have q3 : b3 < 256:=by rw [h3];exact UInt8.toNat_lt _
 rw [racewayref25_Sign.f,if_pos (by omega),if_pos (by omega),bt_getD,← h0,w64v (x:=(b0 : Int)) (by omega) (by omega)]
 by_cases c1 : b0 < 128
 ·rw [if_pos (by omega),sgnN,if_pos c1];rfl
 ·rw [if_neg (by omega)]
  have hj0 : ∀ b : Bool,(b = true → 194 ≤ b0 ∧ b0 ≤ 223) → (b = false → ¬ (194 ≤ b0 ∧ b0 ≤ 223)) → racewayref25_Sign.j0 (k + 20) s (i : Int) (b0 : Int) 0 0 0 b = some ((sgnN (s.size - i) b0 b1 b2 b3 : Nat) : Int):=by
   intro b hb1 hb2
   rw [racewayref25_Sign.j0]
   cases b with
   | true =>
    have r:=hb1 rfl
    rw [if_pos rfl,w64v (x:=(b0 : Int) - 192) (by omega) (by omega),show ((b0 : Int) - 192) = ((b0 - 192 : Nat) : Int) by omega]
    refine (sj2 s (k + 17) i 2 (b0 - 192) 128 (by decide) (by omega) (by decide) hs).trans ?_
    by_cases c2 : s.size < i + 2
    ·rw [if_pos c2,sgnN_bad c1 (by unfold Lib.decodeN;rw [if_neg c1,if_neg (by omega),if_neg (by omega),if_neg (by omega)])]
     rfl
    ·rw [if_neg c2,sl_step s _ i 2 (b0 - 192) 128 1 b1 h1 (by omega) (by omega) (by omega) hs]
     by_cases c3 : b1 < 128
     ·rw [if_pos c3,sgnN_bad c1 (by unfold Lib.decodeN;rw [if_neg c1,if_neg (by omega),if_neg (by omega),if_neg (by omega)])];rfl
     ·rw [if_neg c3]
      by_cases c4 : 191 < b1
      ·rw [if_pos c4,sgnN_bad c1 (by unfold Lib.decodeN;rw [if_neg c1,if_neg (by omega),if_neg (by omega),if_neg (by omega)])];rfl
      ·rw [if_neg c4,sl_end s _ i 2 _ 128,if_neg (by omega),if_neg (by omega),if_neg (by omega),sgnN_ok 2 c1 (by unfold Lib.decodeN;rw [if_neg c1,if_pos (by omega),if_pos (by omega)]) (by decide)]
   | false =>
    have r:=hb2 rfl
    rw [if_neg (by decide)]
    have hj1 : ∀ b : Bool,(b = true → 224 ≤ b0 ∧ b0 ≤ 239) → (b = false → ¬ (224 ≤ b0 ∧ b0 ≤ 239)) → racewayref25_Sign.j1 (k + 19) s (i : Int) (b0 : Int) 0 0 0 b = some ((sgnN (s.size - i) b0 b1 b2 b3 : Nat) : Int):=by
     intro b hb1 hb2
     rw [racewayref25_Sign.j1]
     cases b with
     | true =>
      have r:=hb1 rfl
      rw [if_pos rfl,w64v (x:=(b0 : Int) - 224) (by omega) (by omega),show ((b0 : Int) - 224) = ((b0 - 224 : Nat) : Int) by omega]
      refine (sj2 s (k + 16) i 3 (b0 - 224) 2048 (by decide) (by omega) (by decide) hs).trans ?_
      by_cases c2 : s.size < i + 3
      ·rw [if_pos c2,sgnN_bad c1 (by unfold Lib.decodeN;rw [if_neg c1,if_neg (by omega),if_neg (by omega),if_neg (by omega)])]
       rfl
      ·rw [if_neg c2,sl_step s _ i 3 (b0 - 224) 2048 1 b1 h1 (by omega) (by omega) (by omega) hs]
       by_cases c3 : b1 < 128
       ·rw [if_pos c3,sgnN_bad c1 (by unfold Lib.decodeN;rw [if_neg c1,if_neg (by omega),if_neg (by omega),if_neg (by omega)])];rfl
       ·rw [if_neg c3]
        by_cases c4 : 191 < b1
        ·rw [if_pos c4,sgnN_bad c1 (by unfold Lib.decodeN;rw [if_neg c1,if_neg (by omega),if_neg (by omega),if_neg (by omega)])];rfl
        ·rw [if_neg c4,sl_step s _ i 3 _ 2048 2 b2 h2 (by omega) (by omega) (by omega) hs]
         by_cases c5 : b2 < 128
         ·rw [if_pos c5,sgnN_bad c1 (by unfold Lib.decodeN;rw [if_neg c1,if_neg (by omega),if_neg (by omega),if_neg (by omega)])];rfl
         ·rw [if_neg c5]
          by_cases c6 : 191 < b2
          ·rw [if_pos c6,sgnN_bad c1 (by unfold Lib.decodeN;rw [if_neg c1,if_neg (by omega),if_neg (by omega),if_neg (by omega)])];rfl
          ·rw [if_neg c6,sl_end s _ i 3 _ 2048]
           generalize hX : 64 * (64 * (b0 - 224) + b1 - 128) + b2 - 128 = X
           have e : b0 % 16 * 4096 + b1 % 64 * 64 + b2 % 64 = X:=by omega
           by_cases d1 : X < 2048
           ·rw [if_pos d1,sgnN_bad c1 (by unfold Lib.decodeN;rw [if_neg c1,if_neg (by omega),if_pos (by omega),e,if_neg (by omega)])]
           ·rw [if_neg d1,if_neg (by omega)]
            by_cases d2 : 55296 ≤ X ∧ X ≤ 57343
            ·rw [if_pos d2,sgnN_bad c1 (by unfold Lib.decodeN;rw [if_neg c1,if_neg (by omega),if_pos (by omega),e,if_neg (by omega)])]
            ·rw [if_neg d2,sgnN_ok 3 c1 (by unfold Lib.decodeN;rw [if_neg c1,if_neg (by omega),if_pos (by omega),e,if_pos (by omega)]) (by decide)]
     | false =>
      have r2:=hb2 rfl
      rw [if_neg (by decide)]
      have hbad : ¬ (240 ≤ b0 ∧ b0 ≤ 244) → racewayref25_Sign.j2 (k + 18) s (i : Int) 0 0 0 = some ((sgnN (s.size - i) b0 b1 b2 b3 : Nat) : Int):=by
       intro r3
       have e1 : (Lib.decodeN (s.size - i) b0 b1 b2 b3).2 = 1:=by
        unfold Lib.decodeN
        rw [if_neg c1]
        by_cases a1 : b0 / 32 = 6 ∧ (1 < s.size - i ∧ b1 / 64 = 2)
        ·rw [if_pos a1,if_neg (by omega)]
        ·rw [if_neg a1,if_neg (by omega)]
         by_cases a3 : b0 / 8 = 30 ∧ (1 < s.size - i ∧ b1 / 64 = 2) ∧ (2 < s.size - i ∧ b2 / 64 = 2) ∧ (3 < s.size - i ∧ b3 / 64 = 2)
         ·rw [if_pos a3,if_neg (by omega)]
         ·rw [if_neg a3]
       rw [racewayref25_Sign.j2,if_pos rfl,racewayref25_Sign.j3,if_pos rfl,sgnN_bad c1 e1]
       rfl
      by_cases c240 : 240 ≤ b0
      ·rw [if_pos (by omega)]
       by_cases c244 : b0 ≤ 244
       ·rw [if_pos (by omega),w64v (x:=(b0 : Int) - 240) (by omega) (by omega),show ((b0 : Int) - 240) = ((b0 - 240 : Nat) : Int) by omega]
        refine (sj2 s (k + 16) i 4 (b0 - 240) 65536 (by decide) (by omega) (by decide) hs).trans ?_
        by_cases c2 : s.size < i + 4
        ·rw [if_pos c2,sgnN_bad c1 (by unfold Lib.decodeN;rw [if_neg c1,if_neg (by omega),if_neg (by omega),if_neg (by omega)])]
         rfl
        ·rw [if_neg c2,sl_step s _ i 4 (b0 - 240) 65536 1 b1 h1 (by omega) (by omega) (by omega) hs]
         by_cases c3 : b1 < 128
         ·rw [if_pos c3,sgnN_bad c1 (by unfold Lib.decodeN;rw [if_neg c1,if_neg (by omega),if_neg (by omega),if_neg (by omega)])];rfl
         ·rw [if_neg c3]
          by_cases c4 : 191 < b1
          ·rw [if_pos c4,sgnN_bad c1 (by unfold Lib.decodeN;rw [if_neg c1,if_neg (by omega),if_neg (by omega),if_neg (by omega)])];rfl
          ·rw [if_neg c4,sl_step s _ i 4 _ 65536 2 b2 h2 (by omega) (by omega) (by omega) hs]
           by_cases c5 : b2 < 128
           ·rw [if_pos c5,sgnN_bad c1 (by unfold Lib.decodeN;rw [if_neg c1,if_neg (by omega),if_neg (by omega),if_neg (by omega)])];rfl
           ·rw [if_neg c5]
            by_cases c6 : 191 < b2
            ·rw [if_pos c6,sgnN_bad c1 (by unfold Lib.decodeN;rw [if_neg c1,if_neg (by omega),if_neg (by omega),if_neg (by omega)])];rfl
            ·rw [if_neg c6,sl_step s _ i 4 _ 65536 3 b3 h3 (by omega) (by omega) (by omega) hs]
             by_cases c7 : b3 < 128
             ·rw [if_pos c7,sgnN_bad c1 (by unfold Lib.decodeN;rw [if_neg c1,if_neg (by omega),if_neg (by omega),if_neg (by omega)])];rfl
             ·rw [if_neg c7]
              by_cases c8 : 191 < b3
              ·rw [if_pos c8,sgnN_bad c1 (by unfold Lib.decodeN;rw [if_neg c1,if_neg (by omega),if_neg (by omega),if_neg (by omega)])];rfl
              ·rw [if_neg c8,sl_end s _ i 4 _ 65536]
               generalize hX : 64 * (64 * (64 * (b0 - 240) + b1 - 128) + b2 - 128) + b3 - 128 = X
               have e : b0 % 8 * 262144 + b1 % 64 * 4096 + b2 % 64 * 64 + b3 % 64 = X:=by omega
               by_cases d1 : X < 65536
               ·rw [if_pos d1,sgnN_bad c1 (by unfold Lib.decodeN;rw [if_neg c1,if_neg (by omega),if_neg (by omega),if_pos (by omega),e,if_neg (by omega)])]
               ·rw [if_neg d1]
                by_cases d3 : 1114111 < X
                ·rw [if_pos d3,sgnN_bad c1 (by unfold Lib.decodeN;rw [if_neg c1,if_neg (by omega),if_neg (by omega),if_pos (by omega),e,if_neg (by omega)])]
                ·rw [if_neg d3,if_neg (by omega),sgnN_ok 4 c1 (by unfold Lib.decodeN;rw [if_neg c1,if_neg (by omega),if_neg (by omega),if_pos (by omega),e,if_pos (by omega)]) (by decide)]
       ·rw [if_neg (by omega)]
        exact hbad (by omega)
      ·rw [if_neg (by omega)]
       exact hbad (by omega)
    by_cases c224 : 224 ≤ b0
    ·rw [if_pos (by omega)]
     exact hj1 _ (fun h => by simp at h;omega) (fun h => by simp at h;omega)
    ·rw [if_neg (by omega)]
     exact hj1 _ (fun h => by cases h) (fun _ => by omega)
  by_cases c194 : 194 ≤ b0
  ·rw [if_pos (by omega)]
   exact hj0 _ (fun h => by simp at h;omega) (fun h => by simp at h;omega)
  ·rw [if_neg (by omega)]
   exact hj0 _ (fun h => by cases h) (fun _ => by omega)
theorem sign_is (s : ByteArray) (p : Nat) (l : Bs) (ha : At s p l) (hl : l ≠ []) (hs : s.size ≤ 100000000) (k : Nat) (hk : 20 ≤ k) : racewayref25_Sign.f k s (p : Int) = some ((sgn l : Nat) : Int):=by
 obtain ⟨k,rfl⟩ : ∃ k',k = k' + 20:=⟨k - 20,by omega⟩
 have hlt : p < s.size:=by cases l with|nil => exact absurd rfl hl|cons c r => exact ha.lt
 have hsz : s.data.toList.length = s.size:=by simp
 rw [sign_N s p k _ _ _ _ hlt hs rfl rfl rfl rfl,← hsz,← sgn_N _ _ (by omega),← ha.drop]
end Go.Proofs.YtjehflambbjoaaaDoor.Pure
namespace Go.Proofs.YtjehflambbjoaaaDoor.Pure
open Go.Proofs.YtjehflambbjoaaaDoor.X Go.RowKit Go.Proofs.YtjehflambbjoaaaDoorW.PrintWords Go.Proofs.YtjehflambbjoaaaDoorW.PrintMore
set_option linter.unusedVariables false
set_option linter.unusedSimpArgs false
theorem _root_.Go.Proofs.YtjehflambbjoaaaDoor.X.At.bt {s : ByteArray} {p : Nat} {c : UInt8} {r : Bs} (h : At s p (c :: r)) : bt s (p : Int) = (c.toNat : Int):=by
 rw [bt_getD]
 congr 2
 have h2:=h.drop
 have h3:=h.lt
 rw [List.drop_eq_getElem_cons (by simpa using h3)] at h2
 injection h2 with h2 _
 rw [List.getD_eq_getElem?_getD,List.getElem?_eq_getElem (by simpa using h3)]
 exact h2
theorem _root_.Go.Proofs.YtjehflambbjoaaaDoor.X.At.ge {s : ByteArray} {p : Nat} (h : At s p []) : ¬ (p : Int) < (s.size : Int):=by have:=h.nil;omega
theorem _root_.Go.Proofs.YtjehflambbjoaaaDoor.X.At.lti {s : ByteArray} {p : Nat} {c : UInt8} {r : Bs} (h : At s p (c :: r)) : (p : Int) < (s.size : Int):=by have:=h.lt;omega
def okR (s : ByteArray) (r : Bs) (T : List S24) (S : ByteArray) : Option (Int × Int × List S24 × ByteArray):=some (((s.size - r.length : Nat) : Int),0,T,S)
def badR (s : ByteArray) (r : Bs) (e : Int) : Option (Int × Int × List S24 × ByteArray):=some (((s.size - r.length : Nat) : Int),e,[],⟨#[]⟩)
theorem is_law {s : ByteArray} {p : Nat} {l : Bs} (ha : At s p l) (n : Int) (c : UInt8) (hc : n = (c.toNat : Int)) : racewayref25_is.f s (p : Int) n = some (isC c l):=by
 rw [racewayref25_is.f]
 cases l with
 | nil => rw [if_neg ha.ge];rfl
 | cons d r =>
  rw [if_pos ha.lti,if_pos (by omega),ha.bt,hc,isC]
  congr 1
  by_cases h : d = c
  ·subst h;simp
  ·have h2 : (d.toNat : Int) ≠ (c.toNat : Int):=fun e => h (UInt8.toNat_inj.mp (by omega))
   rw [beq_eq_false_iff_ne.mpr h2,beq_eq_false_iff_ne.mpr h]
def isD : Bs → Bool
 | c :: _ => isDig c
 | [] => false
theorem digit_law {s : ByteArray} {p : Nat} {l : Bs} (ha : At s p l) : racewayref25_digit.f s (p : Int) = some (isD l):=by
 rw [racewayref25_digit.f]
 cases l with
 | nil => rw [if_neg ha.ge];rfl
 | cons d r =>
  rw [if_pos ha.lti,if_pos (by omega),ha.bt]
  by_cases h : (48 : Int) ≤ (d.toNat : Int)
  ·rw [if_pos h]
   simp only [isD,isDig]
   rw [decide_eq_true (show 48 ≤ d.toNat by omega),Bool.true_and]
   congr 1
   by_cases h2 : d.toNat ≤ 57
   ·rw [decide_eq_true h2,decide_eq_true (by omega)]
   ·rw [decide_eq_false h2,decide_eq_false (by omega)]
  ·rw [if_neg h]
   simp only [isD,isDig]
   rw [decide_eq_false (show ¬ 48 ≤ d.toNat by omega),Bool.false_and]
theorem _root_.Go.Proofs.YtjehflambbjoaaaDoor.X.At.blanks {s : ByteArray} : ∀ {l : Bs} {p : Nat},At s p l → At s (s.size - (X.blanks l).length) (X.blanks l)
 | [],p,ha => by
  have:=ha.nil
  simp only [X.blanks,List.length_nil,Nat.sub_zero]
  rw [← this]
  exact ha
 | c :: r,p,ha => by
  rw [X.blanks]
  split
  ·exact ha.next.blanks
  ·have:=ha.pos
   rw [← this]
   exact ha
def nres (s : ByteArray) (p : Nat) : Rs Unit → Option (Int × Int × List S24 × ByteArray)
 | .ok r _ => okR s r [] (s.extract p (s.size - r.length))
 | .bad r e => badR s r e
theorem fin_law {s : ByteArray} {p q : Nat} {l : Bs} (ha : At s q l) (hp : p ≤ q) : (if 0 ≤ (p : Int) then (if (p : Int) ≤ (q : Int) then (if (q : Int) ≤ (s.size : Int) then (some ((q : Int),0,([] : List (S24)),s.extract (p : Int).toNat (q : Int).toNat)) else (none)) else (none)) else (none)) = nres s p (.ok l ()):=by
 have h1:=ha.le
 have h2:=ha.pos
 rw [if_pos (by omega),if_pos (by omega),if_pos (by omega),nres,okR,Int.toNat_natCast,Int.toNat_natCast,← h2]
theorem fail_law {s : ByteArray} {p q : Nat} {l : Bs} (ha : At s q l) : ((racewayref25_fail.f (q : Int)).bind fun b => (some (b.1,b.2.1,b.2.2.1,b.2.2.2))) = nres s p (.bad l 5):=by
 have h2:=ha.pos
 rw [racewayref25_fail.f]
 show some ((q : Int),(5 : Int),([] : List S24),(⟨#[]⟩ : ByteArray)) = _
 rw [nres,badR,← h2]
theorem skip_cons (c : UInt8) (r : Bs) (h : isDig c = true) : skipDig (c :: r) = skipDig r:=by rw [skipDig,if_pos h]
theorem skip_not (l : Bs) (h : isD l = false) : skipDig l = l:=by
 cases l with
 | nil => rfl
 | cons c r => rw [skipDig,if_neg (by simpa [isD] using h)]
theorem digits_is (l : Bs) : digits l = if isD l = true then .ok (skipDig l) () else .bad l 5:=by
 cases l with
 | nil => rfl
 | cons c r =>
  simp only [digits]
  by_cases h : isDig c = true
  ·rw [if_pos h,if_pos (show isD (c :: r) = true from h),skip_cons c r h]
  ·rw [if_neg h,if_neg (show ¬ isD (c :: r) = true from h)]
theorem p1 {s : ByteArray} {q : Nat} {c : UInt8} {r : Bs} (hs : s.size ≤ 100000000) (ha : At s q (c :: r)) : wrap64 ((q : Int) + 1) = ((q + 1 : Nat) : Int):=by
 have:=ha.lt
 rw [w64v (by omega) (by omega)]
 omega
theorem l2_law (s : ByteArray) (hs : s.size ≤ 100000000) (p : Nat) : ∀ (l : Bs) (q k : Nat),At s q l → p ≤ q → l.length + 1 ≤ k → racewayref25_number.l2 k s (q : Int) (p : Int) = nres s p (.ok (skipDig l) ())
 | l,q,0,ha,hp,hk => by omega
 | [],q,k + 1,ha,hp,hk => by
  rw [racewayref25_number.l2,digit_law ha,Option.bind_some,if_neg (by decide)]
  exact fin_law ha hp
 | c :: r,q,k + 1,ha,hp,hk => by
  rw [racewayref25_number.l2,digit_law ha,Option.bind_some]
  by_cases h : isDig c = true
  ·rw [if_pos (by rw [isD,h]),p1 hs ha,skip_cons c r h]
   exact l2_law s hs p r (q + 1) k ha.next (by omega) (by simp at hk;omega)
  ·rw [if_neg (by rw [isD];exact h),fin_law ha hp,skip_not (c :: r) (by simpa [isD] using h)]
theorem j7_law (s : ByteArray) (hs : s.size ≤ 100000000) (p : Nat) (l : Bs) (q k : Nat) (ha : At s q l) (hp : p ≤ q) (hk : l.length + 2 ≤ k) : racewayref25_number.j7 k s (q : Int) (p : Int) = nres s p (digits l):=by
 obtain ⟨k,rfl⟩ : ∃ k',k = k' + 1:=⟨k - 1,by omega⟩
 rw [racewayref25_number.j7,digit_law ha,Option.bind_some,digits_is]
 by_cases h : isD l = true
 ·rw [if_pos h,if_pos h]
  exact l2_law s hs p l q k ha hp (by omega)
 ·rw [if_neg h,if_neg h]
  exact fail_law ha
theorem isC_ne {c : UInt8} {l : Bs} (h : isC c l = true) : ∃ r,l = c :: r:=by
 cases l with
 | nil => cases h
 | cons d r =>
  simp only [isC,beq_iff_eq] at h
  exact ⟨r,by rw [h]⟩
theorem j4_law (s : ByteArray) (hs : s.size ≤ 100000000) (p : Nat) (l : Bs) (q k : Nat) (ha : At s q l) (hp : p ≤ q) (hk : l.length + 8 ≤ k) : racewayref25_number.j4 k s (q : Int) (p : Int) = nres s p (num3 l):=by
 obtain ⟨k,rfl⟩ : ∃ k',k = k' + 4:=⟨k - 4,by omega⟩
 have hj5 : (isC 101 l || isC 69 l) = true → racewayref25_number.j5 (k + 3) s (q : Int) (p : Int) true = nres s p (num3 l):=by
  intro h
  obtain ⟨c,r,rfl⟩ : ∃ c r,l = c :: r:=by
   simp only [Bool.or_eq_true] at h
   rcases h with h|h
   ·obtain ⟨r,e⟩:=isC_ne h
    exact ⟨_,r,e⟩
   ·obtain ⟨r,e⟩:=isC_ne h
    exact ⟨_,r,e⟩
  have hb:=ha.next
  rw [racewayref25_number.j5,if_pos rfl,p1 hs ha,is_law hb 43 43 rfl,Option.bind_some,is_law hb 45 45 rfl]
  unfold num3
  rw [if_pos h,List.drop_succ_cons,List.drop_zero]
  have h6 : racewayref25_number.j6 (k + 2) s ((q + 1 : Nat) : Int) (p : Int) (isC 43 r || isC 45 r) = nres s p (if (isC 43 r || isC 45 r) = true then digits (List.drop 2 (c :: r)) else digits r):=by
   rw [racewayref25_number.j6]
   by_cases h2 : (isC 43 r || isC 45 r) = true
   ·obtain ⟨c2,r2,rfl⟩ : ∃ c r',r = c :: r':=by
     simp only [Bool.or_eq_true] at h2
     rcases h2 with h2|h2
     ·obtain ⟨r,e⟩:=isC_ne h2
      exact ⟨_,r,e⟩
     ·obtain ⟨r,e⟩:=isC_ne h2
      exact ⟨_,r,e⟩
    rw [if_pos h2,if_pos h2,p1 hs hb]
    exact j7_law s hs p r2 (q + 1 + 1) _ hb.next (by omega) (by simp at hk;omega)
   ·rw [if_neg h2,if_neg h2]
    exact j7_law s hs p r (q + 1) _ hb (by omega) (by simp at hk;omega)
  by_cases h3 : isC 43 r = true
  ·rw [if_pos h3]
   rw [h3,Bool.true_or] at h6
   rw [h3,Bool.true_or]
   exact h6
  ·rw [if_neg h3,Option.bind_some]
   have h3' : isC 43 r = false:=by simpa using h3
   rw [h3',Bool.false_or] at h6
   rw [h3',Bool.false_or]
   exact h6
 rw [racewayref25_number.j4,is_law ha 101 101 rfl,Option.bind_some]
 by_cases h1 : isC 101 l = true
 ·rw [if_pos h1]
  exact hj5 (by rw [h1];rfl)
 ·rw [if_neg h1,is_law ha 69 69 rfl,Option.bind_some]
  have h1' : isC 101 l = false:=by simpa using h1
  by_cases h2 : isC 69 l = true
  ·rw [h2]
   exact hj5 (by rw [h2,Bool.or_true])
  ·have h2' : isC 69 l = false:=by simpa using h2
   rw [h2',racewayref25_number.j5,if_neg (by decide),fin_law ha hp,num3,h1',h2']
   rfl
theorem l1_law (s : ByteArray) (hs : s.size ≤ 100000000) (p : Nat) : ∀ (l : Bs) (q k : Nat),At s q l → p ≤ q → 2 * l.length + 10 ≤ k → racewayref25_number.l1 k s (q : Int) (p : Int) = nres s p (num3 (skipDig l))
 | l,q,0,ha,hp,hk => by omega
 | [],q,k + 1,ha,hp,hk => by
  rw [racewayref25_number.l1,digit_law ha,Option.bind_some,if_neg (by decide)]
  exact j4_law s hs p [] q k ha hp (by simp at hk ⊢;omega)
 | c :: r,q,k + 1,ha,hp,hk => by
  rw [racewayref25_number.l1,digit_law ha,Option.bind_some]
  by_cases h : isDig c = true
  ·rw [if_pos (by rw [isD,h]),p1 hs ha,skip_cons c r h]
   exact l1_law s hs p r (q + 1) k ha.next (by omega) (by simp at hk;omega)
  ·rw [if_neg (by rw [isD];exact h),skip_not (c :: r) (by simpa [isD] using h)]
   exact j4_law s hs p (c :: r) q k ha hp (by simp at hk ⊢;omega)
def num23 (l : Bs) : Rs Unit:=match num2 l with
 | .bad r e => .bad r e
 | .ok l3 _ => num3 l3
theorem j2_law (s : ByteArray) (hs : s.size ≤ 100000000) (p : Nat) (l : Bs) (q k : Nat) (ha : At s q l) (hp : p ≤ q) (hk : 2 * l.length + 12 ≤ k) : racewayref25_number.j2 k s (q : Int) (p : Int) = nres s p (num23 l):=by
 obtain ⟨k,rfl⟩ : ∃ k',k = k' + 1:=⟨k - 1,by omega⟩
 rw [racewayref25_number.j2,is_law ha 46 46 rfl,Option.bind_some,num23,num2]
 by_cases h : isC 46 l = true
 ·obtain ⟨r,rfl⟩:=isC_ne h
  rw [if_pos h,if_pos h,p1 hs ha,digit_law ha.next,Option.bind_some,List.drop_succ_cons,List.drop_zero,digits_is]
  by_cases h2 : isD r = true
  ·rw [if_pos h2,if_pos h2]
   exact l1_law s hs p r (q + 1) k ha.next (by omega) (by simp at hk;omega)
  ·rw [if_neg h2,if_neg h2]
   exact fail_law ha.next
 ·rw [if_neg h,if_neg h]
  exact j4_law s hs p l q k ha hp (by omega)
theorem l0_law (s : ByteArray) (hs : s.size ≤ 100000000) (p : Nat) : ∀ (l : Bs) (q k : Nat),At s q l → p ≤ q → 3 * l.length + 14 ≤ k → racewayref25_number.l0 k s (q : Int) (p : Int) = nres s p (num23 (skipDig l))
 | l,q,0,ha,hp,hk => by omega
 | [],q,k + 1,ha,hp,hk => by
  rw [racewayref25_number.l0,digit_law ha,Option.bind_some,if_neg (by decide)]
  exact j2_law s hs p [] q k ha hp (by simp at hk ⊢;omega)
 | c :: r,q,k + 1,ha,hp,hk => by
  rw [racewayref25_number.l0,digit_law ha,Option.bind_some]
  by_cases h : isDig c = true
  ·rw [if_pos (by rw [isD,h]),p1 hs ha,skip_cons c r h]
   exact l0_law s hs p r (q + 1) k ha.next (by omega) (by simp at hk;omega)
  ·rw [if_neg (by rw [isD];exact h),skip_not (c :: r) (by simpa [isD] using h)]
   exact j2_law s hs p (c :: r) q k ha hp (by simp at hk ⊢;omega)
theorem j0_law (s : ByteArray) (hs : s.size ≤ 100000000) (p : Nat) (l : Bs) (q k : Nat) (ha : At s q l) (hp : p ≤ q) (hk : 3 * l.length + 16 ≤ k) : racewayref25_number.j0 k s (q : Int) (p : Int) = nres s p (match num1 l with | .bad r e => .bad r e | .ok l2 _ => num23 l2):=by
 obtain ⟨k,rfl⟩ : ∃ k',k = k' + 1:=⟨k - 1,by omega⟩
 rw [racewayref25_number.j0,digit_law ha,Option.bind_some,num1]
 cases l with
 | nil =>
  rw [if_neg (by decide)]
  exact fail_law ha
 | cons c r =>
  have e48 : (bt s (q : Int) = 48) ↔ isC 48 (c :: r) = true:=by
   rw [ha.bt]
   simp only [isC,beq_iff_eq]
   exact ⟨fun h => UInt8.toNat_inj.mp (by show c.toNat = 48;omega),fun h => by rw [h];rfl⟩
  by_cases h : isD (c :: r) = true
  ·rw [if_pos h,if_pos (by omega),if_pos ha.lti]
   by_cases h2 : isC 48 (c :: r) = true
   ·rw [if_pos (e48.mpr h2),if_pos h2,p1 hs ha]
    exact j2_law s hs p r (q + 1) k ha.next (by omega) (by simp at hk;omega)
   ·rw [if_neg (fun hh => h2 (e48.mp hh)),if_neg h2,digits_is,if_pos h]
    exact l0_law s hs p (c :: r) q k ha hp (by omega)
  ·have h2 : ¬ isC 48 (c :: r) = true:=by
    intro hh
    simp only [isC,beq_iff_eq] at hh
    subst hh
    exact h (show isDig 48 = true by decide)
   rw [if_neg h,if_neg h2,digits_is,if_neg h]
   exact fail_law ha
theorem number_R {s : ByteArray} {p : Nat} {l : Bs} (ha : At s p l) (hs : s.size ≤ 100000000) (k : Nat) (hk : 3 * l.length + 20 ≤ k) : racewayref25_number.f k s (p : Int) = nres s p (num l):=by
 rw [racewayref25_number.f,is_law ha 45 45 rfl,Option.bind_some]
 have e : ∀ l' : Bs,(match num1 l' with | .bad r e => (.bad r e : Rs Unit) | .ok l2 _ => num23 l2) = (match num1 l' with | .bad r e => (.bad r e : Rs Unit) | .ok l2 _ => match num2 l2 with | .bad r e => .bad r e | .ok l3 _ => num3 l3):=fun _ => rfl
 by_cases h : isC 45 l = true
 ·obtain ⟨r,rfl⟩:=isC_ne h
  rw [if_pos h,p1 hs ha,j0_law s hs p r (p + 1) k ha.next (by omega) (by simp at hk;omega),num,if_pos h]
  rfl
 ·rw [if_neg h,j0_law s hs p l p k ha (Nat.le_refl _) (by omega),num,if_neg h]
  rfl
end Go.Proofs.YtjehflambbjoaaaDoor.Pure
namespace Go.Proofs.YtjehflambbjoaaaDoor.Pure
open Go.Proofs.YtjehflambbjoaaaDoor.X Go.RowKit Go.Proofs.YtjehflambbjoaaaDoorW.PrintWords Go.Proofs.YtjehflambbjoaaaDoorW.PrintMore
set_option linter.unusedVariables false
set_option linter.unusedSimpArgs false
theorem mstr_app (a b : Bs) : str a ++ str b = str (a ++ b):=by
 unfold str
 apply ByteArray.ext
 simp
theorem byte_is {c : UInt8} {n : Nat} (h : (c.toNat : Int) = (n : Int)) (hn : n < 256) : c = UInt8.ofNat n:=by
 apply UInt8.toNat_inj.1
 rw [UInt8.toNat_ofNat']
 omega
theorem cut_one {s : ByteArray} {p : Nat} {c : UInt8} {r : Bs} (ha : At s p (c :: r)) : s.extract p (p + 1) = str [c]:=by
 have h:=ha.drop
 apply ByteArray.ext
 simp only [ByteArray.data_extract,str]
 apply Array.toList_inj.1
 rw [Array.toList_extract,List.extract_eq_take_drop,h]
 simp
section
variable [I : Recracewayref29element]
theorem esc_l0 (s : ByteArray) (hs : s.size ≤ 1000000) (x y z : Int) (q : ByteArray) : ∀ (m : Bs) (p k : Nat) (acc : Bs),At s p m → m.length + 1 ≤ k → acc.length + 6 * m.length ≤ 1000000000 →
  racewayref29_insideO.l0 k (str acc) (p : Int) x y z q s = some (str (acc ++ m.flatMap esc))
 | m,p,0,acc,ha,hk,hn => by omega
 | [],p,k + 1,acc,ha,hk,hn => by
  rw [racewayref29_insideO.l0,if_neg ha.ge]
  simp
 | c :: r,p,k + 1,acc,ha,hk,hn => by
  have hlt:=ha.lt
  simp only [List.length_cons] at hk hn
  have hz : (str acc).size = acc.length:=by simp [str,ByteArray.size]
  have hw : wrap64 ((p : Int) + 1) = ((p + 1 : Nat) : Int):=by unfold wrap64;omega
  have hx : (s.extract ((p : Int)).toNat (((p + 1 : Nat) : Int)).toNat) = str [c]:=by
   rw [Int.toNat_natCast,Int.toNat_natCast]
   exact cut_one ha
  rw [racewayref29_insideO.l0,if_pos ha.lti,if_pos (by omega),ha.bt,hw,hz,hx]
  have step : ∀ (b : Bs),esc c = b → b.length ≤ 6 → racewayref29_insideO.l0 k (str acc ++ str b) ((p + 1 : Nat) : Int) x y z q s = some (str (acc ++ (c :: r).flatMap esc)):=by
   intro b hb hl
   rw [mstr_app,esc_l0 s hs x y z q r (p + 1) k (acc ++ b) ha.next (by omega) (by rw [List.length_append];omega),List.flatMap_cons,hb,List.append_assoc]
  by_cases h1 : (c.toNat : Int) = 38
  ·have:=byte_is (n:=38) h1 (by decide)
   rw [if_pos h1,if_pos (by omega)]
   exact step _ (by rw [this];rfl) (by decide)
  ·by_cases h2 : (c.toNat : Int) = 60
   ·have:=byte_is (n:=60) h2 (by decide)
    rw [if_neg h1,if_pos h2,if_pos (by omega)]
    exact step _ (by rw [this];rfl) (by decide)
   ·by_cases h3 : (c.toNat : Int) = 62
    ·have:=byte_is (n:=62) h3 (by decide)
     rw [if_neg h1,if_neg h2,if_pos h3,if_pos (by omega)]
     exact step _ (by rw [this];rfl) (by decide)
    ·by_cases h4 : (c.toNat : Int) = 34
     ·have:=byte_is (n:=34) h4 (by decide)
      rw [if_neg h1,if_neg h2,if_neg h3,if_pos h4,if_pos (by omega)]
      exact step _ (by rw [this];rfl) (by decide)
     ·rw [if_neg h1,if_neg h2,if_neg h3,if_neg h4,if_pos (by omega),if_pos (by omega),if_pos (by simp [str,ByteArray.size];omega)]
      refine step [c] ?_ (by simp)
      have n1 : c ≠ 38:=fun e => h1 (by rw [e];rfl)
      have n2 : c ≠ 60:=fun e => h2 (by rw [e];rfl)
      have n3 : c ≠ 62:=fun e => h3 (by rw [e];rfl)
      have n4 : c ≠ 34:=fun e => h4 (by rw [e];rfl)
      unfold esc
      rw [if_neg n1,if_neg n2,if_neg n3,if_neg n4]
end
theorem rd_here (l : List S24) (p : Nat) (x : S24) (r : List S24) (h : l.drop p = x :: r) : rd_T24 l (p : Int) = x ∧ p < l.length ∧ l.drop (p + 1) = r:=by
 have hp : p < l.length:=by
  have:=congrArg List.length h
  simp at this
  omega
 have e:=List.drop_eq_getElem_cons hp
 rw [h] at e
 injection e with e1 e2
 refine ⟨?_,hp,e2.symm⟩
 unfold rd_T24
 rw [Int.toNat_natCast,List.getD_eq_getElem?_getD,List.getElem?_eq_getElem hp]
 exact e1.symm
def fine (M T : Nat) : F → Prop
 | .nil => True
 | .leaf k d t r => k.length ≤ M ∧ t.length ≤ T ∧ 1 ≤ d ∧ d ≤ 5 ∧ fine M T r
 | .node k d ks r => k.length ≤ M ∧ (d = 6 ∨ d = 7) ∧ fine M T ks ∧ fine M T r
theorem fine_keys (M T : Nat) : ∀ f : F,fine M T f → keysIn M f
 | .nil,h => trivial
 | .leaf k d t r,h => ⟨h.1,fine_keys M T r h.2.2.2.2⟩
 | .node k d ks r,h => ⟨h.1,fine_keys M T ks h.2.2.1,fine_keys M T r h.2.2.2⟩
theorem flat_count : ∀ f : F,f.count ≤ f.flat.length
 | .nil => Nat.le_refl _
 | .leaf k d t r => by have:=flat_count r;simp only [F.count,F.flat,List.length_cons];omega
 | .node k d ks r => by have:=flat_count r;simp only [F.count,F.flat,List.length_cons,List.length_append];omega
theorem flat_nil : ∀ f : F,f.count = 0 → f = .nil
 | .nil,_ => rfl
def dep : F → Nat
 | .nil => 0
 | .leaf _ _ _ r => max 1 (dep r)
 | .node _ _ ks r => max (dep ks + 1) (dep r)
def OkEl (l : List S24) (I : Recracewayref29element) (K0 d M T : Nat) : Prop:=∀ (u : F) (r : List S24) (p k : Nat) (name : Bs),u.count = 1 → dep u ≤ d → l.drop p = u.flat ++ r → fine M T u → name.length ≤ M → cost M u ≤ 500000000 → K0 ≤ k →
 I.f k (str name) l (p : Int) = some (str (mkup (some name) u))
theorem msize (a : Bs) : (str a).size = a.length:=by simp [str,ByteArray.size]
section
variable [I : Recracewayref29element]
theorem l1_step (l : List S24) (hlen : l.length ≤ 1000000) (x : S24) (next cnt k s : Nat) (hx : rd_T24 l (next : Int) = x) (hlt : next < l.length) (name nm acc m : Bs) (kind sz N : Int) (key text : ByteArray)
  (hN : (cnt : Int) < N) (hc : cnt ≤ 1000000) (hs : x.f1 = (s : Int)) (hs2 : s ≤ 1000000) (hnm : nm = if kind = 7 then x.f3.data.toList else name) (h3 : str x.f3.data.toList = x.f3) (e : I.f k (str nm) l (next : Int) = some (str m)) (hm : acc.length + m.length ≤ 1100000000) :
  racewayref29_insideO.l1 (k + 1) (str name) l (str acc) (next : Int) (cnt : Int) kind sz N key text = racewayref29_insideO.l1 k (str name) l (str (acc ++ m)) ((next + s : Nat) : Int) ((cnt + 1 : Nat) : Int) kind sz N key text:=by
 have w1 : wrap64 ((next : Int) + (s : Int)) = ((next + s : Nat) : Int):=by unfold wrap64;omega
 have w2 : wrap64 ((cnt : Int) + 1) = ((cnt + 1 : Nat) : Int):=by unfold wrap64;omega
 rw [racewayref29_insideO.l1,if_pos hN,hx]
 by_cases h7 : kind = 7
 ·rw [if_pos h7] at hnm
  rw [hnm,h3] at e
  rw [if_pos h7,if_pos (by omega),if_pos (by omega),e,Option.bind_some,msize,msize,if_pos (by omega),mstr_app,hs,w1,w2]
 ·rw [if_neg h7] at hnm
  rw [hnm] at e
  rw [if_neg h7,e,Option.bind_some,msize,msize,if_pos (by omega),if_pos (by omega),if_pos (by omega),mstr_app,hs,w1,w2]
theorem kids_l1 (l : List S24) (hlen : l.length ≤ 1000000) (K0 d M T : Nat) (hI : OkEl l I K0 d M T) (name : Bs) (hname : name.length ≤ M) (kind sz N : Int) (key text : ByteArray) (hk7 : kind = 6 ∨ kind = 7) : ∀ (f : F) (rest : List S24) (next cnt k : Nat) (acc : Bs),dep f ≤ d → l.drop next = f.flat ++ rest → fine M T f → N = ((cnt + f.count : Nat) : Int) → cnt + f.count ≤ 1000000 → acc.length + cost M f ≤ 500000000 → K0 + f.count + 1 ≤ k →
  racewayref29_insideO.l1 k (str name) l (str acc) (next : Int) (cnt : Int) kind sz N key text = some (str (acc ++ mkup (if kind = 7 then none else some name) f))
 | f,rest,next,cnt,0,acc,hd,h,hf,hN,hc,ha,hk => by omega
 | .nil,rest,next,cnt,k + 1,acc,hd,h,hf,hN,hc,ha,hk => by
  rw [racewayref29_insideO.l1,if_neg (by rw [hN];simp [F.count])]
  simp [mkup]
 | .leaf kk d0 t g,rest,next,cnt,k + 1,acc,hd,h,hf,hN,hc,ha,hk => by
  simp only [F.flat,List.cons_append] at h
  simp only [F.count] at hN hc hk
  simp only [dep] at hd
  simp only [cost] at ha
  obtain ⟨e1,e2,e3⟩:=rd_here l next _ _ h
  have hnl : (if kind = 7 then kk else name).length ≤ M:=by split;exact hf.1;exact hname
  have hF : fine M T (.leaf kk d0 t .nil):=⟨hf.1,hf.2.1,hf.2.2.1,hf.2.2.2.1,trivial⟩
  have e:=hI (.leaf kk d0 t .nil) (g.flat ++ rest) next k (if kind = 7 then kk else name) rfl (by simp only [dep];omega) (by simpa [F.flat] using h) hF hnl (by simp only [cost];omega) (by omega)
  have hms:=mkup_size M (.leaf kk d0 t .nil) (some (if kind = 7 then kk else name)) (fine_keys M T _ hF) (fun n hn => by cases hn;exact hnl)
  simp only [cost] at hms
  rw [l1_step l hlen _ next cnt k 1 e1 e2 name (if kind = 7 then kk else name) acc _ kind sz N key text (by omega) (by omega) rfl (by decide) (by simp [str]) (by simp [str]) e (by omega),
   kids_l1 l hlen K0 d M T hI name hname kind sz N key text hk7 g rest (next + 1) (cnt + 1) k _ (by omega) e3 hf.2.2.2.2 (by rw [hN];congr 1;omega) (by omega) (by rw [List.length_append];omega) (by omega),List.append_assoc]
  congr 3
  by_cases h7 : kind = 7
  ·simp [h7,mkup]
  ·simp [h7,mkup]
 | .node kk d0 ks g,rest,next,cnt,k + 1,acc,hd,h,hf,hN,hc,ha,hk => by
  simp only [F.flat,List.cons_append] at h
  simp only [F.count] at hN hc hk
  simp only [dep] at hd
  simp only [cost] at ha
  obtain ⟨e1,e2,e3⟩:=rd_here l next _ _ h
  have hnl : (if kind = 7 then kk else name).length ≤ M:=by split;exact hf.1;exact hname
  have hF : fine M T (.node kk d0 ks .nil):=⟨hf.1,hf.2.1,hf.2.2.1,trivial⟩
  have e:=hI (.node kk d0 ks .nil) (g.flat ++ rest) next k (if kind = 7 then kk else name) rfl (by simp only [dep];omega) (by simpa [F.flat] using h) hF hnl (by simp only [cost];omega) (by omega)
  have hms:=mkup_size M (.node kk d0 ks .nil) (some (if kind = 7 then kk else name)) (fine_keys M T _ hF) (fun n hn => by cases hn;exact hnl)
  simp only [cost] at hms
  have hsz : ks.flat.length + 1 ≤ l.length:=by
   have:=congrArg List.length h
   simp only [List.length_drop,List.length_cons,List.length_append] at this
   omega
  have e4 : l.drop (next + (ks.flat.length + 1)) = g.flat ++ rest:=by
   rw [show next + (ks.flat.length + 1) = (next + 1) + ks.flat.length by omega,← List.drop_drop,e3]
   simp
  rw [l1_step l hlen _ next cnt k (ks.flat.length + 1) e1 e2 name (if kind = 7 then kk else name) acc _ kind sz N key text (by omega) (by omega) rfl (by omega) (by simp [str]) (by simp [str]) e (by omega),
   kids_l1 l hlen K0 d M T hI name hname kind sz N key text hk7 g rest (next + (ks.flat.length + 1)) (cnt + 1) k _ (by omega) e4 hf.2.2.2 (by rw [hN];congr 1;omega) (by omega) (by rw [List.length_append];omega) (by omega),List.append_assoc]
  congr 3
  by_cases h7 : kind = 7
  ·simp [h7,mkup]
  ·simp [h7,mkup]
theorem in_leaf (l : List S24) (kk : Bs) (d0 : Int) (t : Bs) (name : Bs) (p k : Nat) (r : List S24) (h : l.drop p = ⟨d0,1,0,str kk,str t⟩ :: r) (ht : t.length ≤ 1000000) (h1 : 1 ≤ d0) (h5 : d0 ≤ 5) (hk : t.length + 10 ≤ k) :
  racewayref29_insideO.f k (str name) l (p : Int) = some (str (leafIn d0 t)):=by
 obtain ⟨e1,e2,e3⟩:=rd_here l p _ _ h
 obtain ⟨k,rfl⟩ : ∃ k',k = k' + 2:=⟨k - 2,by omega⟩
 have hL:=esc_l0 (str t) (by rw [msize];exact ht)
 have hAt : At (str t) 0 t:=⟨by rw [msize];omega,by simp [str]⟩
 rw [racewayref29_insideO.f,if_pos (by omega),if_pos (by omega),e1]
 unfold leafIn
 by_cases c2 : d0 = 2
 ·rw [if_pos c2,if_pos c2]
  rfl
 ·by_cases c3 : d0 = 3
  ·rw [if_neg c2,if_pos c3,if_neg c2,if_pos c3]
   rfl
  ·rw [if_neg c2,if_neg c3,if_neg c2,if_neg c3]
   by_cases c4 : d0 = 4
   ·rw [if_pos c4,if_pos (.inl c4),racewayref29_insideO.j0,if_pos rfl]
    exact hL _ _ _ _ t 0 (k + 1) [] hAt (by omega) (by simp;omega)
   ·rw [if_neg c4]
    by_cases c5 : d0 = 5
    ·rw [if_pos (.inr c5),racewayref29_insideO.j0,if_pos (by simp [c5])]
     exact hL _ _ _ _ t 0 (k + 1) [] hAt (by omega) (by simp;omega)
    ·rw [if_neg (by omega),racewayref29_insideO.j0,if_neg (by simp [c5]),racewayref29_insideO.l1,if_neg (show ¬ (0 : Int) < 0 by decide)]
     rfl
theorem in_node (l : List S24) (hlen : l.length ≤ 1000000) (K0 d M T : Nat) (hI : OkEl l I K0 d M T) (kk : Bs) (d0 : Int) (ks : F) (name : Bs) (p k : Nat) (r : List S24) (hname : name.length ≤ M) (hd : dep ks ≤ d) (h67 : d0 = 6 ∨ d0 = 7) (hf : fine M T ks) (hc : cost M ks ≤ 500000000)
  (h : l.drop p = ⟨d0,(ks.flat.length + 1 : Nat),(ks.count : Nat),str kk,str []⟩ :: (ks.flat ++ r)) (hcnt : ks.count ≤ ks.flat.length) (hk : K0 + l.length + 10 ≤ k) :
  racewayref29_insideO.f k (str name) l (p : Int) = some (str (mkup (if d0 = 7 then none else some name) ks)):=by
 obtain ⟨e1,e2,e3⟩:=rd_here l p _ _ h
 obtain ⟨k,rfl⟩ : ∃ k',k = k' + 1:=⟨k - 1,by omega⟩
 have hsz : ks.flat.length + 1 ≤ l.length:=by
  have:=congrArg List.length h
  simp only [List.length_drop,List.length_cons,List.length_append] at this
  omega
 have hw : wrap64 ((p : Int) + 1) = ((p + 1 : Nat) : Int):=by unfold wrap64;omega
 have n2 : ¬ d0 = 2:=by clear hw;omega
 have n3 : ¬ d0 = 3:=by clear hw;omega
 have n4 : ¬ d0 = 4:=by clear hw;omega
 have n5 : (d0 == 5) = false:=beq_eq_false_iff_ne.2 (by clear hw;omega)
 have hp0 : (0 : Int) ≤ (p : Int):=Int.natCast_nonneg p
 have hpl : (p : Int) < (l.length : Int):=Int.ofNat_lt.2 e2
 rw [racewayref29_insideO.f,if_pos hp0,if_pos hpl,e1,if_neg n2,if_neg n3,if_neg n4]
 show racewayref29_insideO.j0 (k + 1) (str name) l (p : Int) (⟨#[]⟩ : ByteArray) (d0 == 5) d0 ((ks.flat.length + 1 : Nat) : Int) ((ks.count : Nat) : Int) (str kk) (str []) = _
 rw [n5,racewayref29_insideO.j0,if_neg Bool.false_ne_true,hw]
 exact kids_l1 l hlen K0 d M T hI name hname d0 ((ks.flat.length + 1 : Nat) : Int) ((ks.count : Nat) : Int) (str kk) (str []) h67 ks r (p + 1) 0 k [] hd e3 hf (by rw [Nat.zero_add]) (by clear hw;omega) (by rw [List.length_nil,Nat.zero_add];exact hc) (by clear hw;omega)
theorem el_tag (l : List S24) (name b : Bs) (p k : Nat) (hp : p < l.length) (h6 : ¬ (rd_T24 l (p : Int)).f0 = 6) (e : racewayref29_insideO.f k (str name) l (p : Int) = some (str b)) (hn : 2 * name.length + b.length ≤ 1200000000) : racewayref29_elementO.f k (str name) l (p : Int) = some (str (tag name b)):=by
 rw [racewayref29_elementO.f,if_pos (by omega),if_pos (by omega),if_neg h6,msize,if_pos (by omega),if_pos (by omega),e,Option.bind_some,msize,if_pos (by omega),if_pos (by omega),if_pos (by omega),if_pos (by omega)]
 show some (str [60] ++ str name ++ str [62] ++ str b ++ str [60,47] ++ str name ++ str [62]) = _
 rw [mstr_app,mstr_app,mstr_app,mstr_app,mstr_app,mstr_app]
 rfl
theorem el_law (l : List S24) (hlen : l.length ≤ 1000000) (K0 d M T : Nat) (hM : M ≤ 1000000) (hT : T ≤ 1000000) (hI : OkEl l I K0 d M T) (u : F) (r : List S24) (p k : Nat) (name : Bs) (h1 : u.count = 1) (hd : dep u ≤ d + 1) (h : l.drop p = u.flat ++ r) (hf : fine M T u) (hn : name.length ≤ M) (hc : cost M u ≤ 500000000) (hk : K0 + l.length + T + 10 ≤ k) :
  racewayref29_elementO.f k (str name) l (p : Int) = some (str (mkup (some name) u)):=by
 match u,h1,hd,h,hf,hc with
 | .leaf kk d0 t g,h1,hd,h,hf,hc =>
  obtain rfl:=flat_nil g (by simpa [F.count] using h1)
  simp only [F.flat,List.cons_append,List.nil_append] at h
  obtain ⟨e1,e2,e3⟩:=rd_here l p _ _ h
  have:=leafIn_size d0 t
  rw [el_tag l name (leafIn d0 t) p k e2 (by rw [e1];have:=hf.2.2.2.1;show ¬ d0 = 6;omega) (in_leaf l kk d0 t name p k r h (by have:=hf.2.1;omega) hf.2.2.1 hf.2.2.2.1 (by have:=hf.2.1;omega)) (by have:=hf.2.1;omega)]
  simp [mkup]
 | .node kk d0 ks g,h1,hd,h,hf,hc =>
  obtain rfl:=flat_nil g (by simpa [F.count] using h1)
  simp only [F.flat,List.cons_append,List.append_nil] at h
  obtain ⟨e1,e2,e3⟩:=rd_here l p _ _ h
  simp only [dep] at hd
  simp only [cost] at hc
  have e:=in_node l hlen K0 d M T hI kk d0 ks name p k r hn (by omega) hf.2.1 hf.2.2.1 (by omega) h (flat_count ks) (by omega)
  have hms:=mkup_size M ks none (fine_keys M T _ hf.2.2.1) (fun n hn => nomatch hn)
  rcases hf.2.1 with h6|h7
  ·rw [if_neg (by omega)] at e
   rw [racewayref29_elementO.f,if_pos (by omega),if_pos (by omega),e1,if_pos h6,e]
   simp [mkup,h6]
  ·rw [if_pos h7] at e
   rw [el_tag l name (mkup none ks) p k e2 (by rw [e1];show ¬ d0 = 6;omega) e (by omega)]
   simp [mkup,h7]
end
theorem rel_law (l : List S24) (hlen : l.length ≤ 1000000) (M T : Nat) (hM : M ≤ 1000000) (hT : T ≤ 1000000) : ∀ d : Nat,OkEl l (recracewayref29_element d) (d * (l.length + T + 10)) d M T
 | 0 => fun u r p k name h1 hd h hf hn hc hk => by
  cases u with
  | nil => simp [F.count] at h1
  | leaf => simp only [dep] at hd;omega
  | node => simp only [dep] at hd;omega
 | d + 1 => fun u r p k name h1 hd h hf hn hc hk => by
  have:=rel_law l hlen M T hM hT d
  exact @el_law (recracewayref29_element d) l hlen (d * (l.length + T + 10)) d M T hM hT this u r p k name h1 hd h hf hn hc (by rw [Nat.succ_mul] at hk;omega)
end Go.Proofs.YtjehflambbjoaaaDoor.Pure
