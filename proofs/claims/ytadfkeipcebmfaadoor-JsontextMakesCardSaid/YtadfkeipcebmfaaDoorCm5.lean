/-
  What the claim's law rests on, part 5 of 7: printed walks, externals, plain lemmas; conditions: none of its own.
-/
import Derived.Test.YtadfkeipcebmfaaDoorCm4
namespace Go.Proofs.YtadfkeipcebmfaaDoor.X
open Go.RowKit Go.Proofs.YtadfkeipcebmfaaDoorW.PrintWords Go.Proofs.YtadfkeipcebmfaaDoorW.PrintLast Go.Proofs.YtadfkeipcebmfaaDoorW.PrintMore
attribute [local go_sem] max2_int min2_int max_two min_two max_three min_three max_four min_four
set_option linter.unusedVariables false
set_option linter.unusedSimpArgs false
def racewayref25_fail.f (a0 : Int) : Option (Int × Int × (List (S46)) × ByteArray):=some (a0,5,([] : List (S46)),(⟨#[]⟩ : ByteArray))
set_option maxHeartbeats 8000000 in
set_option maxRecDepth 100000 in
theorem racewayref25_fail.calls (a0 : Int) (r1 : Int) (r2 : Int) (r3 : List (S46)) (r4 : ByteArray) (w : World) (h : racewayref25_fail.f a0 = some (r1,r2,r3,r4)) :
  Calls Tryd.prog 54 #[.int .i64 a0] w fun e w' => ∃ v2_ : Value,e = .returned (.agg #[.int .i64 r1,.int .i64 r2,v2_,.string r4]) ∧ Kd.R k46 46 w' w.heap.size (fun _ => True) v2_ r3 ∧ Below w.heap.size w w':=by
 have hu67:=Tryd.underlying67
 have HB:=Aside0.mk (Below.refl w.heap.size w)
 have H : (some (a0,5,([] : List (S46)),(⟨#[]⟩ : ByteArray))) = some (r1,r2,r3,r4):=h
 clear h
 simp only [Option.some.injEq,Prod.mk.injEq] at H
 obtain ⟨rfl,rfl,rfl,rfl⟩:=H
 go_enter Tryd.func54,Tryd.ntmps54
 go_wp2_with (first|((with_reducible refine gate_dst (N:=2) rfl ?_);refine box_event ?hg (N:=2) ?hd (cs:=#[.int .i64 0,.int .i64 0,.slice none 0 0,.string (⟨#[]⟩ : ByteArray)]) (t:=67) ?hr ?_;(case hd => rfl);(case hg => rfl);(case hr => first|(go_simp;done)|(go_simp;rfl));intro gb259 hg w2 hbox hb;have n0_:=Aside0.mk (below_step (by repeat (first|(with_reducible first|exact HB.out|apply below_alloc|apply pw_below_drewN|apply below_drew1)|exact HB.out)) hb);have n1_:=Aside0.mk (hbox);have n2_:=Aside0.mk ((by rw [hg];exact (below_size (by repeat (first|(with_reducible first|exact HB.out|apply below_alloc|apply pw_below_drewN|apply below_drew1)|exact HB.out))) : w.heap.size ≤ gb259));have n3_:=Aside0.mk ((by rw [hg];exact (below_size (by repeat (first|(with_reducible first|exact HB.out|apply below_alloc|apply pw_below_drewN|apply below_drew1)|exact HB.out))) : w.heap.size ≤ gb259));clear HB;have HB:=n0_;have BK259:=n1_;have GW259:=n2_;have GE259:=n3_;clear n0_ n1_ n2_ n3_;clear hb hbox hg;have hcz3_0 : w2.cell? ⟨gb259,0,none⟩ = some (.int .i64 0):=(blk_cell BK259.out 0).trans rfl;have hcz3_1 : w2.cell? ⟨gb259,1,none⟩ = some (.int .i64 0):=(blk_cell BK259.out 1).trans rfl;have hcz3_2 : w2.cell? ⟨gb259,2,none⟩ = some (.slice none 0 0):=(blk_cell BK259.out 2).trans rfl;have hcz3_3 : w2.cell? ⟨gb259,3,none⟩ = some (.string (⟨#[]⟩ : ByteArray)):=(blk_cell BK259.out 3).trans rfl;have hfz3_0:=blk_frozen BK259.out 0;have hfz3_1:=blk_frozen BK259.out 1;have hfz3_2:=blk_frozen BK259.out 2;have hfz3_3:=blk_frozen BK259.out 3))
 refine bodyPost_ret (results_cell_row rfl _ _ gb259 67 #[.int .i64 a0,.int .i64 5,.slice none 0 0,.string (⟨#[]⟩ : ByteArray)] (0,0) _ rfl (by (with_reducible repeat (first|refine blk_drewN ?_ _|refine blk_drew ?_|refine blk_alloc ?_ _));refine blk_put (cs:=#[.int .i64 a0,.int .i64 5,.slice none 0 0,.string (⟨#[]⟩ : ByteArray)]) ?_ 3 _ rfl;(with_reducible repeat (first|refine blk_drewN ?_ _|refine blk_drew ?_|refine blk_alloc ?_ _));refine blk_put (cs:=#[.int .i64 a0,.int .i64 5,.slice none 0 0,.string (⟨#[]⟩ : ByteArray)]) ?_ 2 _ rfl;(with_reducible repeat (first|refine blk_drewN ?_ _|refine blk_drew ?_|refine blk_alloc ?_ _));refine blk_put (cs:=#[.int .i64 a0,.int .i64 0,.slice none 0 0,.string (⟨#[]⟩ : ByteArray)]) ?_ 1 _ rfl;(with_reducible repeat (first|refine blk_drewN ?_ _|refine blk_drew ?_|refine blk_alloc ?_ _));refine blk_put (cs:=#[.int .i64 0,.int .i64 0,.slice none 0 0,.string (⟨#[]⟩ : ByteArray)]) ?_ 0 _ rfl;(with_reducible repeat (first|refine blk_drewN ?_ _|refine blk_drew ?_|refine blk_alloc ?_ _));exact BK259.out) Tryd.underlying67 rfl (by kernel_rfl)) rfl ?_
 exact ⟨_,by first|rfl|(simp [errW_none,errW_some] <;> rfl)|(simp [*,errW_none,errW_some] <;> rfl),by first|exact Kd.R_nil _ _ _ _ _|exact Kd.N_nil _ _ _ _ _|exact Kd.V_nil _ _ _ _ _|exact Kd.Q_nil _ _ _ _ _|exact Kd.S_nil _ _ _ _ _,by repeat (first|(with_reducible first|exact HB.out|apply below_alloc|apply pw_below_drewN|apply below_drew1|refine below_set ?_ GE259.out)|exact HB.out)⟩
end Go.Proofs.YtadfkeipcebmfaaDoor.X
namespace Go.Proofs.YtadfkeipcebmfaaDoor.X
open Go.RowKit Go.Proofs.YtadfkeipcebmfaaDoorW.PrintWords Go.Proofs.YtadfkeipcebmfaaDoorW.PrintLast Go.Proofs.YtadfkeipcebmfaaDoorW.PrintMore
attribute [local go_sem] max2_int min2_int max_two min_two max_three min_three max_four min_four
set_option linter.unusedVariables false
set_option linter.unusedSimpArgs false
def racewayref25_digit.f (a0 : ByteArray) (a1 : Int) : Option (Bool):=if a1 < (a0.size : Int) then (if 0 ≤ a1 then (if (bt a0 a1) ≥ 48 then (some (decide ((bt a0 a1) ≤ 57))) else (some false)) else (none)) else (some false)
set_option maxHeartbeats 8000000 in
set_option maxRecDepth 100000 in
theorem racewayref25_digit.calls (a0 : ByteArray) (a1 : Int) (r : Bool) (w : World) (h : racewayref25_digit.f a0 a1 = some r) :
  Calls Tryd.prog 55 #[.string a0,.int .i64 a1] w fun e w' => e = .returned (.bool r) ∧ Drawn0 w w':=by
 have H : (if a1 < (a0.size : Int) then (if 0 ≤ a1 then (if (bt a0 a1) ≥ 48 then (some (decide ((bt a0 a1) ≤ 57))) else (some false)) else (none)) else (some false)) = some r:=h
 clear h
 by_cases c3 : a1 < (a0.size : Int)
 ·rw [if_pos c3] at H
  have c3b0 : decide (a1 < (a0.size : Int)) = true:=decide_eq_true c3
  clear c3
  by_cases c4 : 0 ≤ a1
  ·rw [if_pos c4] at H
   have c4b0 : decide (0 ≤ a1) = true:=decide_eq_true c4
   clear c4
   by_cases c6 : (bt a0 a1) ≥ 48
   ·rw [if_pos c6] at H
    have c6b0 : decide (48 ≤ (bt a0 a1)) = true:=decide_eq_true c6
    clear c6
    obtain rfl:=Option.some.inj H
    have p5 : 0 ≤ (a1 : Int):=of_decide_eq_true (by first|(with_reducible assumption)|assumption)
    have q5 : a1 < (a0.size : Int):=of_decide_eq_true (by first|(with_reducible assumption)|assumption)
    have hx5:=bt_at a0 a1
    replace p5:=eq_true p5
    replace q5:=eq_true q5
    have p7 : 0 ≤ (a1 : Int):=of_decide_eq_true (by first|(with_reducible assumption)|assumption)
    have q7 : a1 < (a0.size : Int):=of_decide_eq_true (by first|(with_reducible assumption)|assumption)
    have hx7:=bt_at a0 a1
    replace p7:=eq_true p7
    replace q7:=eq_true q7
    go_enter Tryd.func55,Tryd.ntmps55
    go_wp2
    go_ret
    exact ⟨by first|rfl|(simp;done)|(simp;decide +kernel)|(simp [*];done),by repeat (first|exact Drawn0.refl _|apply Drawn0.step)⟩
   ·rw [if_neg c6] at H
    have c6b0 : decide (48 ≤ (bt a0 a1)) = false:=decide_eq_false c6
    clear c6
    obtain rfl:=Option.some.inj H
    have p5 : 0 ≤ (a1 : Int):=of_decide_eq_true (by first|(with_reducible assumption)|assumption)
    have q5 : a1 < (a0.size : Int):=of_decide_eq_true (by first|(with_reducible assumption)|assumption)
    have hx5:=bt_at a0 a1
    replace p5:=eq_true p5
    replace q5:=eq_true q5
    go_enter Tryd.func55,Tryd.ntmps55
    go_wp2
    go_ret
    exact ⟨by first|rfl|(simp;done)|(simp;decide +kernel)|(simp [*];done),by repeat (first|exact Drawn0.refl _|apply Drawn0.step)⟩
  ·rw [if_neg c4] at H
   exact absurd H (by simp)
 ·rw [if_neg c3] at H
  have c3b0 : decide (a1 < (a0.size : Int)) = false:=decide_eq_false c3
  clear c3
  obtain rfl:=Option.some.inj H
  go_enter Tryd.func55,Tryd.ntmps55
  go_wp2
  go_ret
  exact ⟨by first|rfl|(simp;done)|(simp;decide +kernel)|(simp [*];done),by repeat (first|exact Drawn0.refl _|apply Drawn0.step)⟩
end Go.Proofs.YtadfkeipcebmfaaDoor.X
namespace Go.Proofs.YtadfkeipcebmfaaDoor.X
open Go.RowKit Go.Proofs.YtadfkeipcebmfaaDoorW.PrintWords Go.Proofs.YtadfkeipcebmfaaDoorW.PrintLast Go.Proofs.YtadfkeipcebmfaaDoorW.PrintMore
attribute [local go_sem] max2_int min2_int max_two min_two max_three min_three max_four min_four
set_option linter.unusedVariables false
set_option linter.unusedSimpArgs false
def racewayref25_is.f (a0 : ByteArray) (a1 : Int) (a2 : Int) : Option (Bool):=if a1 < (a0.size : Int) then (if 0 ≤ a1 then (some ((bt a0 a1) == a2)) else (none)) else (some false)
set_option maxHeartbeats 8000000 in
set_option maxRecDepth 100000 in
theorem racewayref25_is.calls (a0 : ByteArray) (a1 : Int) (a2 : Int) (r : Bool) (w : World) (h : racewayref25_is.f a0 a1 a2 = some r) :
  Calls Tryd.prog 70 #[.string a0,.int .i64 a1,.int .u8 a2] w fun e w' => e = .returned (.bool r) ∧ Drawn0 w w':=by
 have H : (if a1 < (a0.size : Int) then (if 0 ≤ a1 then (some ((bt a0 a1) == a2)) else (none)) else (some false)) = some r:=h
 clear h
 by_cases c4 : a1 < (a0.size : Int)
 ·rw [if_pos c4] at H
  have c4b0 : decide (a1 < (a0.size : Int)) = true:=decide_eq_true c4
  clear c4
  by_cases c5 : 0 ≤ a1
  ·rw [if_pos c5] at H
   have c5b0 : decide (0 ≤ a1) = true:=decide_eq_true c5
   clear c5
   obtain rfl:=Option.some.inj H
   have p6 : 0 ≤ (a1 : Int):=of_decide_eq_true (by first|(with_reducible assumption)|assumption)
   have q6 : a1 < (a0.size : Int):=of_decide_eq_true (by first|(with_reducible assumption)|assumption)
   have hx6:=bt_at a0 a1
   replace p6:=eq_true p6
   replace q6:=eq_true q6
   go_enter Tryd.func70,Tryd.ntmps70
   go_wp2
   go_ret
   exact ⟨by first|rfl|(simp;done)|(simp;decide +kernel)|(simp [*];done),by repeat (first|exact Drawn0.refl _|apply Drawn0.step)⟩
  ·rw [if_neg c5] at H
   exact absurd H (by simp)
 ·rw [if_neg c4] at H
  have c4b0 : decide (a1 < (a0.size : Int)) = false:=decide_eq_false c4
  clear c4
  obtain rfl:=Option.some.inj H
  go_enter Tryd.func70,Tryd.ntmps70
  go_wp2
  go_ret
  exact ⟨by first|rfl|(simp;done)|(simp;decide +kernel)|(simp [*];done),by repeat (first|exact Drawn0.refl _|apply Drawn0.step)⟩
end Go.Proofs.YtadfkeipcebmfaaDoor.X
namespace Go.Proofs.YtadfkeipcebmfaaDoor.X
open Go.RowKit Go.Proofs.YtadfkeipcebmfaaDoorW.PrintWords Go.Proofs.YtadfkeipcebmfaaDoorW.PrintLast Go.Proofs.YtadfkeipcebmfaaDoorW.PrintMore
attribute [local go_sem] max2_int min2_int max_two min_two max_three min_three max_four min_four
set_option linter.unusedVariables false
set_option linter.unusedSimpArgs false
mutual
def racewayref25_number.j0 : Nat → ByteArray → Int → Int → Option (Int × Int × (List (S46)) × ByteArray)
 | 0,_,_,_ => none
 | k + 1,x0,x1,x5 => (racewayref25_digit.f x0 x1).bind fun t262 => (if t262 = true then (if 0 ≤ x1 then (if x1 < (x0.size : Int) then (if (bt x0 x1) = 48 then (racewayref25_number.j2 k x0 (wrap64 (x1 + 1)) x5) else (racewayref25_number.l0 k x0 x1 x5)) else (none)) else (none)) else ((racewayref25_fail.f x1).bind fun bt263 => (some (bt263.1,bt263.2.1,bt263.2.2.1,bt263.2.2.2))))
def racewayref25_number.j2 : Nat → ByteArray → Int → Int → Option (Int × Int × (List (S46)) × ByteArray)
 | 0,_,_,_ => none
 | k + 1,x0,x1,x5 => (racewayref25_is.f x0 x1 46).bind fun t270 => (if t270 = true then ((racewayref25_digit.f x0 (wrap64 (x1 + 1))).bind fun t271 => (if t271 = true then (racewayref25_number.l1 k x0 (wrap64 (x1 + 1)) x5) else ((racewayref25_fail.f (wrap64 (x1 + 1))).bind fun bt272 => (some (bt272.1,bt272.2.1,bt272.2.2.1,bt272.2.2.2))))) else (racewayref25_number.j4 k x0 x1 x5))
def racewayref25_number.j4 : Nat → ByteArray → Int → Int → Option (Int × Int × (List (S46)) × ByteArray)
 | 0,_,_,_ => none
 | k + 1,x0,x1,x5 => (racewayref25_is.f x0 x1 101).bind fun t279 => (if t279 = true then (racewayref25_number.j5 k x0 x1 x5 true) else ((racewayref25_is.f x0 x1 69).bind fun t280 => (racewayref25_number.j5 k x0 x1 x5 t280)))
def racewayref25_number.j5 : Nat → ByteArray → Int → Int → Bool → Option (Int × Int × (List (S46)) × ByteArray)
 | 0,_,_,_,_ => none
 | k + 1,x0,x1,x5,x52 => if x52 = true then ((racewayref25_is.f x0 (wrap64 (x1 + 1)) 43).bind fun t281 => (if t281 = true then (racewayref25_number.j6 k x0 (wrap64 (x1 + 1)) x5 true) else ((racewayref25_is.f x0 (wrap64 (x1 + 1)) 45).bind fun t282 => (racewayref25_number.j6 k x0 (wrap64 (x1 + 1)) x5 t282)))) else (if 0 ≤ x5 then (if x5 ≤ x1 then (if x1 ≤ (x0.size : Int) then (some (x1,0,([] : List (S46)),x0.extract (x5 : Int).toNat (x1 : Int).toNat)) else (none)) else (none)) else (none))
def racewayref25_number.j6 : Nat → ByteArray → Int → Int → Bool → Option (Int × Int × (List (S46)) × ByteArray)
 | 0,_,_,_,_ => none
 | k + 1,x0,x1,x5,x62 => if x62 = true then (racewayref25_number.j7 k x0 (wrap64 (x1 + 1)) x5) else (racewayref25_number.j7 k x0 x1 x5)
def racewayref25_number.j7 : Nat → ByteArray → Int → Int → Option (Int × Int × (List (S46)) × ByteArray)
 | 0,_,_,_ => none
 | k + 1,x0,x1,x5 => (racewayref25_digit.f x0 x1).bind fun t283 => (if t283 = true then (racewayref25_number.l2 k x0 x1 x5) else ((racewayref25_fail.f x1).bind fun bt284 => (some (bt284.1,bt284.2.1,bt284.2.2.1,bt284.2.2.2))))
def racewayref25_number.l2 : Nat → ByteArray → Int → Int → Option (Int × Int × (List (S46)) × ByteArray)
 | 0,_,_,_ => none
 | k + 1,x0,x1,x5 => (racewayref25_digit.f x0 x1).bind fun t290 => (if t290 = true then (racewayref25_number.l2 k x0 (wrap64 (x1 + 1)) x5) else (if 0 ≤ x5 then (if x5 ≤ x1 then (if x1 ≤ (x0.size : Int) then (some (x1,0,([] : List (S46)),x0.extract (x5 : Int).toNat (x1 : Int).toNat)) else (none)) else (none)) else (none)))
def racewayref25_number.l1 : Nat → ByteArray → Int → Int → Option (Int × Int × (List (S46)) × ByteArray)
 | 0,_,_,_ => none
 | k + 1,x0,x1,x5 => (racewayref25_digit.f x0 x1).bind fun t278 => (if t278 = true then (racewayref25_number.l1 k x0 (wrap64 (x1 + 1)) x5) else (racewayref25_number.j4 k x0 x1 x5))
def racewayref25_number.l0 : Nat → ByteArray → Int → Int → Option (Int × Int × (List (S46)) × ByteArray)
 | 0,_,_,_ => none
 | k + 1,x0,x1,x5 => (racewayref25_digit.f x0 x1).bind fun t269 => (if t269 = true then (racewayref25_number.l0 k x0 (wrap64 (x1 + 1)) x5) else (racewayref25_number.j2 k x0 x1 x5))
end
def racewayref25_number.f (k : Nat) (a0 : ByteArray) (a1 : Int) : Option (Int × Int × (List (S46)) × ByteArray):=(racewayref25_is.f a0 a1 45).bind fun t261 => (if t261 = true then (racewayref25_number.j0 k a0 (wrap64 (a1 + 1)) a1) else (racewayref25_number.j0 k a0 a1 a1))
set_option maxHeartbeats 8000000 in
set_option maxRecDepth 100000 in
theorem racewayref25_number.calls (k : Nat) (a0 : ByteArray) (a1 : Int) (r1 : Int) (r2 : Int) (r3 : List (S46)) (r4 : ByteArray) (w : World) (h : racewayref25_number.f k a0 a1 = some (r1,r2,r3,r4)) :
  Calls Tryd.prog 59 #[.string a0,.int .i64 a1] w fun e w' => ∃ v2_ : Value,e = .returned (.agg #[.int .i64 r1,.int .i64 r2,v2_,.string r4]) ∧ Kd.R k46 46 w' w.heap.size (fun _ => True) v2_ r3 ∧ Below w.heap.size w w':=by
 have hu67:=Tryd.underlying67
 have HB:=Aside0.mk (Below.refl w.heap.size w)
 have H : ((racewayref25_is.f a0 a1 45).bind fun t261 => (if t261 = true then (racewayref25_number.j0 k a0 (wrap64 (a1 + 1)) a1) else (racewayref25_number.j0 k a0 a1 a1))) = some (r1,r2,r3,r4):=h
 clear h
 replace H:=Option.bind_eq_some_iff.mp H
 obtain ⟨t261,A30,H⟩:=H
 replace H : (if t261 = true then (racewayref25_number.j0 k a0 (wrap64 (a1 + 1)) a1) else (racewayref25_number.j0 k a0 a1 a1)) = some (r1,r2,r3,r4):=H
 have A3:=Aside0.mk A30
 clear A30
 have HC4:=Aside0.mk H
 clear H
 go_enter Tryd.func59,Tryd.ntmps59
 go_upto_if 9 with (first|((with_reducible refine gate_dst (N:=4) rfl ?_);refine box_event ?hg (N:=4) ?hd (cs:=#[.int .i64 0,.int .i64 0,.slice none 0 0,.string (⟨#[]⟩ : ByteArray)]) (t:=67) ?hr ?_;(case hd => rfl);(case hg => rfl);(case hr => first|(go_simp;done)|(go_simp;rfl));intro gb260 hg w5 hbox hb;have n0_:=Aside0.mk (below_step (by repeat (first|(with_reducible first|exact HB.out|apply below_alloc|apply pw_below_drewN|apply below_drew1)|exact HB.out)) hb);have n1_:=Aside0.mk (hbox);have n2_:=Aside0.mk ((by rw [hg];exact (below_size (by repeat (first|(with_reducible first|exact HB.out|apply below_alloc|apply pw_below_drewN|apply below_drew1)|exact HB.out))) : w.heap.size ≤ gb260));have n3_:=Aside0.mk ((by rw [hg];exact (below_size (by repeat (first|(with_reducible first|exact HB.out|apply below_alloc|apply pw_below_drewN|apply below_drew1)|exact HB.out))) : w.heap.size ≤ gb260));clear HB;have HB:=n0_;have BK260:=n1_;have GW260:=n2_;have GE260:=n3_;clear n0_ n1_ n2_ n3_;clear hb hbox hg)|((with_reducible refine gate_callee (f:=70) rfl ?_);refine goesL_ (some 9) rfl rfl Tryd.func70 (by kernel_rfl) rfl #[.string a0,.int .i64 a1,.int .u8 45] rfl (by (try simp only [List.map_toArray,List.map_cons,List.map_nil]);first|done|rfl|(simp only [List.length_drop,List.length_take];rfl)) ?_;(with_reducible refine (racewayref25_is.calls a0 a1 45 t261 _ A3.out).mono ?_);rintro e w' ⟨rfl,⟨nd,rfl⟩⟩;refine ⟨_,rfl,?_⟩))
 (try simp only [Act.put,List.setIfInBounds_toArray,List.set_cons_zero,List.set_cons_succ])
 go_cut [1] (fun v1 wc => ∃ (kq : Nat) (x1_3 : Int),v1 = .int .i64 x1_3 ∧ Aside0 (racewayref25_number.j0 kq a0 x1_3 a1 = some (r1,r2,r3,r4)) ∧ Aside0 (kq ≤ k) ∧ Aside0 (wc.heap[gb260]? = some (.cells #[.int .i64 0,.int .i64 0,(.slice none 0 0),.string (⟨#[]⟩ : ByteArray)] 67 (0,0))) ∧ Aside0 (Below w.heap.size w wc))
 case first =>
  have H:=HC4.out
  clear HC4
  by_cases c6 : t261 = true
  ·subst c6
   have H1 : (racewayref25_number.j0 k a0 (wrap64 (a1 + 1)) a1) = some (r1,r2,r3,r4):=by rw [if_pos rfl] at H;exact H
   clear H
   have H:=H1
   clear H1
   have H':=Aside0.mk H
   clear H
   go_wp2
   go_meet
   case rel => exact ⟨_,(wrap64 (a1 + 1)),(by first|rfl|(simp;done)|(simp;decide +kernel)|(simp [*];done)),(by first|exact H'|(subst_vars;exact H')),⟨by first|omega|exact Nat.le_refl _⟩,⟨by (with_reducible repeat (first|refine blk_drewN ?_ _|refine blk_drew ?_|refine blk_alloc ?_ _));exact BK260.out⟩,⟨by repeat (first|(with_reducible first|exact HB.out|apply below_alloc|apply pw_below_drewN|apply below_drew1|refine below_set ?_ GE260.out)|exact HB.out)⟩⟩
  ·replace c6:=Bool.eq_false_iff.mpr c6
   subst c6
   have H1 : (racewayref25_number.j0 k a0 a1 a1) = some (r1,r2,r3,r4):=by rw [if_neg (show ¬ (false = true) by decide)] at H;exact H
   clear H
   have H:=H1
   clear H1
   have H':=Aside0.mk H
   clear H
   go_wp2
   go_meet
   case rel => exact ⟨_,(a1),(by first|rfl|(simp;done)|(simp;decide +kernel)|(simp [*];done)),(by first|exact H'|(subst_vars;exact H')),⟨by first|omega|exact Nat.le_refl _⟩,⟨by (with_reducible repeat (first|refine blk_drewN ?_ _|refine blk_drew ?_|refine blk_alloc ?_ _));exact BK260.out⟩,⟨by repeat (first|(with_reducible first|exact HB.out|apply below_alloc|apply pw_below_drewN|apply below_drew1|refine below_set ?_ GE260.out)|exact HB.out)⟩⟩
 case rest =>
  clear HC4
  try clear p2
  try clear c5
  try clear c6
  try clear p6
  obtain ⟨kq,x1_3,rfl,HA,HJ3,BK260,HB⟩:=hcut
  cases kq with
  | zero => exact absurd HA.out (by simp [racewayref25_number.j0])
  | succ kj3 =>
   have H:=HA.out
   clear HA
   simp only [racewayref25_number.j0] at H
   replace H:=Option.bind_eq_some_iff.mp H
   obtain ⟨t262,A70,H⟩:=H
   replace H : (if t262 = true then (if 0 ≤ x1_3 then (if x1_3 < (a0.size : Int) then (if (bt a0 x1_3) = 48 then (racewayref25_number.j2 kj3 a0 (wrap64 (x1_3 + 1)) a1) else (racewayref25_number.l0 kj3 a0 x1_3 a1)) else (none)) else (none)) else ((racewayref25_fail.f x1_3).bind fun bt263 => (some (bt263.1,bt263.2.1,bt263.2.2.1,bt263.2.2.2)))) = some (r1,r2,r3,r4):=H
   have A7:=Aside0.mk A70
   clear A70
   by_cases c8 : t262 = true
   ·subst c8
    have H1 : (if 0 ≤ x1_3 then (if x1_3 < (a0.size : Int) then (if (bt a0 x1_3) = 48 then (racewayref25_number.j2 kj3 a0 (wrap64 (x1_3 + 1)) a1) else (racewayref25_number.l0 kj3 a0 x1_3 a1)) else (none)) else (none)) = some (r1,r2,r3,r4):=by rw [if_pos rfl] at H;exact H
    clear H
    have H:=H1
    clear H1
    by_cases c9 : 0 ≤ x1_3
    ·rw [if_pos c9] at H
     have c9b0 : decide (0 ≤ x1_3) = true:=decide_eq_true c9
     clear c9
     by_cases c10 : x1_3 < (a0.size : Int)
     ·rw [if_pos c10] at H
      have c10b0 : decide (x1_3 < (a0.size : Int)) = true:=decide_eq_true c10
      clear c10
      have HC12:=Aside0.mk H
      clear H
      go_upto_if 21 with (first|((with_reducible refine gate_callee (f:=55) rfl ?_);refine goesL_ (some 14) rfl rfl Tryd.func55 (by kernel_rfl) rfl #[.string a0,.int .i64 x1_3] rfl (by (try simp only [List.map_toArray,List.map_cons,List.map_nil]);first|done|rfl|(simp only [List.length_drop,List.length_take];rfl)) ?_;(with_reducible refine (racewayref25_digit.calls a0 x1_3 true _ A7.out).mono ?_);rintro e w' ⟨rfl,⟨nd,rfl⟩⟩;refine ⟨_,rfl,?_⟩;have p11 : 0 ≤ (x1_3 : Int):=of_decide_eq_true (by first|(with_reducible assumption)|assumption);have q11 : x1_3 < (a0.size : Int):=of_decide_eq_true (by first|(with_reducible assumption)|assumption);have hx11:=bt_at a0 x1_3;replace p11:=eq_true p11;replace q11:=eq_true q11))
      (try simp only [Act.put,List.setIfInBounds_toArray,List.set_cons_zero,List.set_cons_succ])
      go_cut [1] (fun v1 wc => ∃ (kq : Nat) (x1_11 : Int),v1 = .int .i64 x1_11 ∧ Aside0 (racewayref25_number.j2 kq a0 x1_11 a1 = some (r1,r2,r3,r4)) ∧ Aside0 (kq ≤ kj3) ∧ Aside0 (wc.heap[gb260]? = some (.cells #[.int .i64 0,.int .i64 0,(.slice none 0 0),.string (⟨#[]⟩ : ByteArray)] 67 (0,0))) ∧ Aside0 (Below w.heap.size w wc))
      case first =>
       have H:=HC12.out
       clear HC12
       by_cases c13 : (bt a0 x1_3) = 48
       ·rw [if_pos c13] at H
        have c13b0 : ((bt a0 x1_3) == 48) = true:=beq_iff_eq.mpr c13
        have c13b1 : ((bt a0 x1_3) != 48) = false:=bne_eq_false_iff_eq.mpr c13
        clear c13
        (first|rw [c13b0]|(simp only [i64_w,i32_w];rw [c13b0])|skip)
        have H':=Aside0.mk H
        clear H
        go_wp2
        go_meet
        case rel => exact ⟨_,(wrap64 (x1_3 + 1)),(by first|rfl|(simp;done)|(simp;decide +kernel)|(simp [*];done)),(by first|exact H'|(subst_vars;exact H')),⟨by have:=HJ3.out;first|omega|exact Nat.le_refl _⟩,⟨by (with_reducible repeat (first|refine blk_drewN ?_ _|refine blk_drew ?_|refine blk_alloc ?_ _));exact BK260.out⟩,⟨by repeat (first|(with_reducible first|exact HB.out|apply below_alloc|apply pw_below_drewN|apply below_drew1|refine below_set ?_ GE260.out)|exact HB.out)⟩⟩
       ·rw [if_neg c13] at H
        have c13b0 : ((bt a0 x1_3) == 48) = false:=beq_eq_false_iff_ne.mpr c13
        have c13b1 : ((bt a0 x1_3) != 48) = true:=bne_iff_ne.mpr c13
        (first|rw [c13b0]|(simp only [i64_w,i32_w];rw [c13b0])|skip)
        have H':=Aside0.mk H
        clear H
        go_wp2
        go_loopg [1] kj3 (fun kq v1 w' => ∃ (x1_2 : Int),v1 = .int .i64 x1_2 ∧ Aside0 (racewayref25_number.l0 kq a0 x1_2 a1 = some (r1,r2,r3,r4)) ∧ Aside0 (kq ≤ kj3) ∧ Aside0 (w'.heap[gb260]? = some (.cells #[.int .i64 0,.int .i64 0,(.slice none 0 0),.string (⟨#[]⟩ : ByteArray)] 67 (0,0))) ∧ Aside0 (Below w.heap.size w w'))
        case atStart => exact ⟨(x1_3),(by first|rfl|(simp;done)|(simp;decide +kernel)|(simp [*];done)),(by first|exact H'|(subst_vars;exact H')),⟨Nat.le_refl _⟩,⟨by (with_reducible repeat (first|refine blk_drewN ?_ _|refine blk_drew ?_|refine blk_alloc ?_ _));exact BK260.out⟩,⟨by repeat (first|(with_reducible first|exact HB.out|apply below_alloc|apply pw_below_drewN|apply below_drew1|refine below_set ?_ GE260.out)|exact HB.out)⟩⟩
        case round =>
         clear H'
         try clear c1
         try clear p1
         try clear q1
         try clear hx1
         try clear p2
         try clear c5
         try clear c6
         try clear p6
         try clear c7
         try clear c8
         try clear c9
         try clear c9b0
         try clear c10
         try clear c10b0
         try clear p11
         try clear q11
         try clear hx11
         try clear c13
         try clear c13b0
         try clear c13b1
         try clear p11
         try clear p2
         try clear p6
         try clear q11
         obtain ⟨x1_2,rfl,HA,HK2,BK260,HB⟩:=hrel
         cases gk with
         | zero => exact absurd HA.out (by simp [racewayref25_number.l0])
         | succ k2 =>
          have H:=HA.out
          clear HA
          simp only [racewayref25_number.l0] at H
          replace H:=Option.bind_eq_some_iff.mp H
          obtain ⟨t269,A140,H⟩:=H
          replace H : (if t269 = true then (racewayref25_number.l0 k2 a0 (wrap64 (x1_2 + 1)) a1) else (racewayref25_number.j2 k2 a0 x1_2 a1)) = some (r1,r2,r3,r4):=H
          have A14:=Aside0.mk A140
          clear A140
          by_cases c15 : t269 = true
          ·subst c15
           have H1 : (racewayref25_number.l0 k2 a0 (wrap64 (x1_2 + 1)) a1) = some (r1,r2,r3,r4):=by rw [if_pos rfl] at H;exact H
           clear H
           have H:=H1
           clear H1
           have H':=Aside0.mk H
           clear H
           go_wp2_with (first|((with_reducible refine gate_callee (f:=55) rfl ?_);refine goesL_ (some 26) rfl rfl Tryd.func55 (by kernel_rfl) rfl #[.string a0,.int .i64 x1_2] rfl (by (try simp only [List.map_toArray,List.map_cons,List.map_nil]);first|done|rfl|(simp only [List.length_drop,List.length_take];rfl)) ?_;(with_reducible refine (racewayref25_digit.calls a0 x1_2 true _ A14.out).mono ?_);rintro e w' ⟨rfl,⟨nd,rfl⟩⟩;refine ⟨_,rfl,?_⟩))
           go_roundg k2
           case measure => have:=HJ3.out;have:=HK2.out;omega
           case rel => exact ⟨(wrap64 (x1_2 + 1)),(by first|rfl|(simp;done)|(simp;decide +kernel)|(simp [*];done)),(by first|exact H'|(subst_vars;exact H')),⟨by have:=HJ3.out;have:=HK2.out;omega⟩,⟨by (with_reducible repeat (first|refine blk_drewN ?_ _|refine blk_drew ?_|refine blk_alloc ?_ _));exact BK260.out⟩,⟨by repeat (first|(with_reducible first|exact HB.out|apply below_alloc|apply pw_below_drewN|apply below_drew1|refine below_set ?_ GE260.out)|exact HB.out)⟩⟩
          ·replace c15:=Bool.eq_false_iff.mpr c15
           subst c15
           have H1 : (racewayref25_number.j2 k2 a0 x1_2 a1) = some (r1,r2,r3,r4):=by rw [if_neg (show ¬ (false = true) by decide)] at H;exact H
           clear H
           have H:=H1
           clear H1
           have H':=Aside0.mk H
           clear H
           go_wp2_with (first|((with_reducible refine gate_callee (f:=55) rfl ?_);refine goesL_ (some 26) rfl rfl Tryd.func55 (by kernel_rfl) rfl #[.string a0,.int .i64 x1_2] rfl (by (try simp only [List.map_toArray,List.map_cons,List.map_nil]);first|done|rfl|(simp only [List.length_drop,List.length_take];rfl)) ?_;(with_reducible refine (racewayref25_digit.calls a0 x1_2 false _ A14.out).mono ?_);rintro e w' ⟨rfl,⟨nd,rfl⟩⟩;refine ⟨_,rfl,?_⟩))
           go_meet
           case rel => exact ⟨_,(x1_2),(by first|rfl|(simp;done)|(simp;decide +kernel)|(simp [*];done)),(by first|exact H'|(subst_vars;exact H')),⟨by have:=HJ3.out;have:=HK2.out;first|omega|exact Nat.le_refl _⟩,⟨by (with_reducible repeat (first|refine blk_drewN ?_ _|refine blk_drew ?_|refine blk_alloc ?_ _));exact BK260.out⟩,⟨by repeat (first|(with_reducible first|exact HB.out|apply below_alloc|apply pw_below_drewN|apply below_drew1|refine below_set ?_ GE260.out)|exact HB.out)⟩⟩
      case rest =>
       clear HC12
       try clear c1
       try clear p1
       try clear q1
       try clear hx1
       try clear p2
       try clear c5
       try clear c6
       try clear p6
       try clear c7
       try clear c8
       try clear c9
       try clear c9b0
       try clear c10
       try clear c10b0
       try clear p11
       try clear q11
       try clear hx11
       try clear c13
       try clear c13b0
       try clear c13b1
       try clear c15
       try clear p1
       try clear p11
       try clear p2
       try clear p6
       try clear q1
       try clear q11
       obtain ⟨kq,x1_11,rfl,HA,HJ11,BK260,HB⟩:=hcut
       cases kq with
       | zero => exact absurd HA.out (by simp [racewayref25_number.j2])
       | succ kj11 =>
        have H:=HA.out
        clear HA
        simp only [racewayref25_number.j2] at H
        replace H:=Option.bind_eq_some_iff.mp H
        obtain ⟨t270,A160,H⟩:=H
        replace H : (if t270 = true then ((racewayref25_digit.f a0 (wrap64 (x1_11 + 1))).bind fun t271 => (if t271 = true then (racewayref25_number.l1 kj11 a0 (wrap64 (x1_11 + 1)) a1) else ((racewayref25_fail.f (wrap64 (x1_11 + 1))).bind fun bt272 => (some (bt272.1,bt272.2.1,bt272.2.2.1,bt272.2.2.2))))) else (racewayref25_number.j4 kj11 a0 x1_11 a1)) = some (r1,r2,r3,r4):=H
        have A16:=Aside0.mk A160
        clear A160
        have HC17:=Aside0.mk H
        clear H
        go_upto_if 31 with (first|((with_reducible refine gate_callee (f:=70) rfl ?_);refine goesL_ (some 31) rfl rfl Tryd.func70 (by kernel_rfl) rfl #[.string a0,.int .i64 x1_11,.int .u8 46] rfl (by (try simp only [List.map_toArray,List.map_cons,List.map_nil]);first|done|rfl|(simp only [List.length_drop,List.length_take];rfl)) ?_;(with_reducible refine (racewayref25_is.calls a0 x1_11 46 t270 _ A16.out).mono ?_);rintro e w' ⟨rfl,⟨nd,rfl⟩⟩;refine ⟨_,rfl,?_⟩))
        (try simp only [Act.put,List.setIfInBounds_toArray,List.set_cons_zero,List.set_cons_succ])
        go_cut [1] (fun v1 wc => ∃ (kq : Nat) (x1_16 : Int) (x261000_16 : Int) (x261001_16 : Int) (x261003_16 : ByteArray),v1 = .int .i64 x1_16 ∧ Aside0 (racewayref25_number.j4 kq a0 x1_16 a1 = some (r1,r2,r3,r4)) ∧ Aside0 (kq ≤ kj11) ∧ Aside0 (wc.heap[gb260]? = some (.cells #[.int .i64 x261000_16,.int .i64 x261001_16,(.slice none 0 0),.string x261003_16] 67 (0,0))) ∧ Aside0 (Below w.heap.size w wc))
        case first =>
         have H:=HC17.out
         clear HC17
         by_cases c18 : t270 = true
         ·subst c18
          have H1 : ((racewayref25_digit.f a0 (wrap64 (x1_11 + 1))).bind fun t271 => (if t271 = true then (racewayref25_number.l1 kj11 a0 (wrap64 (x1_11 + 1)) a1) else ((racewayref25_fail.f (wrap64 (x1_11 + 1))).bind fun bt272 => (some (bt272.1,bt272.2.1,bt272.2.2.1,bt272.2.2.2))))) = some (r1,r2,r3,r4):=by rw [if_pos rfl] at H;exact H
          clear H
          have H:=H1
          clear H1
          replace H:=Option.bind_eq_some_iff.mp H
          obtain ⟨t271,A190,H⟩:=H
          replace H : (if t271 = true then (racewayref25_number.l1 kj11 a0 (wrap64 (x1_11 + 1)) a1) else ((racewayref25_fail.f (wrap64 (x1_11 + 1))).bind fun bt272 => (some (bt272.1,bt272.2.1,bt272.2.2.1,bt272.2.2.2)))) = some (r1,r2,r3,r4):=H
          have A19:=Aside0.mk A190
          clear A190
          by_cases c20 : t271 = true
          ·subst c20
           have H1 : (racewayref25_number.l1 kj11 a0 (wrap64 (x1_11 + 1)) a1) = some (r1,r2,r3,r4):=by rw [if_pos rfl] at H;exact H
           clear H
           have H:=H1
           clear H1
           have H':=Aside0.mk H
           clear H
           go_wp2_with (first|((with_reducible refine gate_callee (f:=55) rfl ?_);refine goesL_ (some 36) rfl rfl Tryd.func55 (by kernel_rfl) rfl #[.string a0,.int .i64 (wrap64 (x1_11 + 1))] rfl (by (try simp only [List.map_toArray,List.map_cons,List.map_nil]);first|done|rfl|(simp only [List.length_drop,List.length_take];rfl)) ?_;(with_reducible refine (racewayref25_digit.calls a0 (wrap64 (x1_11 + 1)) true _ A19.out).mono ?_);rintro e w' ⟨rfl,⟨nd,rfl⟩⟩;refine ⟨_,rfl,?_⟩))
           go_loopg [1] kj11 (fun kq v1 w' => ∃ (x1_3 : Int),v1 = .int .i64 x1_3 ∧ Aside0 (racewayref25_number.l1 kq a0 x1_3 a1 = some (r1,r2,r3,r4)) ∧ Aside0 (kq ≤ kj11) ∧ Aside0 (w'.heap[gb260]? = some (.cells #[.int .i64 0,.int .i64 0,(.slice none 0 0),.string (⟨#[]⟩ : ByteArray)] 67 (0,0))) ∧ Aside0 (Below w.heap.size w w'))
           case atStart => exact ⟨(wrap64 (x1_11 + 1)),(by first|rfl|(simp;done)|(simp;decide +kernel)|(simp [*];done)),(by first|exact H'|(subst_vars;exact H')),⟨Nat.le_refl _⟩,⟨by (with_reducible repeat (first|refine blk_drewN ?_ _|refine blk_drew ?_|refine blk_alloc ?_ _));exact BK260.out⟩,⟨by repeat (first|(with_reducible first|exact HB.out|apply below_alloc|apply pw_below_drewN|apply below_drew1|refine below_set ?_ GE260.out)|exact HB.out)⟩⟩
           case round =>
            clear H'
            try clear c1
            try clear p1
            try clear q1
            try clear hx1
            try clear c2
            try clear p2
            try clear c5
            try clear c6
            try clear p6
            try clear c7
            try clear c8
            try clear c9
            try clear c9b0
            try clear c10
            try clear c10b0
            try clear p11
            try clear q11
            try clear hx11
            try clear c13
            try clear c13b0
            try clear c13b1
            try clear c15
            try clear c18
            try clear c20
            try clear p1
            try clear p11
            try clear p2
            try clear p6
            try clear q1
            try clear q11
            obtain ⟨x1_3,rfl,HA,HK3,BK260,HB⟩:=hrel
            cases gk with
            | zero => exact absurd HA.out (by simp [racewayref25_number.l1])
            | succ k3 =>
             have H:=HA.out
             clear HA
             simp only [racewayref25_number.l1] at H
             replace H:=Option.bind_eq_some_iff.mp H
             obtain ⟨t278,A210,H⟩:=H
             replace H : (if t278 = true then (racewayref25_number.l1 k3 a0 (wrap64 (x1_3 + 1)) a1) else (racewayref25_number.j4 k3 a0 x1_3 a1)) = some (r1,r2,r3,r4):=H
             have A21:=Aside0.mk A210
             clear A210
             by_cases c22 : t278 = true
             ·subst c22
              have H1 : (racewayref25_number.l1 k3 a0 (wrap64 (x1_3 + 1)) a1) = some (r1,r2,r3,r4):=by rw [if_pos rfl] at H;exact H
              clear H
              have H:=H1
              clear H1
              have H':=Aside0.mk H
              clear H
              go_wp2_with (first|((with_reducible refine gate_callee (f:=55) rfl ?_);refine goesL_ (some 42) rfl rfl Tryd.func55 (by kernel_rfl) rfl #[.string a0,.int .i64 x1_3] rfl (by (try simp only [List.map_toArray,List.map_cons,List.map_nil]);first|done|rfl|(simp only [List.length_drop,List.length_take];rfl)) ?_;(with_reducible refine (racewayref25_digit.calls a0 x1_3 true _ A21.out).mono ?_);rintro e w' ⟨rfl,⟨nd,rfl⟩⟩;refine ⟨_,rfl,?_⟩))
              go_roundg k3
              case measure => have:=HJ3.out;have:=HJ11.out;have:=HK3.out;omega
              case rel => exact ⟨(wrap64 (x1_3 + 1)),(by first|rfl|(simp;done)|(simp;decide +kernel)|(simp [*];done)),(by first|exact H'|(subst_vars;exact H')),⟨by have:=HJ3.out;have:=HJ11.out;have:=HK3.out;omega⟩,⟨by (with_reducible repeat (first|refine blk_drewN ?_ _|refine blk_drew ?_|refine blk_alloc ?_ _));exact BK260.out⟩,⟨by repeat (first|(with_reducible first|exact HB.out|apply below_alloc|apply pw_below_drewN|apply below_drew1|refine below_set ?_ GE260.out)|exact HB.out)⟩⟩
             ·replace c22:=Bool.eq_false_iff.mpr c22
              subst c22
              have H1 : (racewayref25_number.j4 k3 a0 x1_3 a1) = some (r1,r2,r3,r4):=by rw [if_neg (show ¬ (false = true) by decide)] at H;exact H
              clear H
              have H:=H1
              clear H1
              have H':=Aside0.mk H
              clear H
              go_wp2_with (first|((with_reducible refine gate_callee (f:=55) rfl ?_);refine goesL_ (some 42) rfl rfl Tryd.func55 (by kernel_rfl) rfl #[.string a0,.int .i64 x1_3] rfl (by (try simp only [List.map_toArray,List.map_cons,List.map_nil]);first|done|rfl|(simp only [List.length_drop,List.length_take];rfl)) ?_;(with_reducible refine (racewayref25_digit.calls a0 x1_3 false _ A21.out).mono ?_);rintro e w' ⟨rfl,⟨nd,rfl⟩⟩;refine ⟨_,rfl,?_⟩))
              go_meet
              case rel => exact ⟨_,(x1_3),(0),(0),((⟨#[]⟩ : ByteArray)),(by first|rfl|(simp;done)|(simp;decide +kernel)|(simp [*];done)),(by first|exact H'|(subst_vars;exact H')),⟨by have:=HJ3.out;have:=HJ11.out;have:=HK3.out;first|omega|exact Nat.le_refl _⟩,⟨by (with_reducible repeat (first|refine blk_drewN ?_ _|refine blk_drew ?_|refine blk_alloc ?_ _));exact BK260.out⟩,⟨by repeat (first|(with_reducible first|exact HB.out|apply below_alloc|apply pw_below_drewN|apply below_drew1|refine below_set ?_ GE260.out)|exact HB.out)⟩⟩
          ·replace c20:=Bool.eq_false_iff.mpr c20
           subst c20
           have H1 : ((racewayref25_fail.f (wrap64 (x1_11 + 1))).bind fun bt272 => (some (bt272.1,bt272.2.1,bt272.2.2.1,bt272.2.2.2))) = some (r1,r2,r3,r4):=by rw [if_neg (show ¬ (false = true) by decide)] at H;exact H
           clear H
           have H:=H1
           clear H1
           replace H:=Option.bind_eq_some_iff.mp H
           obtain ⟨⟨t272,t273,t274,t277⟩,A230,H⟩:=H
           replace H : (some (t272,t273,t274,t277)) = some (r1,r2,r3,r4):=H
           have A23:=Aside0.mk A230
           clear A230
           simp only [Option.some.injEq,Prod.mk.injEq] at H
           obtain ⟨rfl,rfl,rfl,rfl⟩:=H
           go_wp2_with (first|((with_reducible refine gate_callee (f:=55) rfl ?_);refine goesL_ (some 36) rfl rfl Tryd.func55 (by kernel_rfl) rfl #[.string a0,.int .i64 (wrap64 (x1_11 + 1))] rfl (by (try simp only [List.map_toArray,List.map_cons,List.map_nil]);first|done|rfl|(simp only [List.length_drop,List.length_take];rfl)) ?_;(with_reducible refine (racewayref25_digit.calls a0 (wrap64 (x1_11 + 1)) false _ A19.out).mono ?_);rintro e w' ⟨rfl,⟨nd,rfl⟩⟩;refine ⟨_,rfl,?_⟩;(try (rw [drewN_self wc];generalize hq_ : World.drewN wc _ = wc;have n0_ : Aside0 (wc.heap[gb260]? = some (.cells #[.int .i64 0,.int .i64 0,.slice none 0 0,.string (⟨#[]⟩ : ByteArray)] 67 (0,0))):=⟨by rw [← hq_];exact (by (with_reducible repeat (first|refine blk_drewN ?_ _|refine blk_drew ?_|refine blk_alloc ?_ _));exact BK260.out)⟩;have n1_ : Aside0 (Below w.heap.size w wc):=⟨by rw [← hq_];exact (by repeat (first|(with_reducible first|exact HB.out|apply below_alloc|apply pw_below_drewN|apply below_drew1|refine below_set ?_ GE260.out)|exact HB.out))⟩;clear BK260 HB hq_;have BK260:=n0_;have HB:=n1_;clear n0_ n1_)))|((with_reducible refine gate_callee (f:=54) rfl ?_);refine goesL_ (some 39) rfl rfl Tryd.func54 (by kernel_rfl) rfl #[.int .i64 (wrap64 (x1_11 + 1))] rfl (by (try simp only [List.map_toArray,List.map_cons,List.map_nil]);first|done|rfl|(simp only [List.length_drop,List.length_take];rfl)) ?_;(with_reducible refine (racewayref25_fail.calls (wrap64 (x1_11 + 1)) t272 t273 t274 t277 _ A23.out).mono ?_);rintro e w24 ⟨v275,rfl,ho0,hb⟩;refine ⟨_,rfl,?_⟩;have n0_:=Aside0.mk (Kd.R_lower ho0 (below_size (by repeat (first|(with_reducible first|exact HB.out|apply below_alloc|apply pw_below_drewN|apply below_drew1|refine below_set ?_ GE260.out)|exact HB.out))));have n1_:=Aside0.mk (blk_below (g:=gb260) (o:=.cells #[.int .i64 0,.int .i64 0,.slice none 0 0,.string (⟨#[]⟩ : ByteArray)] 67 (0,0)) (by (with_reducible repeat (first|refine blk_drewN ?_ _|refine blk_drew ?_|refine blk_alloc ?_ _));exact BK260.out) hb);have n2_:=Aside0.mk (below_step (by repeat (first|(with_reducible first|exact HB.out|apply below_alloc|apply pw_below_drewN|apply below_drew1|refine below_set ?_ GE260.out)|exact HB.out)) hb);clear BK260;clear HB;have HO276:=n0_;have BK260:=n1_;have HB:=n2_;clear n0_ n1_ n2_;(try clear hb);(try clear hb2);(try clear hk);(try clear hi);(try clear ho0);have hcz25_0 : w24.cell? ⟨gb260,0,none⟩ = some (.int .i64 0):=(blk_cell BK260.out 0).trans rfl;have hcz25_1 : w24.cell? ⟨gb260,1,none⟩ = some (.int .i64 0):=(blk_cell BK260.out 1).trans rfl;have hcz25_2 : w24.cell? ⟨gb260,2,none⟩ = some (.slice none 0 0):=(blk_cell BK260.out 2).trans rfl;have hcz25_3 : w24.cell? ⟨gb260,3,none⟩ = some (.string (⟨#[]⟩ : ByteArray)):=(blk_cell BK260.out 3).trans rfl;have hfz25_0:=blk_frozen BK260.out 0;have hfz25_1:=blk_frozen BK260.out 1;have hfz25_2:=blk_frozen BK260.out 2;have hfz25_3:=blk_frozen BK260.out 3;obtain ⟨Ao26,co26,eo26⟩:=Kd.R_slice HO276.out;subst eo26))
           refine bodyPost_ret (results_cell_row rfl _ _ gb260 67 #[.int .i64 t272,.int .i64 t273,.slice Ao26 t274.length co26,.string t277] (0,0) _ rfl (by (with_reducible repeat (first|refine blk_drewN ?_ _|refine blk_drew ?_|refine blk_alloc ?_ _));refine blk_put (cs:=#[.int .i64 t272,.int .i64 t273,.slice Ao26 t274.length co26,.string (⟨#[]⟩ : ByteArray)]) ?_ 3 _ rfl;(with_reducible repeat (first|refine blk_drewN ?_ _|refine blk_drew ?_|refine blk_alloc ?_ _));refine blk_put (cs:=#[.int .i64 t272,.int .i64 t273,.slice none 0 0,.string (⟨#[]⟩ : ByteArray)]) ?_ 2 _ rfl;(with_reducible repeat (first|refine blk_drewN ?_ _|refine blk_drew ?_|refine blk_alloc ?_ _));refine blk_put (cs:=#[.int .i64 t272,.int .i64 0,.slice none 0 0,.string (⟨#[]⟩ : ByteArray)]) ?_ 1 _ rfl;(with_reducible repeat (first|refine blk_drewN ?_ _|refine blk_drew ?_|refine blk_alloc ?_ _));refine blk_put (cs:=#[.int .i64 0,.int .i64 0,.slice none 0 0,.string (⟨#[]⟩ : ByteArray)]) ?_ 0 _ rfl;(with_reducible repeat (first|refine blk_drewN ?_ _|refine blk_drew ?_|refine blk_alloc ?_ _));exact BK260.out) Tryd.underlying67 rfl (by kernel_rfl)) rfl ?_
           exact ⟨_,by first|rfl|(simp [errW_none,errW_some] <;> rfl)|(simp [*,errW_none,errW_some] <;> rfl),by (with_reducible repeat (first|apply Kd.R_alloc|apply Kd.R_drewN|apply Kd.R_drew));exact Kd.R_mono (Kd.R_far (p:=⟨gb260,3,none⟩) (Kd.R_far (p:=⟨gb260,2,none⟩) (Kd.R_far (p:=⟨gb260,1,none⟩) (Kd.R_far (p:=⟨gb260,0,none⟩) (Kd.R_types HO276.out BK260.out (by decide)) (fun _ hk => hk.2) (.int .i64 t272)) (fun _ hk => hk.2) (.int .i64 t273)) (fun _ hk => hk.2) (.slice Ao26 t274.length co26)) (fun _ hk => hk.2) (.string t277)) (fun _ hk => trivial),by repeat (first|(with_reducible first|exact HB.out|apply below_alloc|apply pw_below_drewN|apply below_drew1|refine below_set ?_ GE260.out)|exact HB.out)⟩
         ·replace c18:=Bool.eq_false_iff.mpr c18
          subst c18
          have H1 : (racewayref25_number.j4 kj11 a0 x1_11 a1) = some (r1,r2,r3,r4):=by rw [if_neg (show ¬ (false = true) by decide)] at H;exact H
          clear H
          have H:=H1
          clear H1
          have H':=Aside0.mk H
          clear H
          go_wp2
          go_meet
          case rel => exact ⟨_,(x1_11),(0),(0),((⟨#[]⟩ : ByteArray)),(by first|rfl|(simp;done)|(simp;decide +kernel)|(simp [*];done)),(by first|exact H'|(subst_vars;exact H')),⟨by have:=HJ3.out;have:=HJ11.out;first|omega|exact Nat.le_refl _⟩,⟨by (with_reducible repeat (first|refine blk_drewN ?_ _|refine blk_drew ?_|refine blk_alloc ?_ _));exact BK260.out⟩,⟨by repeat (first|(with_reducible first|exact HB.out|apply below_alloc|apply pw_below_drewN|apply below_drew1|refine below_set ?_ GE260.out)|exact HB.out)⟩⟩
        case rest =>
         clear HC17
         try clear c1
         try clear p1
         try clear q1
         try clear hx1
         try clear c2
         try clear p2
         try clear c5
         try clear c6
         try clear p6
         try clear c7
         try clear c8
         try clear c9
         try clear c9b0
         try clear c10
         try clear c10b0
         try clear p11
         try clear q11
         try clear hx11
         try clear c13
         try clear c13b0
         try clear c13b1
         try clear c15
         try clear c18
         try clear c20
         try clear c22
         try clear hcz25_0
         try clear hcz25_1
         try clear hcz25_2
         try clear hcz25_3
         try clear hfz25_0
         try clear hfz25_1
         try clear hfz25_2
         try clear hfz25_3
         try clear p1
         try clear p11
         try clear p2
         try clear p6
         try clear q1
         try clear q11
         obtain ⟨kq,x1_16,x261000_16,x261001_16,x261003_16,rfl,HA,HJ16,BK260,HB⟩:=hcut
         cases kq with
         | zero => exact absurd HA.out (by simp [racewayref25_number.j4])
         | succ kj16 =>
          have H:=HA.out
          clear HA
          simp only [racewayref25_number.j4] at H
          have HC27:=Aside0.mk H
          clear H
          go_upto_region 16 with (fail)
          go_cut [52] (fun v52 wc => ∃ (kq : Nat) (x52_26 : Bool),v52 = .bool x52_26 ∧ Aside0 (racewayref25_number.j5 kq a0 x1_16 a1 x52_26 = some (r1,r2,r3,r4)) ∧ Aside0 (kq ≤ kj16) ∧ Aside0 (wc.heap[gb260]? = some (.cells #[.int .i64 x261000_16,.int .i64 x261001_16,(.slice none 0 0),.string x261003_16] 67 (0,0))) ∧ Aside0 (Below w.heap.size w wc))
          case first =>
           have H:=HC27.out
           clear HC27
           replace H:=Option.bind_eq_some_iff.mp H
           obtain ⟨t279,A280,H⟩:=H
           replace H : (if t279 = true then (racewayref25_number.j5 kj16 a0 x1_16 a1 true) else ((racewayref25_is.f a0 x1_16 69).bind fun t280 => (racewayref25_number.j5 kj16 a0 x1_16 a1 t280))) = some (r1,r2,r3,r4):=H
           have A28:=Aside0.mk A280
           clear A280
           by_cases c29 : t279 = true
           ·subst c29
            have H1 : (racewayref25_number.j5 kj16 a0 x1_16 a1 true) = some (r1,r2,r3,r4):=by rw [if_pos rfl] at H;exact H
            clear H
            have H:=H1
            clear H1
            have H':=Aside0.mk H
            clear H
            go_wp2_with (first|((with_reducible refine gate_callee (f:=70) rfl ?_);refine goesL_ (some 47) rfl rfl Tryd.func70 (by kernel_rfl) rfl #[.string a0,.int .i64 x1_16,.int .u8 101] rfl (by (try simp only [List.map_toArray,List.map_cons,List.map_nil]);first|done|rfl|(simp only [List.length_drop,List.length_take];rfl)) ?_;(with_reducible refine (racewayref25_is.calls a0 x1_16 101 true _ A28.out).mono ?_);rintro e w' ⟨rfl,⟨nd,rfl⟩⟩;refine ⟨_,rfl,?_⟩))
            go_meet
            case rel => exact ⟨_,(true),(by first|rfl|(simp;done)|(simp;decide +kernel)|(simp [*];done)),(by first|exact H'|(subst_vars;exact H')),⟨by have:=HJ3.out;have:=HJ11.out;have:=HJ16.out;first|omega|exact Nat.le_refl _⟩,⟨by (with_reducible repeat (first|refine blk_drewN ?_ _|refine blk_drew ?_|refine blk_alloc ?_ _));exact BK260.out⟩,⟨by repeat (first|(with_reducible first|exact HB.out|apply below_alloc|apply pw_below_drewN|apply below_drew1|refine below_set ?_ GE260.out)|exact HB.out)⟩⟩
           ·replace c29:=Bool.eq_false_iff.mpr c29
            subst c29
            have H1 : ((racewayref25_is.f a0 x1_16 69).bind fun t280 => (racewayref25_number.j5 kj16 a0 x1_16 a1 t280)) = some (r1,r2,r3,r4):=by rw [if_neg (show ¬ (false = true) by decide)] at H;exact H
            clear H
            have H:=H1
            clear H1
            replace H:=Option.bind_eq_some_iff.mp H
            obtain ⟨t280,A300,H⟩:=H
            replace H : (racewayref25_number.j5 kj16 a0 x1_16 a1 t280) = some (r1,r2,r3,r4):=H
            have A30:=Aside0.mk A300
            clear A300
            have H':=Aside0.mk H
            clear H
            go_wp2_with (first|((with_reducible refine gate_callee (f:=70) rfl ?_);refine goesL_ (some 47) rfl rfl Tryd.func70 (by kernel_rfl) rfl #[.string a0,.int .i64 x1_16,.int .u8 101] rfl (by (try simp only [List.map_toArray,List.map_cons,List.map_nil]);first|done|rfl|(simp only [List.length_drop,List.length_take];rfl)) ?_;(with_reducible refine (racewayref25_is.calls a0 x1_16 101 false _ A28.out).mono ?_);rintro e w' ⟨rfl,⟨nd,rfl⟩⟩;refine ⟨_,rfl,?_⟩)|(go_at_call 70;(with_reducible refine (racewayref25_is.calls a0 x1_16 69 t280 _ A30.out).mono ?_);rintro e w' ⟨rfl,⟨nd,rfl⟩⟩))
            go_meet
            case rel => exact ⟨_,(t280),(by first|rfl|(simp;done)|(simp;decide +kernel)|(simp [*];done)),(by first|exact H'|(subst_vars;exact H')),⟨by have:=HJ3.out;have:=HJ11.out;have:=HJ16.out;first|omega|exact Nat.le_refl _⟩,⟨by (with_reducible repeat (first|refine blk_drewN ?_ _|refine blk_drew ?_|refine blk_alloc ?_ _));exact BK260.out⟩,⟨by repeat (first|(with_reducible first|exact HB.out|apply below_alloc|apply pw_below_drewN|apply below_drew1|refine below_set ?_ GE260.out)|exact HB.out)⟩⟩
          case rest =>
           clear HC27
           try clear c1
           try clear p1
           try clear q1
           try clear hx1
           try clear c2
           try clear p2
           try clear c5
           try clear c6
           try clear p6
           try clear c7
           try clear c8
           try clear c9
           try clear c9b0
           try clear c10
           try clear c10b0
           try clear p11
           try clear q11
           try clear hx11
           try clear c13
           try clear c13b0
           try clear c13b1
           try clear c15
           try clear c18
           try clear c20
           try clear c22
           try clear c29
           try clear hcz25_0
           try clear hcz25_1
           try clear hcz25_2
           try clear hcz25_3
           try clear hfz25_0
           try clear hfz25_1
           try clear hfz25_2
           try clear hfz25_3
           try clear p1
           try clear p11
           try clear p2
           try clear p6
           try clear q1
           try clear q11
           obtain ⟨kq,x52_26,rfl,HA,HJ26,BK260,HB⟩:=hcut
           cases kq with
           | zero => exact absurd HA.out (by simp [racewayref25_number.j5])
           | succ kj26 =>
            have H:=HA.out
            clear HA
            simp only [racewayref25_number.j5] at H
            by_cases c31 : x52_26 = true
            ·subst c31
             have H1 : ((racewayref25_is.f a0 (wrap64 (x1_16 + 1)) 43).bind fun t281 => (if t281 = true then (racewayref25_number.j6 kj26 a0 (wrap64 (x1_16 + 1)) a1 true) else ((racewayref25_is.f a0 (wrap64 (x1_16 + 1)) 45).bind fun t282 => (racewayref25_number.j6 kj26 a0 (wrap64 (x1_16 + 1)) a1 t282)))) = some (r1,r2,r3,r4):=by rw [if_pos rfl] at H;exact H
             clear H
             have H:=H1
             clear H1
             have HC32:=Aside0.mk H
             clear H
             go_upto_region 18 with (fail)
             go_cut [62] (fun v62 wc => ∃ (kq : Nat) (x62_31 : Bool),v62 = .bool x62_31 ∧ Aside0 (racewayref25_number.j6 kq a0 (wrap64 (x1_16 + 1)) a1 x62_31 = some (r1,r2,r3,r4)) ∧ Aside0 (kq ≤ kj26) ∧ Aside0 (wc.heap[gb260]? = some (.cells #[.int .i64 x261000_16,.int .i64 x261001_16,(.slice none 0 0),.string x261003_16] 67 (0,0))) ∧ Aside0 (Below w.heap.size w wc))
             case first =>
              have H:=HC32.out
              clear HC32
              replace H:=Option.bind_eq_some_iff.mp H
              obtain ⟨t281,A330,H⟩:=H
              replace H : (if t281 = true then (racewayref25_number.j6 kj26 a0 (wrap64 (x1_16 + 1)) a1 true) else ((racewayref25_is.f a0 (wrap64 (x1_16 + 1)) 45).bind fun t282 => (racewayref25_number.j6 kj26 a0 (wrap64 (x1_16 + 1)) a1 t282))) = some (r1,r2,r3,r4):=H
              have A33:=Aside0.mk A330
              clear A330
              by_cases c34 : t281 = true
              ·subst c34
               have H1 : (racewayref25_number.j6 kj26 a0 (wrap64 (x1_16 + 1)) a1 true) = some (r1,r2,r3,r4):=by rw [if_pos rfl] at H;exact H
               clear H
               have H:=H1
               clear H1
               have H':=Aside0.mk H
               clear H
               go_wp2_with (first|((with_reducible refine gate_callee (f:=70) rfl ?_);refine goesL_ (some 57) rfl rfl Tryd.func70 (by kernel_rfl) rfl #[.string a0,.int .i64 (wrap64 (x1_16 + 1)),.int .u8 43] rfl (by (try simp only [List.map_toArray,List.map_cons,List.map_nil]);first|done|rfl|(simp only [List.length_drop,List.length_take];rfl)) ?_;(with_reducible refine (racewayref25_is.calls a0 (wrap64 (x1_16 + 1)) 43 true _ A33.out).mono ?_);rintro e w' ⟨rfl,⟨nd,rfl⟩⟩;refine ⟨_,rfl,?_⟩))
               go_meet
               case rel => exact ⟨_,(true),(by first|rfl|(simp;done)|(simp;decide +kernel)|(simp [*];done)),(by first|exact H'|(subst_vars;exact H')),⟨by have:=HJ3.out;have:=HJ11.out;have:=HJ16.out;have:=HJ26.out;first|omega|exact Nat.le_refl _⟩,⟨by (with_reducible repeat (first|refine blk_drewN ?_ _|refine blk_drew ?_|refine blk_alloc ?_ _));exact BK260.out⟩,⟨by repeat (first|(with_reducible first|exact HB.out|apply below_alloc|apply pw_below_drewN|apply below_drew1|refine below_set ?_ GE260.out)|exact HB.out)⟩⟩
              ·replace c34:=Bool.eq_false_iff.mpr c34
               subst c34
               have H1 : ((racewayref25_is.f a0 (wrap64 (x1_16 + 1)) 45).bind fun t282 => (racewayref25_number.j6 kj26 a0 (wrap64 (x1_16 + 1)) a1 t282)) = some (r1,r2,r3,r4):=by rw [if_neg (show ¬ (false = true) by decide)] at H;exact H
               clear H
               have H:=H1
               clear H1
               replace H:=Option.bind_eq_some_iff.mp H
               obtain ⟨t282,A350,H⟩:=H
               replace H : (racewayref25_number.j6 kj26 a0 (wrap64 (x1_16 + 1)) a1 t282) = some (r1,r2,r3,r4):=H
               have A35:=Aside0.mk A350
               clear A350
               have H':=Aside0.mk H
               clear H
               go_wp2_with (first|((with_reducible refine gate_callee (f:=70) rfl ?_);refine goesL_ (some 57) rfl rfl Tryd.func70 (by kernel_rfl) rfl #[.string a0,.int .i64 (wrap64 (x1_16 + 1)),.int .u8 43] rfl (by (try simp only [List.map_toArray,List.map_cons,List.map_nil]);first|done|rfl|(simp only [List.length_drop,List.length_take];rfl)) ?_;(with_reducible refine (racewayref25_is.calls a0 (wrap64 (x1_16 + 1)) 43 false _ A33.out).mono ?_);rintro e w' ⟨rfl,⟨nd,rfl⟩⟩;refine ⟨_,rfl,?_⟩)|(go_at_call 70;(with_reducible refine (racewayref25_is.calls a0 (wrap64 (x1_16 + 1)) 45 t282 _ A35.out).mono ?_);rintro e w' ⟨rfl,⟨nd,rfl⟩⟩))
               go_meet
               case rel => exact ⟨_,(t282),(by first|rfl|(simp;done)|(simp;decide +kernel)|(simp [*];done)),(by first|exact H'|(subst_vars;exact H')),⟨by have:=HJ3.out;have:=HJ11.out;have:=HJ16.out;have:=HJ26.out;first|omega|exact Nat.le_refl _⟩,⟨by (with_reducible repeat (first|refine blk_drewN ?_ _|refine blk_drew ?_|refine blk_alloc ?_ _));exact BK260.out⟩,⟨by repeat (first|(with_reducible first|exact HB.out|apply below_alloc|apply pw_below_drewN|apply below_drew1|refine below_set ?_ GE260.out)|exact HB.out)⟩⟩
             case rest =>
              clear HC32
              try clear c1
              try clear p1
              try clear q1
              try clear hx1
              try clear c2
              try clear p2
              try clear c3
              try clear c5
              try clear c6
              try clear p6
              try clear c7
              try clear c8
              try clear c9
              try clear c9b0
              try clear c10
              try clear c10b0
              try clear p11
              try clear q11
              try clear hx11
              try clear c13
              try clear c13b0
              try clear c13b1
              try clear c15
              try clear c18
              try clear c20
              try clear c22
              try clear c29
              try clear c31
              try clear c34
              try clear hcz25_0
              try clear hcz25_1
              try clear hcz25_2
              try clear hcz25_3
              try clear hfz25_0
              try clear hfz25_1
              try clear hfz25_2
              try clear hfz25_3
              try clear p1
              try clear p11
              try clear p2
              try clear p6
              try clear q1
              try clear q11
              obtain ⟨kq,x62_31,rfl,HA,HJ31,BK260,HB⟩:=hcut
              cases kq with
              | zero => exact absurd HA.out (by simp [racewayref25_number.j6])
              | succ kj31 =>
               have H:=HA.out
               clear HA
               simp only [racewayref25_number.j6] at H
               have HC36:=Aside0.mk H
               clear H
               go_upto_if 62 with (fail)
               go_cut [1] (fun v1 wc => ∃ (kq : Nat) (x1_35 : Int),v1 = .int .i64 x1_35 ∧ Aside0 (racewayref25_number.j7 kq a0 x1_35 a1 = some (r1,r2,r3,r4)) ∧ Aside0 (kq ≤ kj31) ∧ Aside0 (wc.heap[gb260]? = some (.cells #[.int .i64 x261000_16,.int .i64 x261001_16,(.slice none 0 0),.string x261003_16] 67 (0,0))) ∧ Aside0 (Below w.heap.size w wc))
               case first =>
                have H:=HC36.out
                clear HC36
                by_cases c37 : x62_31 = true
                ·subst c37
                 have H1 : (racewayref25_number.j7 kj31 a0 (wrap64 ((wrap64 (x1_16 + 1)) + 1)) a1) = some (r1,r2,r3,r4):=by rw [if_pos rfl] at H;exact H
                 clear H
                 have H:=H1
                 clear H1
                 have H':=Aside0.mk H
                 clear H
                 go_wp2
                 go_meet
                 case rel => exact ⟨_,(wrap64 ((wrap64 (x1_16 + 1)) + 1)),(by first|rfl|(simp;done)|(simp;decide +kernel)|(simp [*];done)),(by first|exact H'|(subst_vars;exact H')),⟨by have:=HJ3.out;have:=HJ11.out;have:=HJ16.out;have:=HJ26.out;have:=HJ31.out;first|omega|exact Nat.le_refl _⟩,⟨by (with_reducible repeat (first|refine blk_drewN ?_ _|refine blk_drew ?_|refine blk_alloc ?_ _));exact BK260.out⟩,⟨by repeat (first|(with_reducible first|exact HB.out|apply below_alloc|apply pw_below_drewN|apply below_drew1|refine below_set ?_ GE260.out)|exact HB.out)⟩⟩
                ·replace c37:=Bool.eq_false_iff.mpr c37
                 subst c37
                 have H1 : (racewayref25_number.j7 kj31 a0 (wrap64 (x1_16 + 1)) a1) = some (r1,r2,r3,r4):=by rw [if_neg (show ¬ (false = true) by decide)] at H;exact H
                 clear H
                 have H:=H1
                 clear H1
                 have H':=Aside0.mk H
                 clear H
                 go_wp2
                 go_meet
                 case rel => exact ⟨_,((wrap64 (x1_16 + 1))),(by first|rfl|(simp;done)|(simp;decide +kernel)|(simp [*];done)),(by first|exact H'|(subst_vars;exact H')),⟨by have:=HJ3.out;have:=HJ11.out;have:=HJ16.out;have:=HJ26.out;have:=HJ31.out;first|omega|exact Nat.le_refl _⟩,⟨by (with_reducible repeat (first|refine blk_drewN ?_ _|refine blk_drew ?_|refine blk_alloc ?_ _));exact BK260.out⟩,⟨by repeat (first|(with_reducible first|exact HB.out|apply below_alloc|apply pw_below_drewN|apply below_drew1|refine below_set ?_ GE260.out)|exact HB.out)⟩⟩
               case rest =>
                clear HC36
                try clear c1
                try clear p1
                try clear q1
                try clear hx1
                try clear c2
                try clear p2
                try clear c3
                try clear c5
                try clear c6
                try clear p6
                try clear c7
                try clear c8
                try clear c9
                try clear c9b0
                try clear c10
                try clear c10b0
                try clear p11
                try clear q11
                try clear hx11
                try clear c13
                try clear c13b0
                try clear c13b1
                try clear c15
                try clear c18
                try clear c20
                try clear c22
                try clear c29
                try clear c31
                try clear c34
                try clear c37
                try clear hcz25_0
                try clear hcz25_1
                try clear hcz25_2
                try clear hcz25_3
                try clear hfz25_0
                try clear hfz25_1
                try clear hfz25_2
                try clear hfz25_3
                try clear p1
                try clear p11
                try clear p2
                try clear p6
                try clear q1
                try clear q11
                obtain ⟨kq,x1_35,rfl,HA,HJ35,BK260,HB⟩:=hcut
                cases kq with
                | zero => exact absurd HA.out (by simp [racewayref25_number.j7])
                | succ kj35 =>
                 have H:=HA.out
                 clear HA
                 simp only [racewayref25_number.j7] at H
                 replace H:=Option.bind_eq_some_iff.mp H
                 obtain ⟨t283,A380,H⟩:=H
                 replace H : (if t283 = true then (racewayref25_number.l2 kj35 a0 x1_35 a1) else ((racewayref25_fail.f x1_35).bind fun bt284 => (some (bt284.1,bt284.2.1,bt284.2.2.1,bt284.2.2.2)))) = some (r1,r2,r3,r4):=H
                 have A38:=Aside0.mk A380
                 clear A380
                 by_cases c39 : t283 = true
                 ·subst c39
                  have H1 : (racewayref25_number.l2 kj35 a0 x1_35 a1) = some (r1,r2,r3,r4):=by rw [if_pos rfl] at H;exact H
                  clear H
                  have H:=H1
                  clear H1
                  have H':=Aside0.mk H
                  clear H
                  go_wp2_with (first|((with_reducible refine gate_callee (f:=55) rfl ?_);refine goesL_ (some 67) rfl rfl Tryd.func55 (by kernel_rfl) rfl #[.string a0,.int .i64 x1_35] rfl (by (try simp only [List.map_toArray,List.map_cons,List.map_nil]);first|done|rfl|(simp only [List.length_drop,List.length_take];rfl)) ?_;(with_reducible refine (racewayref25_digit.calls a0 x1_35 true _ A38.out).mono ?_);rintro e w' ⟨rfl,⟨nd,rfl⟩⟩;refine ⟨_,rfl,?_⟩))
                  go_loopg [1] kj35 (fun kq v1 w' => ∃ (x1_7 : Int),v1 = .int .i64 x1_7 ∧ Aside0 (racewayref25_number.l2 kq a0 x1_7 a1 = some (r1,r2,r3,r4)) ∧ Aside0 (kq ≤ kj35) ∧ Aside0 (w'.heap[gb260]? = some (.cells #[.int .i64 x261000_16,.int .i64 x261001_16,(.slice none 0 0),.string x261003_16] 67 (0,0))) ∧ Aside0 (Below w.heap.size w w'))
                  case atStart => exact ⟨(x1_35),(by first|rfl|(simp;done)|(simp;decide +kernel)|(simp [*];done)),(by first|exact H'|(subst_vars;exact H')),⟨Nat.le_refl _⟩,⟨by (with_reducible repeat (first|refine blk_drewN ?_ _|refine blk_drew ?_|refine blk_alloc ?_ _));exact BK260.out⟩,⟨by repeat (first|(with_reducible first|exact HB.out|apply below_alloc|apply pw_below_drewN|apply below_drew1|refine below_set ?_ GE260.out)|exact HB.out)⟩⟩
                  case round =>
                   clear H'
                   try clear c1
                   try clear p1
                   try clear q1
                   try clear hx1
                   try clear c2
                   try clear p2
                   try clear c3
                   try clear c5
                   try clear c6
                   try clear p6
                   try clear c7
                   try clear c8
                   try clear c9
                   try clear c9b0
                   try clear c10
                   try clear c10b0
                   try clear p11
                   try clear q11
                   try clear hx11
                   try clear c13
                   try clear c13b0
                   try clear c13b1
                   try clear c15
                   try clear c18
                   try clear c20
                   try clear c22
                   try clear c29
                   try clear c31
                   try clear c34
                   try clear c37
                   try clear c39
                   try clear hcz25_0
                   try clear hcz25_1
                   try clear hcz25_2
                   try clear hcz25_3
                   try clear hfz25_0
                   try clear hfz25_1
                   try clear hfz25_2
                   try clear hfz25_3
                   try clear p1
                   try clear p11
                   try clear p2
                   try clear p6
                   try clear q1
                   try clear q11
                   obtain ⟨x1_7,rfl,HA,HK7,BK260,HB⟩:=hrel
                   cases gk with
                   | zero => exact absurd HA.out (by simp [racewayref25_number.l2])
                   | succ k7 =>
                    have H:=HA.out
                    clear HA
                    simp only [racewayref25_number.l2] at H
                    replace H:=Option.bind_eq_some_iff.mp H
                    obtain ⟨t290,A400,H⟩:=H
                    replace H : (if t290 = true then (racewayref25_number.l2 k7 a0 (wrap64 (x1_7 + 1)) a1) else (if 0 ≤ a1 then (if a1 ≤ x1_7 then (if x1_7 ≤ (a0.size : Int) then (some (x1_7,0,([] : List (S46)),a0.extract (a1 : Int).toNat (x1_7 : Int).toNat)) else (none)) else (none)) else (none))) = some (r1,r2,r3,r4):=H
                    have A40:=Aside0.mk A400
                    clear A400
                    by_cases c41 : t290 = true
                    ·subst c41
                     have H1 : (racewayref25_number.l2 k7 a0 (wrap64 (x1_7 + 1)) a1) = some (r1,r2,r3,r4):=by rw [if_pos rfl] at H;exact H
                     clear H
                     have H:=H1
                     clear H1
                     have H':=Aside0.mk H
                     clear H
                     go_wp2_with (first|((with_reducible refine gate_callee (f:=55) rfl ?_);refine goesL_ (some 73) rfl rfl Tryd.func55 (by kernel_rfl) rfl #[.string a0,.int .i64 x1_7] rfl (by (try simp only [List.map_toArray,List.map_cons,List.map_nil]);first|done|rfl|(simp only [List.length_drop,List.length_take];rfl)) ?_;(with_reducible refine (racewayref25_digit.calls a0 x1_7 true _ A40.out).mono ?_);rintro e w' ⟨rfl,⟨nd,rfl⟩⟩;refine ⟨_,rfl,?_⟩))
                     go_roundg k7
                     case measure => have:=HJ3.out;have:=HJ11.out;have:=HJ16.out;have:=HJ26.out;have:=HJ31.out;have:=HJ35.out;have:=HK7.out;omega
                     case rel => exact ⟨(wrap64 (x1_7 + 1)),(by first|rfl|(simp;done)|(simp;decide +kernel)|(simp [*];done)),(by first|exact H'|(subst_vars;exact H')),⟨by have:=HJ3.out;have:=HJ11.out;have:=HJ16.out;have:=HJ26.out;have:=HJ31.out;have:=HJ35.out;have:=HK7.out;omega⟩,⟨by (with_reducible repeat (first|refine blk_drewN ?_ _|refine blk_drew ?_|refine blk_alloc ?_ _));exact BK260.out⟩,⟨by repeat (first|(with_reducible first|exact HB.out|apply below_alloc|apply pw_below_drewN|apply below_drew1|refine below_set ?_ GE260.out)|exact HB.out)⟩⟩
                    ·replace c41:=Bool.eq_false_iff.mpr c41
                     subst c41
                     have H1 : (if 0 ≤ a1 then (if a1 ≤ x1_7 then (if x1_7 ≤ (a0.size : Int) then (some (x1_7,0,([] : List (S46)),a0.extract (a1 : Int).toNat (x1_7 : Int).toNat)) else (none)) else (none)) else (none)) = some (r1,r2,r3,r4):=by rw [if_neg (show ¬ (false = true) by decide)] at H;exact H
                     clear H
                     have H:=H1
                     clear H1
                     by_cases c42 : 0 ≤ a1
                     ·rw [if_pos c42] at H
                      have c42b0:=eq_true c42
                      have c42b1 : decide (0 ≤ a1) = true:=decide_eq_true c42
                      clear c42
                      by_cases c43 : a1 ≤ x1_7
                      ·rw [if_pos c43] at H
                       have c43b0:=eq_true c43
                       have c43b1 : decide (a1 ≤ x1_7) = true:=decide_eq_true c43
                       clear c43
                       by_cases c44 : x1_7 ≤ (a0.size : Int)
                       ·rw [if_pos c44] at H
                        have c44b0:=eq_true c44
                        have c44b1 : decide (x1_7 ≤ (a0.size : Int)) = true:=decide_eq_true c44
                        clear c44
                        simp only [Option.some.injEq,Prod.mk.injEq] at H
                        obtain ⟨rfl,rfl,rfl,rfl⟩:=H
                        go_wp2_with (first|((with_reducible refine gate_callee (f:=55) rfl ?_);refine goesL_ (some 73) rfl rfl Tryd.func55 (by kernel_rfl) rfl #[.string a0,.int .i64 x1_7] rfl (by (try simp only [List.map_toArray,List.map_cons,List.map_nil]);first|done|rfl|(simp only [List.length_drop,List.length_take];rfl)) ?_;(with_reducible refine (racewayref25_digit.calls a0 x1_7 false _ A40.out).mono ?_);rintro e w' ⟨rfl,⟨nd,rfl⟩⟩;refine ⟨_,rfl,?_⟩;(try (rw [drewN_self wr];generalize hq_ : World.drewN wr _ = wr;have n0_ : Aside0 (wr.heap[gb260]? = some (.cells #[.int .i64 x261000_16,.int .i64 x261001_16,.slice none 0 0,.string x261003_16] 67 (0,0))):=⟨by rw [← hq_];exact (by (with_reducible repeat (first|refine blk_drewN ?_ _|refine blk_drew ?_|refine blk_alloc ?_ _));exact BK260.out)⟩;have n1_ : Aside0 (Below w.heap.size w wr):=⟨by rw [← hq_];exact (by repeat (first|(with_reducible first|exact HB.out|apply below_alloc|apply pw_below_drewN|apply below_drew1|refine below_set ?_ GE260.out)|exact HB.out))⟩;clear BK260 HB hq_;have BK260:=n0_;have HB:=n1_;clear n0_ n1_));have hcz45_0 : wr.cell? ⟨gb260,0,none⟩ = some (.int .i64 x261000_16):=(blk_cell BK260.out 0).trans rfl;have hcz45_1 : wr.cell? ⟨gb260,1,none⟩ = some (.int .i64 x261001_16):=(blk_cell BK260.out 1).trans rfl;have hcz45_2 : wr.cell? ⟨gb260,2,none⟩ = some (.slice none 0 0):=(blk_cell BK260.out 2).trans rfl;have hcz45_3 : wr.cell? ⟨gb260,3,none⟩ = some (.string x261003_16):=(blk_cell BK260.out 3).trans rfl;have hfz45_0:=blk_frozen BK260.out 0;have hfz45_1:=blk_frozen BK260.out 1;have hfz45_2:=blk_frozen BK260.out 2;have hfz45_3:=blk_frozen BK260.out 3))
                        refine bodyPost_ret (results_cell_row rfl _ _ gb260 67 #[.int .i64 x1_7,.int .i64 0,.slice none 0 0,.string (a0.extract (a1 : Int).toNat (x1_7 : Int).toNat)] (0,0) _ rfl (by (with_reducible repeat (first|refine blk_drewN ?_ _|refine blk_drew ?_|refine blk_alloc ?_ _));refine blk_put (cs:=#[.int .i64 x1_7,.int .i64 0,.slice none 0 0,.string x261003_16]) ?_ 3 _ rfl;(with_reducible repeat (first|refine blk_drewN ?_ _|refine blk_drew ?_|refine blk_alloc ?_ _));refine blk_put (cs:=#[.int .i64 x1_7,.int .i64 0,.slice none 0 0,.string x261003_16]) ?_ 2 _ rfl;(with_reducible repeat (first|refine blk_drewN ?_ _|refine blk_drew ?_|refine blk_alloc ?_ _));refine blk_put (cs:=#[.int .i64 x1_7,.int .i64 x261001_16,.slice none 0 0,.string x261003_16]) ?_ 1 _ rfl;(with_reducible repeat (first|refine blk_drewN ?_ _|refine blk_drew ?_|refine blk_alloc ?_ _));refine blk_put (cs:=#[.int .i64 x261000_16,.int .i64 x261001_16,.slice none 0 0,.string x261003_16]) ?_ 0 _ rfl;(with_reducible repeat (first|refine blk_drewN ?_ _|refine blk_drew ?_|refine blk_alloc ?_ _));exact BK260.out) Tryd.underlying67 rfl (by kernel_rfl)) rfl ?_
                        exact ⟨_,by first|rfl|(simp [errW_none,errW_some] <;> rfl)|(simp [*,errW_none,errW_some] <;> rfl),by first|exact Kd.R_nil _ _ _ _ _|exact Kd.N_nil _ _ _ _ _|exact Kd.V_nil _ _ _ _ _|exact Kd.Q_nil _ _ _ _ _|exact Kd.S_nil _ _ _ _ _,by repeat (first|(with_reducible first|exact HB.out|apply below_alloc|apply pw_below_drewN|apply below_drew1|refine below_set ?_ GE260.out)|exact HB.out)⟩
                       ·rw [if_neg c44] at H
                        exact absurd H (by simp)
                      ·rw [if_neg c43] at H
                       exact absurd H (by simp)
                     ·rw [if_neg c42] at H
                      exact absurd H (by simp)
                 ·replace c39:=Bool.eq_false_iff.mpr c39
                  subst c39
                  have H1 : ((racewayref25_fail.f x1_35).bind fun bt284 => (some (bt284.1,bt284.2.1,bt284.2.2.1,bt284.2.2.2))) = some (r1,r2,r3,r4):=by rw [if_neg (show ¬ (false = true) by decide)] at H;exact H
                  clear H
                  have H:=H1
                  clear H1
                  replace H:=Option.bind_eq_some_iff.mp H
                  obtain ⟨⟨t284,t285,t286,t289⟩,A460,H⟩:=H
                  replace H : (some (t284,t285,t286,t289)) = some (r1,r2,r3,r4):=H
                  have A46:=Aside0.mk A460
                  clear A460
                  simp only [Option.some.injEq,Prod.mk.injEq] at H
                  obtain ⟨rfl,rfl,rfl,rfl⟩:=H
                  go_wp2_with (first|((with_reducible refine gate_callee (f:=55) rfl ?_);refine goesL_ (some 67) rfl rfl Tryd.func55 (by kernel_rfl) rfl #[.string a0,.int .i64 x1_35] rfl (by (try simp only [List.map_toArray,List.map_cons,List.map_nil]);first|done|rfl|(simp only [List.length_drop,List.length_take];rfl)) ?_;(with_reducible refine (racewayref25_digit.calls a0 x1_35 false _ A38.out).mono ?_);rintro e w' ⟨rfl,⟨nd,rfl⟩⟩;refine ⟨_,rfl,?_⟩;(try (rw [drewN_self wc];generalize hq_ : World.drewN wc _ = wc;have n0_ : Aside0 (wc.heap[gb260]? = some (.cells #[.int .i64 x261000_16,.int .i64 x261001_16,.slice none 0 0,.string x261003_16] 67 (0,0))):=⟨by rw [← hq_];exact (by (with_reducible repeat (first|refine blk_drewN ?_ _|refine blk_drew ?_|refine blk_alloc ?_ _));exact BK260.out)⟩;have n1_ : Aside0 (Below w.heap.size w wc):=⟨by rw [← hq_];exact (by repeat (first|(with_reducible first|exact HB.out|apply below_alloc|apply pw_below_drewN|apply below_drew1|refine below_set ?_ GE260.out)|exact HB.out))⟩;clear BK260 HB hq_;have BK260:=n0_;have HB:=n1_;clear n0_ n1_)))|((with_reducible refine gate_callee (f:=54) rfl ?_);refine goesL_ (some 70) rfl rfl Tryd.func54 (by kernel_rfl) rfl #[.int .i64 x1_35] rfl (by (try simp only [List.map_toArray,List.map_cons,List.map_nil]);first|done|rfl|(simp only [List.length_drop,List.length_take];rfl)) ?_;(with_reducible refine (racewayref25_fail.calls x1_35 t284 t285 t286 t289 _ A46.out).mono ?_);rintro e w47 ⟨v287,rfl,ho0,hb⟩;refine ⟨_,rfl,?_⟩;have n0_:=Aside0.mk (Kd.R_lower ho0 (below_size (by repeat (first|(with_reducible first|exact HB.out|apply below_alloc|apply pw_below_drewN|apply below_drew1|refine below_set ?_ GE260.out)|exact HB.out))));have n1_:=Aside0.mk (blk_below (g:=gb260) (o:=.cells #[.int .i64 x261000_16,.int .i64 x261001_16,.slice none 0 0,.string x261003_16] 67 (0,0)) (by (with_reducible repeat (first|refine blk_drewN ?_ _|refine blk_drew ?_|refine blk_alloc ?_ _));exact BK260.out) hb);have n2_:=Aside0.mk (below_step (by repeat (first|(with_reducible first|exact HB.out|apply below_alloc|apply pw_below_drewN|apply below_drew1|refine below_set ?_ GE260.out)|exact HB.out)) hb);clear BK260;clear HB;have HO288:=n0_;have BK260:=n1_;have HB:=n2_;clear n0_ n1_ n2_;(try clear hb);(try clear hb2);(try clear hk);(try clear hi);(try clear ho0);have hcz48_0 : w47.cell? ⟨gb260,0,none⟩ = some (.int .i64 x261000_16):=(blk_cell BK260.out 0).trans rfl;have hcz48_1 : w47.cell? ⟨gb260,1,none⟩ = some (.int .i64 x261001_16):=(blk_cell BK260.out 1).trans rfl;have hcz48_2 : w47.cell? ⟨gb260,2,none⟩ = some (.slice none 0 0):=(blk_cell BK260.out 2).trans rfl;have hcz48_3 : w47.cell? ⟨gb260,3,none⟩ = some (.string x261003_16):=(blk_cell BK260.out 3).trans rfl;have hfz48_0:=blk_frozen BK260.out 0;have hfz48_1:=blk_frozen BK260.out 1;have hfz48_2:=blk_frozen BK260.out 2;have hfz48_3:=blk_frozen BK260.out 3;obtain ⟨Ao49,co49,eo49⟩:=Kd.R_slice HO288.out;subst eo49))
                  refine bodyPost_ret (results_cell_row rfl _ _ gb260 67 #[.int .i64 t284,.int .i64 t285,.slice Ao49 t286.length co49,.string t289] (0,0) _ rfl (by (with_reducible repeat (first|refine blk_drewN ?_ _|refine blk_drew ?_|refine blk_alloc ?_ _));refine blk_put (cs:=#[.int .i64 t284,.int .i64 t285,.slice Ao49 t286.length co49,.string x261003_16]) ?_ 3 _ rfl;(with_reducible repeat (first|refine blk_drewN ?_ _|refine blk_drew ?_|refine blk_alloc ?_ _));refine blk_put (cs:=#[.int .i64 t284,.int .i64 t285,.slice none 0 0,.string x261003_16]) ?_ 2 _ rfl;(with_reducible repeat (first|refine blk_drewN ?_ _|refine blk_drew ?_|refine blk_alloc ?_ _));refine blk_put (cs:=#[.int .i64 t284,.int .i64 x261001_16,.slice none 0 0,.string x261003_16]) ?_ 1 _ rfl;(with_reducible repeat (first|refine blk_drewN ?_ _|refine blk_drew ?_|refine blk_alloc ?_ _));refine blk_put (cs:=#[.int .i64 x261000_16,.int .i64 x261001_16,.slice none 0 0,.string x261003_16]) ?_ 0 _ rfl;(with_reducible repeat (first|refine blk_drewN ?_ _|refine blk_drew ?_|refine blk_alloc ?_ _));exact BK260.out) Tryd.underlying67 rfl (by kernel_rfl)) rfl ?_
                  exact ⟨_,by first|rfl|(simp [errW_none,errW_some] <;> rfl)|(simp [*,errW_none,errW_some] <;> rfl),by (with_reducible repeat (first|apply Kd.R_alloc|apply Kd.R_drewN|apply Kd.R_drew));exact Kd.R_mono (Kd.R_far (p:=⟨gb260,3,none⟩) (Kd.R_far (p:=⟨gb260,2,none⟩) (Kd.R_far (p:=⟨gb260,1,none⟩) (Kd.R_far (p:=⟨gb260,0,none⟩) (Kd.R_types HO288.out BK260.out (by decide)) (fun _ hk => hk.2) (.int .i64 t284)) (fun _ hk => hk.2) (.int .i64 t285)) (fun _ hk => hk.2) (.slice Ao49 t286.length co49)) (fun _ hk => hk.2) (.string t289)) (fun _ hk => trivial),by repeat (first|(with_reducible first|exact HB.out|apply below_alloc|apply pw_below_drewN|apply below_drew1|refine below_set ?_ GE260.out)|exact HB.out)⟩
            ·replace c31:=Bool.eq_false_iff.mpr c31
             subst c31
             have H1 : (if 0 ≤ a1 then (if a1 ≤ x1_16 then (if x1_16 ≤ (a0.size : Int) then (some (x1_16,0,([] : List (S46)),a0.extract (a1 : Int).toNat (x1_16 : Int).toNat)) else (none)) else (none)) else (none)) = some (r1,r2,r3,r4):=by rw [if_neg (show ¬ (false = true) by decide)] at H;exact H
             clear H
             have H:=H1
             clear H1
             by_cases c50 : 0 ≤ a1
             ·rw [if_pos c50] at H
              have c50b0:=eq_true c50
              have c50b1 : decide (0 ≤ a1) = true:=decide_eq_true c50
              clear c50
              by_cases c51 : a1 ≤ x1_16
              ·rw [if_pos c51] at H
               have c51b0:=eq_true c51
               have c51b1 : decide (a1 ≤ x1_16) = true:=decide_eq_true c51
               clear c51
               by_cases c52 : x1_16 ≤ (a0.size : Int)
               ·rw [if_pos c52] at H
                have c52b0:=eq_true c52
                have c52b1 : decide (x1_16 ≤ (a0.size : Int)) = true:=decide_eq_true c52
                clear c52
                simp only [Option.some.injEq,Prod.mk.injEq] at H
                obtain ⟨rfl,rfl,rfl,rfl⟩:=H
                have hcz53_0 : wc.cell? ⟨gb260,0,none⟩ = some (.int .i64 x261000_16):=(blk_cell BK260.out 0).trans rfl
                have hcz53_1 : wc.cell? ⟨gb260,1,none⟩ = some (.int .i64 x261001_16):=(blk_cell BK260.out 1).trans rfl
                have hcz53_2 : wc.cell? ⟨gb260,2,none⟩ = some (.slice none 0 0):=(blk_cell BK260.out 2).trans rfl
                have hcz53_3 : wc.cell? ⟨gb260,3,none⟩ = some (.string x261003_16):=(blk_cell BK260.out 3).trans rfl
                have hfz53_0:=blk_frozen BK260.out 0
                have hfz53_1:=blk_frozen BK260.out 1
                have hfz53_2:=blk_frozen BK260.out 2
                have hfz53_3:=blk_frozen BK260.out 3
                go_wp2
                refine bodyPost_ret (results_cell_row rfl _ _ gb260 67 #[.int .i64 x1_16,.int .i64 0,.slice none 0 0,.string (a0.extract (a1 : Int).toNat (x1_16 : Int).toNat)] (0,0) _ rfl (by (with_reducible repeat (first|refine blk_drewN ?_ _|refine blk_drew ?_|refine blk_alloc ?_ _));refine blk_put (cs:=#[.int .i64 x1_16,.int .i64 0,.slice none 0 0,.string x261003_16]) ?_ 3 _ rfl;(with_reducible repeat (first|refine blk_drewN ?_ _|refine blk_drew ?_|refine blk_alloc ?_ _));refine blk_put (cs:=#[.int .i64 x1_16,.int .i64 0,.slice none 0 0,.string x261003_16]) ?_ 2 _ rfl;(with_reducible repeat (first|refine blk_drewN ?_ _|refine blk_drew ?_|refine blk_alloc ?_ _));refine blk_put (cs:=#[.int .i64 x1_16,.int .i64 x261001_16,.slice none 0 0,.string x261003_16]) ?_ 1 _ rfl;(with_reducible repeat (first|refine blk_drewN ?_ _|refine blk_drew ?_|refine blk_alloc ?_ _));refine blk_put (cs:=#[.int .i64 x261000_16,.int .i64 x261001_16,.slice none 0 0,.string x261003_16]) ?_ 0 _ rfl;(with_reducible repeat (first|refine blk_drewN ?_ _|refine blk_drew ?_|refine blk_alloc ?_ _));exact BK260.out) Tryd.underlying67 rfl (by kernel_rfl)) rfl ?_
                exact ⟨_,by first|rfl|(simp [errW_none,errW_some] <;> rfl)|(simp [*,errW_none,errW_some] <;> rfl),by first|exact Kd.R_nil _ _ _ _ _|exact Kd.N_nil _ _ _ _ _|exact Kd.V_nil _ _ _ _ _|exact Kd.Q_nil _ _ _ _ _|exact Kd.S_nil _ _ _ _ _,by repeat (first|(with_reducible first|exact HB.out|apply below_alloc|apply pw_below_drewN|apply below_drew1|refine below_set ?_ GE260.out)|exact HB.out)⟩
               ·rw [if_neg c52] at H
                exact absurd H (by simp)
              ·rw [if_neg c51] at H
               exact absurd H (by simp)
             ·rw [if_neg c50] at H
              exact absurd H (by simp)
     ·rw [if_neg c10] at H
      exact absurd H (by simp)
    ·rw [if_neg c9] at H
     exact absurd H (by simp)
   ·replace c8:=Bool.eq_false_iff.mpr c8
    subst c8
    have H1 : ((racewayref25_fail.f x1_3).bind fun bt263 => (some (bt263.1,bt263.2.1,bt263.2.2.1,bt263.2.2.2))) = some (r1,r2,r3,r4):=by rw [if_neg (show ¬ (false = true) by decide)] at H;exact H
    clear H
    have H:=H1
    clear H1
    replace H:=Option.bind_eq_some_iff.mp H
    obtain ⟨⟨t263,t264,t265,t268⟩,A540,H⟩:=H
    replace H : (some (t263,t264,t265,t268)) = some (r1,r2,r3,r4):=H
    have A54:=Aside0.mk A540
    clear A540
    simp only [Option.some.injEq,Prod.mk.injEq] at H
    obtain ⟨rfl,rfl,rfl,rfl⟩:=H
    go_wp2_with (first|((with_reducible refine gate_callee (f:=55) rfl ?_);refine goesL_ (some 14) rfl rfl Tryd.func55 (by kernel_rfl) rfl #[.string a0,.int .i64 x1_3] rfl (by (try simp only [List.map_toArray,List.map_cons,List.map_nil]);first|done|rfl|(simp only [List.length_drop,List.length_take];rfl)) ?_;(with_reducible refine (racewayref25_digit.calls a0 x1_3 false _ A7.out).mono ?_);rintro e w' ⟨rfl,⟨nd,rfl⟩⟩;refine ⟨_,rfl,?_⟩;(try (rw [drewN_self wc];generalize hq_ : World.drewN wc _ = wc;have n0_ : Aside0 (wc.heap[gb260]? = some (.cells #[.int .i64 0,.int .i64 0,.slice none 0 0,.string (⟨#[]⟩ : ByteArray)] 67 (0,0))):=⟨by rw [← hq_];exact (by (with_reducible repeat (first|refine blk_drewN ?_ _|refine blk_drew ?_|refine blk_alloc ?_ _));exact BK260.out)⟩;have n1_ : Aside0 (Below w.heap.size w wc):=⟨by rw [← hq_];exact (by repeat (first|(with_reducible first|exact HB.out|apply below_alloc|apply pw_below_drewN|apply below_drew1|refine below_set ?_ GE260.out)|exact HB.out))⟩;clear BK260 HB hq_;have BK260:=n0_;have HB:=n1_;clear n0_ n1_)))|((with_reducible refine gate_callee (f:=54) rfl ?_);refine goesL_ (some 17) rfl rfl Tryd.func54 (by kernel_rfl) rfl #[.int .i64 x1_3] rfl (by (try simp only [List.map_toArray,List.map_cons,List.map_nil]);first|done|rfl|(simp only [List.length_drop,List.length_take];rfl)) ?_;(with_reducible refine (racewayref25_fail.calls x1_3 t263 t264 t265 t268 _ A54.out).mono ?_);rintro e w55 ⟨v266,rfl,ho0,hb⟩;refine ⟨_,rfl,?_⟩;have n0_:=Aside0.mk (Kd.R_lower ho0 (below_size (by repeat (first|(with_reducible first|exact HB.out|apply below_alloc|apply pw_below_drewN|apply below_drew1|refine below_set ?_ GE260.out)|exact HB.out))));have n1_:=Aside0.mk (blk_below (g:=gb260) (o:=.cells #[.int .i64 0,.int .i64 0,.slice none 0 0,.string (⟨#[]⟩ : ByteArray)] 67 (0,0)) (by (with_reducible repeat (first|refine blk_drewN ?_ _|refine blk_drew ?_|refine blk_alloc ?_ _));exact BK260.out) hb);have n2_:=Aside0.mk (below_step (by repeat (first|(with_reducible first|exact HB.out|apply below_alloc|apply pw_below_drewN|apply below_drew1|refine below_set ?_ GE260.out)|exact HB.out)) hb);clear BK260;clear HB;have HO267:=n0_;have BK260:=n1_;have HB:=n2_;clear n0_ n1_ n2_;(try clear hb);(try clear hb2);(try clear hk);(try clear hi);(try clear ho0);have hcz56_0 : w55.cell? ⟨gb260,0,none⟩ = some (.int .i64 0):=(blk_cell BK260.out 0).trans rfl;have hcz56_1 : w55.cell? ⟨gb260,1,none⟩ = some (.int .i64 0):=(blk_cell BK260.out 1).trans rfl;have hcz56_2 : w55.cell? ⟨gb260,2,none⟩ = some (.slice none 0 0):=(blk_cell BK260.out 2).trans rfl;have hcz56_3 : w55.cell? ⟨gb260,3,none⟩ = some (.string (⟨#[]⟩ : ByteArray)):=(blk_cell BK260.out 3).trans rfl;have hfz56_0:=blk_frozen BK260.out 0;have hfz56_1:=blk_frozen BK260.out 1;have hfz56_2:=blk_frozen BK260.out 2;have hfz56_3:=blk_frozen BK260.out 3;obtain ⟨Ao57,co57,eo57⟩:=Kd.R_slice HO267.out;subst eo57))
    refine bodyPost_ret (results_cell_row rfl _ _ gb260 67 #[.int .i64 t263,.int .i64 t264,.slice Ao57 t265.length co57,.string t268] (0,0) _ rfl (by (with_reducible repeat (first|refine blk_drewN ?_ _|refine blk_drew ?_|refine blk_alloc ?_ _));refine blk_put (cs:=#[.int .i64 t263,.int .i64 t264,.slice Ao57 t265.length co57,.string (⟨#[]⟩ : ByteArray)]) ?_ 3 _ rfl;(with_reducible repeat (first|refine blk_drewN ?_ _|refine blk_drew ?_|refine blk_alloc ?_ _));refine blk_put (cs:=#[.int .i64 t263,.int .i64 t264,.slice none 0 0,.string (⟨#[]⟩ : ByteArray)]) ?_ 2 _ rfl;(with_reducible repeat (first|refine blk_drewN ?_ _|refine blk_drew ?_|refine blk_alloc ?_ _));refine blk_put (cs:=#[.int .i64 t263,.int .i64 0,.slice none 0 0,.string (⟨#[]⟩ : ByteArray)]) ?_ 1 _ rfl;(with_reducible repeat (first|refine blk_drewN ?_ _|refine blk_drew ?_|refine blk_alloc ?_ _));refine blk_put (cs:=#[.int .i64 0,.int .i64 0,.slice none 0 0,.string (⟨#[]⟩ : ByteArray)]) ?_ 0 _ rfl;(with_reducible repeat (first|refine blk_drewN ?_ _|refine blk_drew ?_|refine blk_alloc ?_ _));exact BK260.out) Tryd.underlying67 rfl (by kernel_rfl)) rfl ?_
    exact ⟨_,by first|rfl|(simp [errW_none,errW_some] <;> rfl)|(simp [*,errW_none,errW_some] <;> rfl),by (with_reducible repeat (first|apply Kd.R_alloc|apply Kd.R_drewN|apply Kd.R_drew));exact Kd.R_mono (Kd.R_far (p:=⟨gb260,3,none⟩) (Kd.R_far (p:=⟨gb260,2,none⟩) (Kd.R_far (p:=⟨gb260,1,none⟩) (Kd.R_far (p:=⟨gb260,0,none⟩) (Kd.R_types HO267.out BK260.out (by decide)) (fun _ hk => hk.2) (.int .i64 t263)) (fun _ hk => hk.2) (.int .i64 t264)) (fun _ hk => hk.2) (.slice Ao57 t265.length co57)) (fun _ hk => hk.2) (.string t268)) (fun _ hk => trivial),by repeat (first|(with_reducible first|exact HB.out|apply below_alloc|apply pw_below_drewN|apply below_drew1|refine below_set ?_ GE260.out)|exact HB.out)⟩
end Go.Proofs.YtadfkeipcebmfaaDoor.X
namespace Go.Proofs.YtadfkeipcebmfaaDoor.X
open Go.RowKit Go.Proofs.YtadfkeipcebmfaaDoorW.PrintWords Go.Proofs.YtadfkeipcebmfaaDoorW.PrintLast Go.Proofs.YtadfkeipcebmfaaDoorW.PrintMore
attribute [local go_sem] max2_int min2_int max_two min_two max_three min_three max_four min_four
set_option linter.unusedVariables false
set_option linter.unusedSimpArgs false
mutual
def racewayref25_may.j0 : Nat → List (S46) → Int → Int → Int → Bool → Int → Int → Int → ByteArray → ByteArray → Option (Int)
 | 0,_,_,_,_,_,_,_,_,_,_ => none
 | k + 1,x0,x1,x2,x4,x65,x293000,x293001,x293002,x293003,x293004 => if x65 = true then (some (-1)) else (if x293000 = 4 then (if (x293004.size : Int) > 65536 then (some (-1)) else ((racewayref25_number.f k x293004 0).bind fun bt297 => (if bt297.2.1 = 0 then (if bt297.1 = (x293004.size : Int) then (racewayref25_may.j1 k x0 x1 x2 x4 x293000 x293001 x293002 x293003 x293004) else (some (-1))) else (some (-1))))) else (racewayref25_may.j1 k x0 x1 x2 x4 x293000 x293001 x293002 x293003 x293004))
def racewayref25_may.j1 : Nat → List (S46) → Int → Int → Int → Int → Int → Int → ByteArray → ByteArray → Option (Int)
 | 0,_,_,_,_,_,_,_,_,_ => none
 | k + 1,x0,x1,x2,x4,x293000,x293001,x293002,x293003,x293004 => if x293000 = 5 then ((racewayref25_Valid.f k x293004).bind fun t304 => (if t304 = true then (if x293000 = 4 then (racewayref25_may.j2 k x0 x1 x2 x4 false x293000 x293001 x293002 x293003 x293004) else (racewayref25_may.j2 k x0 x1 x2 x4 false x293000 x293001 x293002 x293003 x293004)) else (racewayref25_may.j2 k x0 x1 x2 x4 true x293000 x293001 x293002 x293003 x293004))) else (if x293000 = 4 then (racewayref25_may.j2 k x0 x1 x2 x4 false x293000 x293001 x293002 x293003 x293004) else (racewayref25_may.j2 k x0 x1 x2 x4 (x293004.toList != ([] : List UInt8)) x293000 x293001 x293002 x293003 x293004))
def racewayref25_may.j2 : Nat → List (S46) → Int → Int → Int → Bool → Int → Int → Int → ByteArray → ByteArray → Option (Int)
 | 0,_,_,_,_,_,_,_,_,_,_ => none
 | k + 1,x0,x1,x2,x4,x110,x293000,x293001,x293002,x293003,x293004 => if x110 = true then (some (-1)) else (racewayref25_may.l0 k x0 x1 x2 x4 (wrap64 (x1 + 1)) 0 x293000 x293001 x293002 x293003 x293004)
def racewayref25_may.l0 : Nat → List (S46) → Int → Int → Int → Int → Int → Int → Int → Int → ByteArray → ByteArray → Option (Int)
 | 0,_,_,_,_,_,_,_,_,_,_,_ => none
 | k + 1,x0,x1,x2,x4,x13,x14,x293000,x293001,x293002,x293003,x293004 => if x14 < x293002 then (if x13 ≥ x2 then (some (-1)) else ((racewayref25_may.f k x0 x13 x2 (x293000 == 7) (wrap64 (x4 + 1))).bind fun t305 => (if t305 < 0 then (some (-1)) else (racewayref25_may.l0 k x0 x1 x2 x4 t305 (wrap64 (x14 + 1)) x293000 x293001 x293002 x293003 x293004)))) else (if x293001 = (wrap64 (x13 - x1)) then (some x13) else (some (-1)))
def racewayref25_may.f : Nat → List (S46) → Int → Int → Bool → Int → Option (Int)
 | 0,_,_,_,_,_ => none
 | k + 1,l0,a1,a2,a3,a4 => if 0 ≤ a1 then (if a1 < (l0.length : Int) then (if a1 ≥ a2 then (racewayref25_may.j0 k l0 a1 a2 a4 true ((rd_T46 l0 a1).f0) ((rd_T46 l0 a1).f1) ((rd_T46 l0 a1).f2) ((rd_T46 l0 a1).f3) ((rd_T46 l0 a1).f4)) else (if ((rd_T46 l0 a1).f0) < 1 then (racewayref25_may.j0 k l0 a1 a2 a4 true ((rd_T46 l0 a1).f0) ((rd_T46 l0 a1).f1) ((rd_T46 l0 a1).f2) ((rd_T46 l0 a1).f3) ((rd_T46 l0 a1).f4)) else (if ((rd_T46 l0 a1).f0) > 7 then (racewayref25_may.j0 k l0 a1 a2 a4 true ((rd_T46 l0 a1).f0) ((rd_T46 l0 a1).f1) ((rd_T46 l0 a1).f2) ((rd_T46 l0 a1).f3) ((rd_T46 l0 a1).f4)) else (if ((rd_T46 l0 a1).f2) < 0 then (racewayref25_may.j0 k l0 a1 a2 a4 true ((rd_T46 l0 a1).f0) ((rd_T46 l0 a1).f1) ((rd_T46 l0 a1).f2) ((rd_T46 l0 a1).f3) ((rd_T46 l0 a1).f4)) else (if a4 ≥ 32 then (racewayref25_may.j0 k l0 a1 a2 a4 true ((rd_T46 l0 a1).f0) ((rd_T46 l0 a1).f1) ((rd_T46 l0 a1).f2) ((rd_T46 l0 a1).f3) ((rd_T46 l0 a1).f4)) else (if ((rd_T46 l0 a1).f2) > 0 then (if ((rd_T46 l0 a1).f0) < 6 then (racewayref25_may.j0 k l0 a1 a2 a4 true ((rd_T46 l0 a1).f0) ((rd_T46 l0 a1).f1) ((rd_T46 l0 a1).f2) ((rd_T46 l0 a1).f3) ((rd_T46 l0 a1).f4)) else (if ((rd_T46 l0 a1).f3).toList = ([] : List UInt8) then ((racewayref25_Valid.f k ((rd_T46 l0 a1).f3)).bind fun t293 => (racewayref25_may.j0 k l0 a1 a2 a4 (!t293) ((rd_T46 l0 a1).f0) ((rd_T46 l0 a1).f1) ((rd_T46 l0 a1).f2) ((rd_T46 l0 a1).f3) ((rd_T46 l0 a1).f4))) else (if a3 = true then ((racewayref25_Valid.f k ((rd_T46 l0 a1).f3)).bind fun t294 => (racewayref25_may.j0 k l0 a1 a2 a4 (!t294) ((rd_T46 l0 a1).f0) ((rd_T46 l0 a1).f1) ((rd_T46 l0 a1).f2) ((rd_T46 l0 a1).f3) ((rd_T46 l0 a1).f4))) else (racewayref25_may.j0 k l0 a1 a2 a4 true ((rd_T46 l0 a1).f0) ((rd_T46 l0 a1).f1) ((rd_T46 l0 a1).f2) ((rd_T46 l0 a1).f3) ((rd_T46 l0 a1).f4))))) else (if ((rd_T46 l0 a1).f3).toList = ([] : List UInt8) then ((racewayref25_Valid.f k ((rd_T46 l0 a1).f3)).bind fun t295 => (racewayref25_may.j0 k l0 a1 a2 a4 (!t295) ((rd_T46 l0 a1).f0) ((rd_T46 l0 a1).f1) ((rd_T46 l0 a1).f2) ((rd_T46 l0 a1).f3) ((rd_T46 l0 a1).f4))) else (if a3 = true then ((racewayref25_Valid.f k ((rd_T46 l0 a1).f3)).bind fun t296 => (racewayref25_may.j0 k l0 a1 a2 a4 (!t296) ((rd_T46 l0 a1).f0) ((rd_T46 l0 a1).f1) ((rd_T46 l0 a1).f2) ((rd_T46 l0 a1).f3) ((rd_T46 l0 a1).f4))) else (racewayref25_may.j0 k l0 a1 a2 a4 true ((rd_T46 l0 a1).f0) ((rd_T46 l0 a1).f1) ((rd_T46 l0 a1).f2) ((rd_T46 l0 a1).f3) ((rd_T46 l0 a1).f4)))))))))) else (none)) else (none)
end
set_option maxHeartbeats 8000000 in
set_option maxRecDepth 100000 in
theorem racewayref25_may.calls (k : Nat) : ∀ (A0 : Option Addr) (c0 : Nat) (l0 : List (S46)) (a1 : Int) (a2 : Int) (a3 : Bool) (a4 : Int) (r : Int) (w : World) (hr0 : Kd.C k46 w A0 l0.length l0) (hc0 : l0.length ≤ c0) (h : racewayref25_may.f k l0 a1 a2 a3 a4 = some r),
  Calls Tryd.prog 41 #[.slice A0 l0.length c0,.int .i64 a1,.int .i64 a2,.bool a3,.int .i64 a4] w fun e w' => e = .returned (.int .i64 r) ∧ Below w.heap.size w w':=by
 induction k using Nat.strongRecOn with
 | _ k ih =>
 intro A0 c0 l0 a1 a2 a3 a4 r w hr0 hc0 h
 cases k with
 | zero => exact absurd h (by simp [racewayref25_may.f])
 | succ k =>
 simp only [racewayref25_may.f] at h
 have hu46:=Tryd.underlying46
 have hu67:=Tryd.underlying67
 have HR0:=Aside0.mk hr0
 have HC0:=Aside0.mk hc0
 clear hr0 hc0
 have HB:=Aside0.mk (Below.refl w.heap.size w)
 have H : (if 0 ≤ a1 then (if a1 < (l0.length : Int) then (if a1 ≥ a2 then (racewayref25_may.j0 k l0 a1 a2 a4 true ((rd_T46 l0 a1).f0) ((rd_T46 l0 a1).f1) ((rd_T46 l0 a1).f2) ((rd_T46 l0 a1).f3) ((rd_T46 l0 a1).f4)) else (if ((rd_T46 l0 a1).f0) < 1 then (racewayref25_may.j0 k l0 a1 a2 a4 true ((rd_T46 l0 a1).f0) ((rd_T46 l0 a1).f1) ((rd_T46 l0 a1).f2) ((rd_T46 l0 a1).f3) ((rd_T46 l0 a1).f4)) else (if ((rd_T46 l0 a1).f0) > 7 then (racewayref25_may.j0 k l0 a1 a2 a4 true ((rd_T46 l0 a1).f0) ((rd_T46 l0 a1).f1) ((rd_T46 l0 a1).f2) ((rd_T46 l0 a1).f3) ((rd_T46 l0 a1).f4)) else (if ((rd_T46 l0 a1).f2) < 0 then (racewayref25_may.j0 k l0 a1 a2 a4 true ((rd_T46 l0 a1).f0) ((rd_T46 l0 a1).f1) ((rd_T46 l0 a1).f2) ((rd_T46 l0 a1).f3) ((rd_T46 l0 a1).f4)) else (if a4 ≥ 32 then (racewayref25_may.j0 k l0 a1 a2 a4 true ((rd_T46 l0 a1).f0) ((rd_T46 l0 a1).f1) ((rd_T46 l0 a1).f2) ((rd_T46 l0 a1).f3) ((rd_T46 l0 a1).f4)) else (if ((rd_T46 l0 a1).f2) > 0 then (if ((rd_T46 l0 a1).f0) < 6 then (racewayref25_may.j0 k l0 a1 a2 a4 true ((rd_T46 l0 a1).f0) ((rd_T46 l0 a1).f1) ((rd_T46 l0 a1).f2) ((rd_T46 l0 a1).f3) ((rd_T46 l0 a1).f4)) else (if ((rd_T46 l0 a1).f3).toList = ([] : List UInt8) then ((racewayref25_Valid.f k ((rd_T46 l0 a1).f3)).bind fun t293 => (racewayref25_may.j0 k l0 a1 a2 a4 (!t293) ((rd_T46 l0 a1).f0) ((rd_T46 l0 a1).f1) ((rd_T46 l0 a1).f2) ((rd_T46 l0 a1).f3) ((rd_T46 l0 a1).f4))) else (if a3 = true then ((racewayref25_Valid.f k ((rd_T46 l0 a1).f3)).bind fun t294 => (racewayref25_may.j0 k l0 a1 a2 a4 (!t294) ((rd_T46 l0 a1).f0) ((rd_T46 l0 a1).f1) ((rd_T46 l0 a1).f2) ((rd_T46 l0 a1).f3) ((rd_T46 l0 a1).f4))) else (racewayref25_may.j0 k l0 a1 a2 a4 true ((rd_T46 l0 a1).f0) ((rd_T46 l0 a1).f1) ((rd_T46 l0 a1).f2) ((rd_T46 l0 a1).f3) ((rd_T46 l0 a1).f4))))) else (if ((rd_T46 l0 a1).f3).toList = ([] : List UInt8) then ((racewayref25_Valid.f k ((rd_T46 l0 a1).f3)).bind fun t295 => (racewayref25_may.j0 k l0 a1 a2 a4 (!t295) ((rd_T46 l0 a1).f0) ((rd_T46 l0 a1).f1) ((rd_T46 l0 a1).f2) ((rd_T46 l0 a1).f3) ((rd_T46 l0 a1).f4))) else (if a3 = true then ((racewayref25_Valid.f k ((rd_T46 l0 a1).f3)).bind fun t296 => (racewayref25_may.j0 k l0 a1 a2 a4 (!t296) ((rd_T46 l0 a1).f0) ((rd_T46 l0 a1).f1) ((rd_T46 l0 a1).f2) ((rd_T46 l0 a1).f3) ((rd_T46 l0 a1).f4))) else (racewayref25_may.j0 k l0 a1 a2 a4 true ((rd_T46 l0 a1).f0) ((rd_T46 l0 a1).f1) ((rd_T46 l0 a1).f2) ((rd_T46 l0 a1).f3) ((rd_T46 l0 a1).f4)))))))))) else (none)) else (none)) = some r:=h
 clear h
 by_cases c6 : 0 ≤ a1
 ·rw [if_pos c6] at H
  have c6b0 : decide (0 ≤ a1) = true:=decide_eq_true c6
  clear c6
  by_cases c7 : a1 < (l0.length : Int)
  ·rw [if_pos c7] at H
   have c7b0 : decide (a1 < (l0.length : Int)) = true:=decide_eq_true c7
   clear c7
   have HC8:=Aside0.mk H
   clear H
   have p291 : 0 ≤ (a1 : Int):=of_decide_eq_true (by first|(with_reducible assumption)|assumption)
   have q291 : a1 < (l0.length : Int):=of_decide_eq_true (by first|(with_reducible assumption)|assumption)
   obtain ⟨ad291,e291,hx291_0,hx291_1,hx291_2,hx291_3,hx291_4⟩:=at_T46 HR0.out a1 p291 q291
   cases e291
   replace p291:=eq_true p291
   replace q291:=eq_true q291
   go_enter Tryd.func41,Tryd.ntmps41
   go_upto_region 2 with (first|((with_reducible refine gate_dst (N:=11) rfl ?_);(try (refine gate_guard (by rfl) ?_;dsimp only));refine box_event ?hg (N:=11) ?hd (cs:=#[.int .i64 0,.int .i64 0,.int .i64 0,.string (⟨#[]⟩ : ByteArray),.string (⟨#[]⟩ : ByteArray)]) (t:=46) ?hr ?_;(case hd => rfl);(case hg => rfl);(case hr => first|(go_simp;done)|(go_simp;rfl));intro gb292 hg w9 hbox hb;have n0_:=Aside0.mk (below_step (by repeat (first|(with_reducible first|exact HB.out|apply below_alloc|apply pw_below_drewN|apply below_drew1)|exact HB.out)) hb);have n1_:=Aside0.mk (hbox);have n2_:=Aside0.mk ((by rw [hg];exact (below_size (by repeat (first|(with_reducible first|exact HB.out|apply below_alloc|apply pw_below_drewN|apply below_drew1)|exact HB.out))) : w.heap.size ≤ gb292));have n3_:=Aside0.mk ((by rw [hg];exact (below_size (by repeat (first|(with_reducible first|exact HB.out|apply below_alloc|apply pw_below_drewN|apply below_drew1)|exact HB.out))) : w.heap.size ≤ gb292));clear HB;have HB:=n0_;have BK292:=n1_;have GW292:=n2_;have GE292:=n3_;clear n0_ n1_ n2_ n3_;clear hb hbox hg;have hcz10_0 : w9.cell? ⟨gb292,0,none⟩ = some (.int .i64 0):=(blk_cell BK292.out 0).trans rfl;have hcz10_1 : w9.cell? ⟨gb292,1,none⟩ = some (.int .i64 0):=(blk_cell BK292.out 1).trans rfl;have hcz10_2 : w9.cell? ⟨gb292,2,none⟩ = some (.int .i64 0):=(blk_cell BK292.out 2).trans rfl;have hcz10_3 : w9.cell? ⟨gb292,3,none⟩ = some (.string (⟨#[]⟩ : ByteArray)):=(blk_cell BK292.out 3).trans rfl;have hcz10_4 : w9.cell? ⟨gb292,4,none⟩ = some (.string (⟨#[]⟩ : ByteArray)):=(blk_cell BK292.out 4).trans rfl;have hfz10_0:=blk_frozen BK292.out 0;have hfz10_1:=blk_frozen BK292.out 1;have hfz10_2:=blk_frozen BK292.out 2;have hfz10_3:=blk_frozen BK292.out 3;have hfz10_4:=blk_frozen BK292.out 4))
   (try simp only [Act.put,List.setIfInBounds_toArray,List.set_cons_zero,List.set_cons_succ])
   go_cut [65] (fun v65 wc => ∃ (kq : Nat) (x65_7 : Bool),v65 = .bool x65_7 ∧ Aside0 (racewayref25_may.j0 kq l0 a1 a2 a4 x65_7 ((rd_T46 l0 a1).f0) ((rd_T46 l0 a1).f1) ((rd_T46 l0 a1).f2) ((rd_T46 l0 a1).f3) ((rd_T46 l0 a1).f4) = some r) ∧ Aside0 (kq ≤ k) ∧ Aside0 (wc.heap[gb292]? = some (.cells #[.int .i64 ((rd_T46 l0 a1).f0),.int .i64 ((rd_T46 l0 a1).f1),.int .i64 ((rd_T46 l0 a1).f2),.string ((rd_T46 l0 a1).f3),.string ((rd_T46 l0 a1).f4)] 46 (0,0))) ∧ Aside0 (Below w.heap.size w wc))
   case first =>
    have H:=HC8.out
    clear HC8
    by_cases c11 : a1 ≥ a2
    ·rw [if_pos c11] at H
     have c11b0 : decide (a2 ≤ a1) = true:=decide_eq_true c11
     clear c11
     (first|rw [c11b0]|(simp only [i64_w,i32_w];rw [c11b0])|skip)
     have H':=Aside0.mk H
     clear H
     go_wp2
     go_meet
     case rel => exact ⟨_,(true),(by first|rfl|(simp;done)|(simp;decide +kernel)|(simp [*];done)),(by first|exact H'|(subst_vars;exact H')),⟨by first|omega|exact Nat.le_refl _⟩,⟨by (with_reducible repeat (first|refine blk_drewN ?_ _|refine blk_drew ?_|refine blk_alloc ?_ _));refine blk_put (cs:=#[.int .i64 ((rd_T46 l0 a1).f0),.int .i64 ((rd_T46 l0 a1).f1),.int .i64 ((rd_T46 l0 a1).f2),.string ((rd_T46 l0 a1).f3),.string (⟨#[]⟩ : ByteArray)]) ?_ 4 _ rfl;(with_reducible repeat (first|refine blk_drewN ?_ _|refine blk_drew ?_|refine blk_alloc ?_ _));refine blk_put (cs:=#[.int .i64 ((rd_T46 l0 a1).f0),.int .i64 ((rd_T46 l0 a1).f1),.int .i64 ((rd_T46 l0 a1).f2),.string (⟨#[]⟩ : ByteArray),.string (⟨#[]⟩ : ByteArray)]) ?_ 3 _ rfl;(with_reducible repeat (first|refine blk_drewN ?_ _|refine blk_drew ?_|refine blk_alloc ?_ _));refine blk_put (cs:=#[.int .i64 ((rd_T46 l0 a1).f0),.int .i64 ((rd_T46 l0 a1).f1),.int .i64 0,.string (⟨#[]⟩ : ByteArray),.string (⟨#[]⟩ : ByteArray)]) ?_ 2 _ rfl;(with_reducible repeat (first|refine blk_drewN ?_ _|refine blk_drew ?_|refine blk_alloc ?_ _));refine blk_put (cs:=#[.int .i64 ((rd_T46 l0 a1).f0),.int .i64 0,.int .i64 0,.string (⟨#[]⟩ : ByteArray),.string (⟨#[]⟩ : ByteArray)]) ?_ 1 _ rfl;(with_reducible repeat (first|refine blk_drewN ?_ _|refine blk_drew ?_|refine blk_alloc ?_ _));refine blk_put (cs:=#[.int .i64 0,.int .i64 0,.int .i64 0,.string (⟨#[]⟩ : ByteArray),.string (⟨#[]⟩ : ByteArray)]) ?_ 0 _ rfl;(with_reducible repeat (first|refine blk_drewN ?_ _|refine blk_drew ?_|refine blk_alloc ?_ _));exact BK292.out⟩,⟨by repeat (first|(with_reducible first|exact HB.out|apply below_alloc|apply pw_below_drewN|apply below_drew1|refine below_set ?_ GE292.out)|exact HB.out)⟩⟩
    ·rw [if_neg c11] at H
     have c11b0 : decide (a2 ≤ a1) = false:=decide_eq_false c11
     clear c11
     (first|rw [c11b0]|(simp only [i64_w,i32_w];rw [c11b0])|skip)
     by_cases c12 : ((rd_T46 l0 a1).f0) < 1
     ·rw [if_pos c12] at H
      have c12b0 : decide (((rd_T46 l0 a1).f0) < 1) = true:=decide_eq_true c12
      clear c12
      have H':=Aside0.mk H
      clear H
      have hcz13_0 : w9.cell? ⟨gb292,0,none⟩ = some (.int .i64 0):=(blk_cell BK292.out 0).trans rfl
      have hcz13_1 : w9.cell? ⟨gb292,1,none⟩ = some (.int .i64 0):=(blk_cell BK292.out 1).trans rfl
      have hcz13_2 : w9.cell? ⟨gb292,2,none⟩ = some (.int .i64 0):=(blk_cell BK292.out 2).trans rfl
      have hcz13_3 : w9.cell? ⟨gb292,3,none⟩ = some (.string (⟨#[]⟩ : ByteArray)):=(blk_cell BK292.out 3).trans rfl
      have hcz13_4 : w9.cell? ⟨gb292,4,none⟩ = some (.string (⟨#[]⟩ : ByteArray)):=(blk_cell BK292.out 4).trans rfl
      have hfz13_0:=blk_frozen BK292.out 0
      have hfz13_1:=blk_frozen BK292.out 1
      have hfz13_2:=blk_frozen BK292.out 2
      have hfz13_3:=blk_frozen BK292.out 3
      have hfz13_4:=blk_frozen BK292.out 4
      go_wp2
      go_meet
      case rel => exact ⟨_,(true),(by first|rfl|(simp;done)|(simp;decide +kernel)|(simp [*];done)),(by first|exact H'|(subst_vars;exact H')),⟨by first|omega|exact Nat.le_refl _⟩,⟨by (with_reducible repeat (first|refine blk_drewN ?_ _|refine blk_drew ?_|refine blk_alloc ?_ _));refine blk_put (cs:=#[.int .i64 ((rd_T46 l0 a1).f0),.int .i64 ((rd_T46 l0 a1).f1),.int .i64 ((rd_T46 l0 a1).f2),.string ((rd_T46 l0 a1).f3),.string (⟨#[]⟩ : ByteArray)]) ?_ 4 _ rfl;(with_reducible repeat (first|refine blk_drewN ?_ _|refine blk_drew ?_|refine blk_alloc ?_ _));refine blk_put (cs:=#[.int .i64 ((rd_T46 l0 a1).f0),.int .i64 ((rd_T46 l0 a1).f1),.int .i64 ((rd_T46 l0 a1).f2),.string (⟨#[]⟩ : ByteArray),.string (⟨#[]⟩ : ByteArray)]) ?_ 3 _ rfl;(with_reducible repeat (first|refine blk_drewN ?_ _|refine blk_drew ?_|refine blk_alloc ?_ _));refine blk_put (cs:=#[.int .i64 ((rd_T46 l0 a1).f0),.int .i64 ((rd_T46 l0 a1).f1),.int .i64 0,.string (⟨#[]⟩ : ByteArray),.string (⟨#[]⟩ : ByteArray)]) ?_ 2 _ rfl;(with_reducible repeat (first|refine blk_drewN ?_ _|refine blk_drew ?_|refine blk_alloc ?_ _));refine blk_put (cs:=#[.int .i64 ((rd_T46 l0 a1).f0),.int .i64 0,.int .i64 0,.string (⟨#[]⟩ : ByteArray),.string (⟨#[]⟩ : ByteArray)]) ?_ 1 _ rfl;(with_reducible repeat (first|refine blk_drewN ?_ _|refine blk_drew ?_|refine blk_alloc ?_ _));refine blk_put (cs:=#[.int .i64 0,.int .i64 0,.int .i64 0,.string (⟨#[]⟩ : ByteArray),.string (⟨#[]⟩ : ByteArray)]) ?_ 0 _ rfl;(with_reducible repeat (first|refine blk_drewN ?_ _|refine blk_drew ?_|refine blk_alloc ?_ _));exact BK292.out⟩,⟨by repeat (first|(with_reducible first|exact HB.out|apply below_alloc|apply pw_below_drewN|apply below_drew1|refine below_set ?_ GE292.out)|exact HB.out)⟩⟩
     ·rw [if_neg c12] at H
      have c12b0 : decide (((rd_T46 l0 a1).f0) < 1) = false:=decide_eq_false c12
      clear c12
      by_cases c14 : ((rd_T46 l0 a1).f0) > 7
      ·rw [if_pos c14] at H
       have c14b0 : decide (7 < ((rd_T46 l0 a1).f0)) = true:=decide_eq_true c14
       clear c14
       have H':=Aside0.mk H
       clear H
       have hcz15_0 : w9.cell? ⟨gb292,0,none⟩ = some (.int .i64 0):=(blk_cell BK292.out 0).trans rfl
       have hcz15_1 : w9.cell? ⟨gb292,1,none⟩ = some (.int .i64 0):=(blk_cell BK292.out 1).trans rfl
       have hcz15_2 : w9.cell? ⟨gb292,2,none⟩ = some (.int .i64 0):=(blk_cell BK292.out 2).trans rfl
       have hcz15_3 : w9.cell? ⟨gb292,3,none⟩ = some (.string (⟨#[]⟩ : ByteArray)):=(blk_cell BK292.out 3).trans rfl
       have hcz15_4 : w9.cell? ⟨gb292,4,none⟩ = some (.string (⟨#[]⟩ : ByteArray)):=(blk_cell BK292.out 4).trans rfl
       have hfz15_0:=blk_frozen BK292.out 0
       have hfz15_1:=blk_frozen BK292.out 1
       have hfz15_2:=blk_frozen BK292.out 2
       have hfz15_3:=blk_frozen BK292.out 3
       have hfz15_4:=blk_frozen BK292.out 4
       go_wp2
       go_meet
       case rel => exact ⟨_,(true),(by first|rfl|(simp;done)|(simp;decide +kernel)|(simp [*];done)),(by first|exact H'|(subst_vars;exact H')),⟨by first|omega|exact Nat.le_refl _⟩,⟨by (with_reducible repeat (first|refine blk_drewN ?_ _|refine blk_drew ?_|refine blk_alloc ?_ _));refine blk_put (cs:=#[.int .i64 ((rd_T46 l0 a1).f0),.int .i64 ((rd_T46 l0 a1).f1),.int .i64 ((rd_T46 l0 a1).f2),.string ((rd_T46 l0 a1).f3),.string (⟨#[]⟩ : ByteArray)]) ?_ 4 _ rfl;(with_reducible repeat (first|refine blk_drewN ?_ _|refine blk_drew ?_|refine blk_alloc ?_ _));refine blk_put (cs:=#[.int .i64 ((rd_T46 l0 a1).f0),.int .i64 ((rd_T46 l0 a1).f1),.int .i64 ((rd_T46 l0 a1).f2),.string (⟨#[]⟩ : ByteArray),.string (⟨#[]⟩ : ByteArray)]) ?_ 3 _ rfl;(with_reducible repeat (first|refine blk_drewN ?_ _|refine blk_drew ?_|refine blk_alloc ?_ _));refine blk_put (cs:=#[.int .i64 ((rd_T46 l0 a1).f0),.int .i64 ((rd_T46 l0 a1).f1),.int .i64 0,.string (⟨#[]⟩ : ByteArray),.string (⟨#[]⟩ : ByteArray)]) ?_ 2 _ rfl;(with_reducible repeat (first|refine blk_drewN ?_ _|refine blk_drew ?_|refine blk_alloc ?_ _));refine blk_put (cs:=#[.int .i64 ((rd_T46 l0 a1).f0),.int .i64 0,.int .i64 0,.string (⟨#[]⟩ : ByteArray),.string (⟨#[]⟩ : ByteArray)]) ?_ 1 _ rfl;(with_reducible repeat (first|refine blk_drewN ?_ _|refine blk_drew ?_|refine blk_alloc ?_ _));refine blk_put (cs:=#[.int .i64 0,.int .i64 0,.int .i64 0,.string (⟨#[]⟩ : ByteArray),.string (⟨#[]⟩ : ByteArray)]) ?_ 0 _ rfl;(with_reducible repeat (first|refine blk_drewN ?_ _|refine blk_drew ?_|refine blk_alloc ?_ _));exact BK292.out⟩,⟨by repeat (first|(with_reducible first|exact HB.out|apply below_alloc|apply pw_below_drewN|apply below_drew1|refine below_set ?_ GE292.out)|exact HB.out)⟩⟩
      ·rw [if_neg c14] at H
       have c14b0 : decide (7 < ((rd_T46 l0 a1).f0)) = false:=decide_eq_false c14
       clear c14
       by_cases c16 : ((rd_T46 l0 a1).f2) < 0
       ·rw [if_pos c16] at H
        have c16b0 : decide (((rd_T46 l0 a1).f2) < 0) = true:=decide_eq_true c16
        clear c16
        have H':=Aside0.mk H
        clear H
        have hcz17_0 : w9.cell? ⟨gb292,0,none⟩ = some (.int .i64 0):=(blk_cell BK292.out 0).trans rfl
        have hcz17_1 : w9.cell? ⟨gb292,1,none⟩ = some (.int .i64 0):=(blk_cell BK292.out 1).trans rfl
        have hcz17_2 : w9.cell? ⟨gb292,2,none⟩ = some (.int .i64 0):=(blk_cell BK292.out 2).trans rfl
        have hcz17_3 : w9.cell? ⟨gb292,3,none⟩ = some (.string (⟨#[]⟩ : ByteArray)):=(blk_cell BK292.out 3).trans rfl
        have hcz17_4 : w9.cell? ⟨gb292,4,none⟩ = some (.string (⟨#[]⟩ : ByteArray)):=(blk_cell BK292.out 4).trans rfl
        have hfz17_0:=blk_frozen BK292.out 0
        have hfz17_1:=blk_frozen BK292.out 1
        have hfz17_2:=blk_frozen BK292.out 2
        have hfz17_3:=blk_frozen BK292.out 3
        have hfz17_4:=blk_frozen BK292.out 4
        go_wp2
        go_meet
        case rel => exact ⟨_,(true),(by first|rfl|(simp;done)|(simp;decide +kernel)|(simp [*];done)),(by first|exact H'|(subst_vars;exact H')),⟨by first|omega|exact Nat.le_refl _⟩,⟨by (with_reducible repeat (first|refine blk_drewN ?_ _|refine blk_drew ?_|refine blk_alloc ?_ _));refine blk_put (cs:=#[.int .i64 ((rd_T46 l0 a1).f0),.int .i64 ((rd_T46 l0 a1).f1),.int .i64 ((rd_T46 l0 a1).f2),.string ((rd_T46 l0 a1).f3),.string (⟨#[]⟩ : ByteArray)]) ?_ 4 _ rfl;(with_reducible repeat (first|refine blk_drewN ?_ _|refine blk_drew ?_|refine blk_alloc ?_ _));refine blk_put (cs:=#[.int .i64 ((rd_T46 l0 a1).f0),.int .i64 ((rd_T46 l0 a1).f1),.int .i64 ((rd_T46 l0 a1).f2),.string (⟨#[]⟩ : ByteArray),.string (⟨#[]⟩ : ByteArray)]) ?_ 3 _ rfl;(with_reducible repeat (first|refine blk_drewN ?_ _|refine blk_drew ?_|refine blk_alloc ?_ _));refine blk_put (cs:=#[.int .i64 ((rd_T46 l0 a1).f0),.int .i64 ((rd_T46 l0 a1).f1),.int .i64 0,.string (⟨#[]⟩ : ByteArray),.string (⟨#[]⟩ : ByteArray)]) ?_ 2 _ rfl;(with_reducible repeat (first|refine blk_drewN ?_ _|refine blk_drew ?_|refine blk_alloc ?_ _));refine blk_put (cs:=#[.int .i64 ((rd_T46 l0 a1).f0),.int .i64 0,.int .i64 0,.string (⟨#[]⟩ : ByteArray),.string (⟨#[]⟩ : ByteArray)]) ?_ 1 _ rfl;(with_reducible repeat (first|refine blk_drewN ?_ _|refine blk_drew ?_|refine blk_alloc ?_ _));refine blk_put (cs:=#[.int .i64 0,.int .i64 0,.int .i64 0,.string (⟨#[]⟩ : ByteArray),.string (⟨#[]⟩ : ByteArray)]) ?_ 0 _ rfl;(with_reducible repeat (first|refine blk_drewN ?_ _|refine blk_drew ?_|refine blk_alloc ?_ _));exact BK292.out⟩,⟨by repeat (first|(with_reducible first|exact HB.out|apply below_alloc|apply pw_below_drewN|apply below_drew1|refine below_set ?_ GE292.out)|exact HB.out)⟩⟩
       ·rw [if_neg c16] at H
        have c16b0 : decide (((rd_T46 l0 a1).f2) < 0) = false:=decide_eq_false c16
        clear c16
        by_cases c18 : a4 ≥ 32
        ·rw [if_pos c18] at H
         have c18b0 : decide (32 ≤ a4) = true:=decide_eq_true c18
         clear c18
         have H':=Aside0.mk H
         clear H
         have hcz19_0 : w9.cell? ⟨gb292,0,none⟩ = some (.int .i64 0):=(blk_cell BK292.out 0).trans rfl
         have hcz19_1 : w9.cell? ⟨gb292,1,none⟩ = some (.int .i64 0):=(blk_cell BK292.out 1).trans rfl
         have hcz19_2 : w9.cell? ⟨gb292,2,none⟩ = some (.int .i64 0):=(blk_cell BK292.out 2).trans rfl
         have hcz19_3 : w9.cell? ⟨gb292,3,none⟩ = some (.string (⟨#[]⟩ : ByteArray)):=(blk_cell BK292.out 3).trans rfl
         have hcz19_4 : w9.cell? ⟨gb292,4,none⟩ = some (.string (⟨#[]⟩ : ByteArray)):=(blk_cell BK292.out 4).trans rfl
         have hfz19_0:=blk_frozen BK292.out 0
         have hfz19_1:=blk_frozen BK292.out 1
         have hfz19_2:=blk_frozen BK292.out 2
         have hfz19_3:=blk_frozen BK292.out 3
         have hfz19_4:=blk_frozen BK292.out 4
         go_wp2
         go_meet
         case rel => exact ⟨_,(true),(by first|rfl|(simp;done)|(simp;decide +kernel)|(simp [*];done)),(by first|exact H'|(subst_vars;exact H')),⟨by first|omega|exact Nat.le_refl _⟩,⟨by (with_reducible repeat (first|refine blk_drewN ?_ _|refine blk_drew ?_|refine blk_alloc ?_ _));refine blk_put (cs:=#[.int .i64 ((rd_T46 l0 a1).f0),.int .i64 ((rd_T46 l0 a1).f1),.int .i64 ((rd_T46 l0 a1).f2),.string ((rd_T46 l0 a1).f3),.string (⟨#[]⟩ : ByteArray)]) ?_ 4 _ rfl;(with_reducible repeat (first|refine blk_drewN ?_ _|refine blk_drew ?_|refine blk_alloc ?_ _));refine blk_put (cs:=#[.int .i64 ((rd_T46 l0 a1).f0),.int .i64 ((rd_T46 l0 a1).f1),.int .i64 ((rd_T46 l0 a1).f2),.string (⟨#[]⟩ : ByteArray),.string (⟨#[]⟩ : ByteArray)]) ?_ 3 _ rfl;(with_reducible repeat (first|refine blk_drewN ?_ _|refine blk_drew ?_|refine blk_alloc ?_ _));refine blk_put (cs:=#[.int .i64 ((rd_T46 l0 a1).f0),.int .i64 ((rd_T46 l0 a1).f1),.int .i64 0,.string (⟨#[]⟩ : ByteArray),.string (⟨#[]⟩ : ByteArray)]) ?_ 2 _ rfl;(with_reducible repeat (first|refine blk_drewN ?_ _|refine blk_drew ?_|refine blk_alloc ?_ _));refine blk_put (cs:=#[.int .i64 ((rd_T46 l0 a1).f0),.int .i64 0,.int .i64 0,.string (⟨#[]⟩ : ByteArray),.string (⟨#[]⟩ : ByteArray)]) ?_ 1 _ rfl;(with_reducible repeat (first|refine blk_drewN ?_ _|refine blk_drew ?_|refine blk_alloc ?_ _));refine blk_put (cs:=#[.int .i64 0,.int .i64 0,.int .i64 0,.string (⟨#[]⟩ : ByteArray),.string (⟨#[]⟩ : ByteArray)]) ?_ 0 _ rfl;(with_reducible repeat (first|refine blk_drewN ?_ _|refine blk_drew ?_|refine blk_alloc ?_ _));exact BK292.out⟩,⟨by repeat (first|(with_reducible first|exact HB.out|apply below_alloc|apply pw_below_drewN|apply below_drew1|refine below_set ?_ GE292.out)|exact HB.out)⟩⟩
        ·rw [if_neg c18] at H
         have c18b0 : decide (32 ≤ a4) = false:=decide_eq_false c18
         clear c18
         by_cases c20 : ((rd_T46 l0 a1).f2) > 0
         ·rw [if_pos c20] at H
          have c20b0 : decide (0 < ((rd_T46 l0 a1).f2)) = true:=decide_eq_true c20
          clear c20
          by_cases c21 : ((rd_T46 l0 a1).f0) < 6
          ·rw [if_pos c21] at H
           have c21b0 : decide (((rd_T46 l0 a1).f0) < 6) = true:=decide_eq_true c21
           clear c21
           have H':=Aside0.mk H
           clear H
           have hcz22_0 : w9.cell? ⟨gb292,0,none⟩ = some (.int .i64 0):=(blk_cell BK292.out 0).trans rfl
           have hcz22_1 : w9.cell? ⟨gb292,1,none⟩ = some (.int .i64 0):=(blk_cell BK292.out 1).trans rfl
           have hcz22_2 : w9.cell? ⟨gb292,2,none⟩ = some (.int .i64 0):=(blk_cell BK292.out 2).trans rfl
           have hcz22_3 : w9.cell? ⟨gb292,3,none⟩ = some (.string (⟨#[]⟩ : ByteArray)):=(blk_cell BK292.out 3).trans rfl
           have hcz22_4 : w9.cell? ⟨gb292,4,none⟩ = some (.string (⟨#[]⟩ : ByteArray)):=(blk_cell BK292.out 4).trans rfl
           have hfz22_0:=blk_frozen BK292.out 0
           have hfz22_1:=blk_frozen BK292.out 1
           have hfz22_2:=blk_frozen BK292.out 2
           have hfz22_3:=blk_frozen BK292.out 3
           have hfz22_4:=blk_frozen BK292.out 4
           go_wp2
           go_meet
           case rel => exact ⟨_,(true),(by first|rfl|(simp;done)|(simp;decide +kernel)|(simp [*];done)),(by first|exact H'|(subst_vars;exact H')),⟨by first|omega|exact Nat.le_refl _⟩,⟨by (with_reducible repeat (first|refine blk_drewN ?_ _|refine blk_drew ?_|refine blk_alloc ?_ _));refine blk_put (cs:=#[.int .i64 ((rd_T46 l0 a1).f0),.int .i64 ((rd_T46 l0 a1).f1),.int .i64 ((rd_T46 l0 a1).f2),.string ((rd_T46 l0 a1).f3),.string (⟨#[]⟩ : ByteArray)]) ?_ 4 _ rfl;(with_reducible repeat (first|refine blk_drewN ?_ _|refine blk_drew ?_|refine blk_alloc ?_ _));refine blk_put (cs:=#[.int .i64 ((rd_T46 l0 a1).f0),.int .i64 ((rd_T46 l0 a1).f1),.int .i64 ((rd_T46 l0 a1).f2),.string (⟨#[]⟩ : ByteArray),.string (⟨#[]⟩ : ByteArray)]) ?_ 3 _ rfl;(with_reducible repeat (first|refine blk_drewN ?_ _|refine blk_drew ?_|refine blk_alloc ?_ _));refine blk_put (cs:=#[.int .i64 ((rd_T46 l0 a1).f0),.int .i64 ((rd_T46 l0 a1).f1),.int .i64 0,.string (⟨#[]⟩ : ByteArray),.string (⟨#[]⟩ : ByteArray)]) ?_ 2 _ rfl;(with_reducible repeat (first|refine blk_drewN ?_ _|refine blk_drew ?_|refine blk_alloc ?_ _));refine blk_put (cs:=#[.int .i64 ((rd_T46 l0 a1).f0),.int .i64 0,.int .i64 0,.string (⟨#[]⟩ : ByteArray),.string (⟨#[]⟩ : ByteArray)]) ?_ 1 _ rfl;(with_reducible repeat (first|refine blk_drewN ?_ _|refine blk_drew ?_|refine blk_alloc ?_ _));refine blk_put (cs:=#[.int .i64 0,.int .i64 0,.int .i64 0,.string (⟨#[]⟩ : ByteArray),.string (⟨#[]⟩ : ByteArray)]) ?_ 0 _ rfl;(with_reducible repeat (first|refine blk_drewN ?_ _|refine blk_drew ?_|refine blk_alloc ?_ _));exact BK292.out⟩,⟨by repeat (first|(with_reducible first|exact HB.out|apply below_alloc|apply pw_below_drewN|apply below_drew1|refine below_set ?_ GE292.out)|exact HB.out)⟩⟩
          ·rw [if_neg c21] at H
           have c21b0 : decide (((rd_T46 l0 a1).f0) < 6) = false:=decide_eq_false c21
           clear c21
           by_cases c23 : ((rd_T46 l0 a1).f3).toList = ([] : List UInt8)
           ·rw [if_pos c23] at H
            have c23b0 : (((rd_T46 l0 a1).f3).toList == ([] : List UInt8)) = true:=beq_iff_eq.mpr c23
            have c23b1 : (((rd_T46 l0 a1).f3).toList != ([] : List UInt8)) = false:=bne_eq_false_iff_eq.mpr c23
            clear c23
            replace H:=Option.bind_eq_some_iff.mp H
            obtain ⟨t293,A240,H⟩:=H
            replace H : (racewayref25_may.j0 k l0 a1 a2 a4 (!t293) ((rd_T46 l0 a1).f0) ((rd_T46 l0 a1).f1) ((rd_T46 l0 a1).f2) ((rd_T46 l0 a1).f3) ((rd_T46 l0 a1).f4)) = some r:=H
            have A24:=Aside0.mk A240
            clear A240
            have H':=Aside0.mk H
            clear H
            have hcz25_0 : w9.cell? ⟨gb292,0,none⟩ = some (.int .i64 0):=(blk_cell BK292.out 0).trans rfl
            have hcz25_1 : w9.cell? ⟨gb292,1,none⟩ = some (.int .i64 0):=(blk_cell BK292.out 1).trans rfl
            have hcz25_2 : w9.cell? ⟨gb292,2,none⟩ = some (.int .i64 0):=(blk_cell BK292.out 2).trans rfl
            have hcz25_3 : w9.cell? ⟨gb292,3,none⟩ = some (.string (⟨#[]⟩ : ByteArray)):=(blk_cell BK292.out 3).trans rfl
            have hcz25_4 : w9.cell? ⟨gb292,4,none⟩ = some (.string (⟨#[]⟩ : ByteArray)):=(blk_cell BK292.out 4).trans rfl
            have hfz25_0:=blk_frozen BK292.out 0
            have hfz25_1:=blk_frozen BK292.out 1
            have hfz25_2:=blk_frozen BK292.out 2
            have hfz25_3:=blk_frozen BK292.out 3
            have hfz25_4:=blk_frozen BK292.out 4
            go_wp2_with (first|(go_at_call 30;(with_reducible refine (racewayref25_Valid.calls k ((rd_T46 l0 a1).f3) t293 _ A24.out).mono ?_);rintro e w' ⟨rfl,⟨nd,rfl⟩⟩))
            go_meet
            case rel => exact ⟨_,(!t293),(by first|rfl|(simp;done)|(simp;decide +kernel)|(simp [*];done)),(by first|exact H'|(subst_vars;exact H')),⟨by first|omega|exact Nat.le_refl _⟩,⟨by (with_reducible repeat (first|refine blk_drewN ?_ _|refine blk_drew ?_|refine blk_alloc ?_ _));refine blk_put (cs:=#[.int .i64 ((rd_T46 l0 a1).f0),.int .i64 ((rd_T46 l0 a1).f1),.int .i64 ((rd_T46 l0 a1).f2),.string ((rd_T46 l0 a1).f3),.string (⟨#[]⟩ : ByteArray)]) ?_ 4 _ rfl;(with_reducible repeat (first|refine blk_drewN ?_ _|refine blk_drew ?_|refine blk_alloc ?_ _));refine blk_put (cs:=#[.int .i64 ((rd_T46 l0 a1).f0),.int .i64 ((rd_T46 l0 a1).f1),.int .i64 ((rd_T46 l0 a1).f2),.string (⟨#[]⟩ : ByteArray),.string (⟨#[]⟩ : ByteArray)]) ?_ 3 _ rfl;(with_reducible repeat (first|refine blk_drewN ?_ _|refine blk_drew ?_|refine blk_alloc ?_ _));refine blk_put (cs:=#[.int .i64 ((rd_T46 l0 a1).f0),.int .i64 ((rd_T46 l0 a1).f1),.int .i64 0,.string (⟨#[]⟩ : ByteArray),.string (⟨#[]⟩ : ByteArray)]) ?_ 2 _ rfl;(with_reducible repeat (first|refine blk_drewN ?_ _|refine blk_drew ?_|refine blk_alloc ?_ _));refine blk_put (cs:=#[.int .i64 ((rd_T46 l0 a1).f0),.int .i64 0,.int .i64 0,.string (⟨#[]⟩ : ByteArray),.string (⟨#[]⟩ : ByteArray)]) ?_ 1 _ rfl;(with_reducible repeat (first|refine blk_drewN ?_ _|refine blk_drew ?_|refine blk_alloc ?_ _));refine blk_put (cs:=#[.int .i64 0,.int .i64 0,.int .i64 0,.string (⟨#[]⟩ : ByteArray),.string (⟨#[]⟩ : ByteArray)]) ?_ 0 _ rfl;(with_reducible repeat (first|refine blk_drewN ?_ _|refine blk_drew ?_|refine blk_alloc ?_ _));exact BK292.out⟩,⟨by repeat (first|(with_reducible first|exact HB.out|apply below_alloc|apply pw_below_drewN|apply below_drew1|refine below_set ?_ GE292.out)|exact HB.out)⟩⟩
           ·rw [if_neg c23] at H
            have c23b0 : (((rd_T46 l0 a1).f3).toList == ([] : List UInt8)) = false:=beq_eq_false_iff_ne.mpr c23
            have c23b1 : (((rd_T46 l0 a1).f3).toList != ([] : List UInt8)) = true:=bne_iff_ne.mpr c23
            by_cases c26 : a3 = true
            ·subst c26
             have H1 : ((racewayref25_Valid.f k ((rd_T46 l0 a1).f3)).bind fun t294 => (racewayref25_may.j0 k l0 a1 a2 a4 (!t294) ((rd_T46 l0 a1).f0) ((rd_T46 l0 a1).f1) ((rd_T46 l0 a1).f2) ((rd_T46 l0 a1).f3) ((rd_T46 l0 a1).f4))) = some r:=by rw [if_pos rfl] at H;exact H
             clear H
             have H:=H1
             clear H1
             replace H:=Option.bind_eq_some_iff.mp H
             obtain ⟨t294,A270,H⟩:=H
             replace H : (racewayref25_may.j0 k l0 a1 a2 a4 (!t294) ((rd_T46 l0 a1).f0) ((rd_T46 l0 a1).f1) ((rd_T46 l0 a1).f2) ((rd_T46 l0 a1).f3) ((rd_T46 l0 a1).f4)) = some r:=H
             have A27:=Aside0.mk A270
             clear A270
             have H':=Aside0.mk H
             clear H
             have hcz28_0 : w9.cell? ⟨gb292,0,none⟩ = some (.int .i64 0):=(blk_cell BK292.out 0).trans rfl
             have hcz28_1 : w9.cell? ⟨gb292,1,none⟩ = some (.int .i64 0):=(blk_cell BK292.out 1).trans rfl
             have hcz28_2 : w9.cell? ⟨gb292,2,none⟩ = some (.int .i64 0):=(blk_cell BK292.out 2).trans rfl
             have hcz28_3 : w9.cell? ⟨gb292,3,none⟩ = some (.string (⟨#[]⟩ : ByteArray)):=(blk_cell BK292.out 3).trans rfl
             have hcz28_4 : w9.cell? ⟨gb292,4,none⟩ = some (.string (⟨#[]⟩ : ByteArray)):=(blk_cell BK292.out 4).trans rfl
             have hfz28_0:=blk_frozen BK292.out 0
             have hfz28_1:=blk_frozen BK292.out 1
             have hfz28_2:=blk_frozen BK292.out 2
             have hfz28_3:=blk_frozen BK292.out 3
             have hfz28_4:=blk_frozen BK292.out 4
             go_wp2_with (first|(go_at_call 30;(with_reducible refine (racewayref25_Valid.calls k ((rd_T46 l0 a1).f3) t294 _ A27.out).mono ?_);rintro e w' ⟨rfl,⟨nd,rfl⟩⟩))
             go_meet
             case rel => exact ⟨_,(!t294),(by first|rfl|(simp;done)|(simp;decide +kernel)|(simp [*];done)),(by first|exact H'|(subst_vars;exact H')),⟨by first|omega|exact Nat.le_refl _⟩,⟨by (with_reducible repeat (first|refine blk_drewN ?_ _|refine blk_drew ?_|refine blk_alloc ?_ _));refine blk_put (cs:=#[.int .i64 ((rd_T46 l0 a1).f0),.int .i64 ((rd_T46 l0 a1).f1),.int .i64 ((rd_T46 l0 a1).f2),.string ((rd_T46 l0 a1).f3),.string (⟨#[]⟩ : ByteArray)]) ?_ 4 _ rfl;(with_reducible repeat (first|refine blk_drewN ?_ _|refine blk_drew ?_|refine blk_alloc ?_ _));refine blk_put (cs:=#[.int .i64 ((rd_T46 l0 a1).f0),.int .i64 ((rd_T46 l0 a1).f1),.int .i64 ((rd_T46 l0 a1).f2),.string (⟨#[]⟩ : ByteArray),.string (⟨#[]⟩ : ByteArray)]) ?_ 3 _ rfl;(with_reducible repeat (first|refine blk_drewN ?_ _|refine blk_drew ?_|refine blk_alloc ?_ _));refine blk_put (cs:=#[.int .i64 ((rd_T46 l0 a1).f0),.int .i64 ((rd_T46 l0 a1).f1),.int .i64 0,.string (⟨#[]⟩ : ByteArray),.string (⟨#[]⟩ : ByteArray)]) ?_ 2 _ rfl;(with_reducible repeat (first|refine blk_drewN ?_ _|refine blk_drew ?_|refine blk_alloc ?_ _));refine blk_put (cs:=#[.int .i64 ((rd_T46 l0 a1).f0),.int .i64 0,.int .i64 0,.string (⟨#[]⟩ : ByteArray),.string (⟨#[]⟩ : ByteArray)]) ?_ 1 _ rfl;(with_reducible repeat (first|refine blk_drewN ?_ _|refine blk_drew ?_|refine blk_alloc ?_ _));refine blk_put (cs:=#[.int .i64 0,.int .i64 0,.int .i64 0,.string (⟨#[]⟩ : ByteArray),.string (⟨#[]⟩ : ByteArray)]) ?_ 0 _ rfl;(with_reducible repeat (first|refine blk_drewN ?_ _|refine blk_drew ?_|refine blk_alloc ?_ _));exact BK292.out⟩,⟨by repeat (first|(with_reducible first|exact HB.out|apply below_alloc|apply pw_below_drewN|apply below_drew1|refine below_set ?_ GE292.out)|exact HB.out)⟩⟩
            ·replace c26:=Bool.eq_false_iff.mpr c26
             subst c26
             have H1 : (racewayref25_may.j0 k l0 a1 a2 a4 true ((rd_T46 l0 a1).f0) ((rd_T46 l0 a1).f1) ((rd_T46 l0 a1).f2) ((rd_T46 l0 a1).f3) ((rd_T46 l0 a1).f4)) = some r:=by rw [if_neg (show ¬ (false = true) by decide)] at H;exact H
             clear H
             have H:=H1
             clear H1
             have H':=Aside0.mk H
             clear H
             have hcz29_0 : w9.cell? ⟨gb292,0,none⟩ = some (.int .i64 0):=(blk_cell BK292.out 0).trans rfl
             have hcz29_1 : w9.cell? ⟨gb292,1,none⟩ = some (.int .i64 0):=(blk_cell BK292.out 1).trans rfl
             have hcz29_2 : w9.cell? ⟨gb292,2,none⟩ = some (.int .i64 0):=(blk_cell BK292.out 2).trans rfl
             have hcz29_3 : w9.cell? ⟨gb292,3,none⟩ = some (.string (⟨#[]⟩ : ByteArray)):=(blk_cell BK292.out 3).trans rfl
             have hcz29_4 : w9.cell? ⟨gb292,4,none⟩ = some (.string (⟨#[]⟩ : ByteArray)):=(blk_cell BK292.out 4).trans rfl
             have hfz29_0:=blk_frozen BK292.out 0
             have hfz29_1:=blk_frozen BK292.out 1
             have hfz29_2:=blk_frozen BK292.out 2
             have hfz29_3:=blk_frozen BK292.out 3
             have hfz29_4:=blk_frozen BK292.out 4
             go_wp2
             go_meet
             case rel => exact ⟨_,(true),(by first|rfl|(simp;done)|(simp;decide +kernel)|(simp [*];done)),(by first|exact H'|(subst_vars;exact H')),⟨by first|omega|exact Nat.le_refl _⟩,⟨by (with_reducible repeat (first|refine blk_drewN ?_ _|refine blk_drew ?_|refine blk_alloc ?_ _));refine blk_put (cs:=#[.int .i64 ((rd_T46 l0 a1).f0),.int .i64 ((rd_T46 l0 a1).f1),.int .i64 ((rd_T46 l0 a1).f2),.string ((rd_T46 l0 a1).f3),.string (⟨#[]⟩ : ByteArray)]) ?_ 4 _ rfl;(with_reducible repeat (first|refine blk_drewN ?_ _|refine blk_drew ?_|refine blk_alloc ?_ _));refine blk_put (cs:=#[.int .i64 ((rd_T46 l0 a1).f0),.int .i64 ((rd_T46 l0 a1).f1),.int .i64 ((rd_T46 l0 a1).f2),.string (⟨#[]⟩ : ByteArray),.string (⟨#[]⟩ : ByteArray)]) ?_ 3 _ rfl;(with_reducible repeat (first|refine blk_drewN ?_ _|refine blk_drew ?_|refine blk_alloc ?_ _));refine blk_put (cs:=#[.int .i64 ((rd_T46 l0 a1).f0),.int .i64 ((rd_T46 l0 a1).f1),.int .i64 0,.string (⟨#[]⟩ : ByteArray),.string (⟨#[]⟩ : ByteArray)]) ?_ 2 _ rfl;(with_reducible repeat (first|refine blk_drewN ?_ _|refine blk_drew ?_|refine blk_alloc ?_ _));refine blk_put (cs:=#[.int .i64 ((rd_T46 l0 a1).f0),.int .i64 0,.int .i64 0,.string (⟨#[]⟩ : ByteArray),.string (⟨#[]⟩ : ByteArray)]) ?_ 1 _ rfl;(with_reducible repeat (first|refine blk_drewN ?_ _|refine blk_drew ?_|refine blk_alloc ?_ _));refine blk_put (cs:=#[.int .i64 0,.int .i64 0,.int .i64 0,.string (⟨#[]⟩ : ByteArray),.string (⟨#[]⟩ : ByteArray)]) ?_ 0 _ rfl;(with_reducible repeat (first|refine blk_drewN ?_ _|refine blk_drew ?_|refine blk_alloc ?_ _));exact BK292.out⟩,⟨by repeat (first|(with_reducible first|exact HB.out|apply below_alloc|apply pw_below_drewN|apply below_drew1|refine below_set ?_ GE292.out)|exact HB.out)⟩⟩
         ·rw [if_neg c20] at H
          have c20b0 : decide (0 < ((rd_T46 l0 a1).f2)) = false:=decide_eq_false c20
          clear c20
          by_cases c30 : ((rd_T46 l0 a1).f3).toList = ([] : List UInt8)
          ·rw [if_pos c30] at H
           have c30b0 : (((rd_T46 l0 a1).f3).toList == ([] : List UInt8)) = true:=beq_iff_eq.mpr c30
           have c30b1 : (((rd_T46 l0 a1).f3).toList != ([] : List UInt8)) = false:=bne_eq_false_iff_eq.mpr c30
           clear c30
           replace H:=Option.bind_eq_some_iff.mp H
           obtain ⟨t295,A310,H⟩:=H
           replace H : (racewayref25_may.j0 k l0 a1 a2 a4 (!t295) ((rd_T46 l0 a1).f0) ((rd_T46 l0 a1).f1) ((rd_T46 l0 a1).f2) ((rd_T46 l0 a1).f3) ((rd_T46 l0 a1).f4)) = some r:=H
           have A31:=Aside0.mk A310
           clear A310
           have H':=Aside0.mk H
           clear H
           have hcz32_0 : w9.cell? ⟨gb292,0,none⟩ = some (.int .i64 0):=(blk_cell BK292.out 0).trans rfl
           have hcz32_1 : w9.cell? ⟨gb292,1,none⟩ = some (.int .i64 0):=(blk_cell BK292.out 1).trans rfl
           have hcz32_2 : w9.cell? ⟨gb292,2,none⟩ = some (.int .i64 0):=(blk_cell BK292.out 2).trans rfl
           have hcz32_3 : w9.cell? ⟨gb292,3,none⟩ = some (.string (⟨#[]⟩ : ByteArray)):=(blk_cell BK292.out 3).trans rfl
           have hcz32_4 : w9.cell? ⟨gb292,4,none⟩ = some (.string (⟨#[]⟩ : ByteArray)):=(blk_cell BK292.out 4).trans rfl
           have hfz32_0:=blk_frozen BK292.out 0
           have hfz32_1:=blk_frozen BK292.out 1
           have hfz32_2:=blk_frozen BK292.out 2
           have hfz32_3:=blk_frozen BK292.out 3
           have hfz32_4:=blk_frozen BK292.out 4
           go_wp2_with (first|(go_at_call 30;(with_reducible refine (racewayref25_Valid.calls k ((rd_T46 l0 a1).f3) t295 _ A31.out).mono ?_);rintro e w' ⟨rfl,⟨nd,rfl⟩⟩))
           go_meet
           case rel => exact ⟨_,(!t295),(by first|rfl|(simp;done)|(simp;decide +kernel)|(simp [*];done)),(by first|exact H'|(subst_vars;exact H')),⟨by first|omega|exact Nat.le_refl _⟩,⟨by (with_reducible repeat (first|refine blk_drewN ?_ _|refine blk_drew ?_|refine blk_alloc ?_ _));refine blk_put (cs:=#[.int .i64 ((rd_T46 l0 a1).f0),.int .i64 ((rd_T46 l0 a1).f1),.int .i64 ((rd_T46 l0 a1).f2),.string ((rd_T46 l0 a1).f3),.string (⟨#[]⟩ : ByteArray)]) ?_ 4 _ rfl;(with_reducible repeat (first|refine blk_drewN ?_ _|refine blk_drew ?_|refine blk_alloc ?_ _));refine blk_put (cs:=#[.int .i64 ((rd_T46 l0 a1).f0),.int .i64 ((rd_T46 l0 a1).f1),.int .i64 ((rd_T46 l0 a1).f2),.string (⟨#[]⟩ : ByteArray),.string (⟨#[]⟩ : ByteArray)]) ?_ 3 _ rfl;(with_reducible repeat (first|refine blk_drewN ?_ _|refine blk_drew ?_|refine blk_alloc ?_ _));refine blk_put (cs:=#[.int .i64 ((rd_T46 l0 a1).f0),.int .i64 ((rd_T46 l0 a1).f1),.int .i64 0,.string (⟨#[]⟩ : ByteArray),.string (⟨#[]⟩ : ByteArray)]) ?_ 2 _ rfl;(with_reducible repeat (first|refine blk_drewN ?_ _|refine blk_drew ?_|refine blk_alloc ?_ _));refine blk_put (cs:=#[.int .i64 ((rd_T46 l0 a1).f0),.int .i64 0,.int .i64 0,.string (⟨#[]⟩ : ByteArray),.string (⟨#[]⟩ : ByteArray)]) ?_ 1 _ rfl;(with_reducible repeat (first|refine blk_drewN ?_ _|refine blk_drew ?_|refine blk_alloc ?_ _));refine blk_put (cs:=#[.int .i64 0,.int .i64 0,.int .i64 0,.string (⟨#[]⟩ : ByteArray),.string (⟨#[]⟩ : ByteArray)]) ?_ 0 _ rfl;(with_reducible repeat (first|refine blk_drewN ?_ _|refine blk_drew ?_|refine blk_alloc ?_ _));exact BK292.out⟩,⟨by repeat (first|(with_reducible first|exact HB.out|apply below_alloc|apply pw_below_drewN|apply below_drew1|refine below_set ?_ GE292.out)|exact HB.out)⟩⟩
          ·rw [if_neg c30] at H
           have c30b0 : (((rd_T46 l0 a1).f3).toList == ([] : List UInt8)) = false:=beq_eq_false_iff_ne.mpr c30
           have c30b1 : (((rd_T46 l0 a1).f3).toList != ([] : List UInt8)) = true:=bne_iff_ne.mpr c30
           by_cases c33 : a3 = true
           ·subst c33
            have H1 : ((racewayref25_Valid.f k ((rd_T46 l0 a1).f3)).bind fun t296 => (racewayref25_may.j0 k l0 a1 a2 a4 (!t296) ((rd_T46 l0 a1).f0) ((rd_T46 l0 a1).f1) ((rd_T46 l0 a1).f2) ((rd_T46 l0 a1).f3) ((rd_T46 l0 a1).f4))) = some r:=by rw [if_pos rfl] at H;exact H
            clear H
            have H:=H1
            clear H1
            replace H:=Option.bind_eq_some_iff.mp H
            obtain ⟨t296,A340,H⟩:=H
            replace H : (racewayref25_may.j0 k l0 a1 a2 a4 (!t296) ((rd_T46 l0 a1).f0) ((rd_T46 l0 a1).f1) ((rd_T46 l0 a1).f2) ((rd_T46 l0 a1).f3) ((rd_T46 l0 a1).f4)) = some r:=H
            have A34:=Aside0.mk A340
            clear A340
            have H':=Aside0.mk H
            clear H
            have hcz35_0 : w9.cell? ⟨gb292,0,none⟩ = some (.int .i64 0):=(blk_cell BK292.out 0).trans rfl
            have hcz35_1 : w9.cell? ⟨gb292,1,none⟩ = some (.int .i64 0):=(blk_cell BK292.out 1).trans rfl
            have hcz35_2 : w9.cell? ⟨gb292,2,none⟩ = some (.int .i64 0):=(blk_cell BK292.out 2).trans rfl
            have hcz35_3 : w9.cell? ⟨gb292,3,none⟩ = some (.string (⟨#[]⟩ : ByteArray)):=(blk_cell BK292.out 3).trans rfl
            have hcz35_4 : w9.cell? ⟨gb292,4,none⟩ = some (.string (⟨#[]⟩ : ByteArray)):=(blk_cell BK292.out 4).trans rfl
            have hfz35_0:=blk_frozen BK292.out 0
            have hfz35_1:=blk_frozen BK292.out 1
            have hfz35_2:=blk_frozen BK292.out 2
            have hfz35_3:=blk_frozen BK292.out 3
            have hfz35_4:=blk_frozen BK292.out 4
            go_wp2_with (first|(go_at_call 30;(with_reducible refine (racewayref25_Valid.calls k ((rd_T46 l0 a1).f3) t296 _ A34.out).mono ?_);rintro e w' ⟨rfl,⟨nd,rfl⟩⟩))
            go_meet
            case rel => exact ⟨_,(!t296),(by first|rfl|(simp;done)|(simp;decide +kernel)|(simp [*];done)),(by first|exact H'|(subst_vars;exact H')),⟨by first|omega|exact Nat.le_refl _⟩,⟨by (with_reducible repeat (first|refine blk_drewN ?_ _|refine blk_drew ?_|refine blk_alloc ?_ _));refine blk_put (cs:=#[.int .i64 ((rd_T46 l0 a1).f0),.int .i64 ((rd_T46 l0 a1).f1),.int .i64 ((rd_T46 l0 a1).f2),.string ((rd_T46 l0 a1).f3),.string (⟨#[]⟩ : ByteArray)]) ?_ 4 _ rfl;(with_reducible repeat (first|refine blk_drewN ?_ _|refine blk_drew ?_|refine blk_alloc ?_ _));refine blk_put (cs:=#[.int .i64 ((rd_T46 l0 a1).f0),.int .i64 ((rd_T46 l0 a1).f1),.int .i64 ((rd_T46 l0 a1).f2),.string (⟨#[]⟩ : ByteArray),.string (⟨#[]⟩ : ByteArray)]) ?_ 3 _ rfl;(with_reducible repeat (first|refine blk_drewN ?_ _|refine blk_drew ?_|refine blk_alloc ?_ _));refine blk_put (cs:=#[.int .i64 ((rd_T46 l0 a1).f0),.int .i64 ((rd_T46 l0 a1).f1),.int .i64 0,.string (⟨#[]⟩ : ByteArray),.string (⟨#[]⟩ : ByteArray)]) ?_ 2 _ rfl;(with_reducible repeat (first|refine blk_drewN ?_ _|refine blk_drew ?_|refine blk_alloc ?_ _));refine blk_put (cs:=#[.int .i64 ((rd_T46 l0 a1).f0),.int .i64 0,.int .i64 0,.string (⟨#[]⟩ : ByteArray),.string (⟨#[]⟩ : ByteArray)]) ?_ 1 _ rfl;(with_reducible repeat (first|refine blk_drewN ?_ _|refine blk_drew ?_|refine blk_alloc ?_ _));refine blk_put (cs:=#[.int .i64 0,.int .i64 0,.int .i64 0,.string (⟨#[]⟩ : ByteArray),.string (⟨#[]⟩ : ByteArray)]) ?_ 0 _ rfl;(with_reducible repeat (first|refine blk_drewN ?_ _|refine blk_drew ?_|refine blk_alloc ?_ _));exact BK292.out⟩,⟨by repeat (first|(with_reducible first|exact HB.out|apply below_alloc|apply pw_below_drewN|apply below_drew1|refine below_set ?_ GE292.out)|exact HB.out)⟩⟩
           ·replace c33:=Bool.eq_false_iff.mpr c33
            subst c33
            have H1 : (racewayref25_may.j0 k l0 a1 a2 a4 true ((rd_T46 l0 a1).f0) ((rd_T46 l0 a1).f1) ((rd_T46 l0 a1).f2) ((rd_T46 l0 a1).f3) ((rd_T46 l0 a1).f4)) = some r:=by rw [if_neg (show ¬ (false = true) by decide)] at H;exact H
            clear H
            have H:=H1
            clear H1
            have H':=Aside0.mk H
            clear H
            have hcz36_0 : w9.cell? ⟨gb292,0,none⟩ = some (.int .i64 0):=(blk_cell BK292.out 0).trans rfl
            have hcz36_1 : w9.cell? ⟨gb292,1,none⟩ = some (.int .i64 0):=(blk_cell BK292.out 1).trans rfl
            have hcz36_2 : w9.cell? ⟨gb292,2,none⟩ = some (.int .i64 0):=(blk_cell BK292.out 2).trans rfl
            have hcz36_3 : w9.cell? ⟨gb292,3,none⟩ = some (.string (⟨#[]⟩ : ByteArray)):=(blk_cell BK292.out 3).trans rfl
            have hcz36_4 : w9.cell? ⟨gb292,4,none⟩ = some (.string (⟨#[]⟩ : ByteArray)):=(blk_cell BK292.out 4).trans rfl
            have hfz36_0:=blk_frozen BK292.out 0
            have hfz36_1:=blk_frozen BK292.out 1
            have hfz36_2:=blk_frozen BK292.out 2
            have hfz36_3:=blk_frozen BK292.out 3
            have hfz36_4:=blk_frozen BK292.out 4
            go_wp2
            go_meet
            case rel => exact ⟨_,(true),(by first|rfl|(simp;done)|(simp;decide +kernel)|(simp [*];done)),(by first|exact H'|(subst_vars;exact H')),⟨by first|omega|exact Nat.le_refl _⟩,⟨by (with_reducible repeat (first|refine blk_drewN ?_ _|refine blk_drew ?_|refine blk_alloc ?_ _));refine blk_put (cs:=#[.int .i64 ((rd_T46 l0 a1).f0),.int .i64 ((rd_T46 l0 a1).f1),.int .i64 ((rd_T46 l0 a1).f2),.string ((rd_T46 l0 a1).f3),.string (⟨#[]⟩ : ByteArray)]) ?_ 4 _ rfl;(with_reducible repeat (first|refine blk_drewN ?_ _|refine blk_drew ?_|refine blk_alloc ?_ _));refine blk_put (cs:=#[.int .i64 ((rd_T46 l0 a1).f0),.int .i64 ((rd_T46 l0 a1).f1),.int .i64 ((rd_T46 l0 a1).f2),.string (⟨#[]⟩ : ByteArray),.string (⟨#[]⟩ : ByteArray)]) ?_ 3 _ rfl;(with_reducible repeat (first|refine blk_drewN ?_ _|refine blk_drew ?_|refine blk_alloc ?_ _));refine blk_put (cs:=#[.int .i64 ((rd_T46 l0 a1).f0),.int .i64 ((rd_T46 l0 a1).f1),.int .i64 0,.string (⟨#[]⟩ : ByteArray),.string (⟨#[]⟩ : ByteArray)]) ?_ 2 _ rfl;(with_reducible repeat (first|refine blk_drewN ?_ _|refine blk_drew ?_|refine blk_alloc ?_ _));refine blk_put (cs:=#[.int .i64 ((rd_T46 l0 a1).f0),.int .i64 0,.int .i64 0,.string (⟨#[]⟩ : ByteArray),.string (⟨#[]⟩ : ByteArray)]) ?_ 1 _ rfl;(with_reducible repeat (first|refine blk_drewN ?_ _|refine blk_drew ?_|refine blk_alloc ?_ _));refine blk_put (cs:=#[.int .i64 0,.int .i64 0,.int .i64 0,.string (⟨#[]⟩ : ByteArray),.string (⟨#[]⟩ : ByteArray)]) ?_ 0 _ rfl;(with_reducible repeat (first|refine blk_drewN ?_ _|refine blk_drew ?_|refine blk_alloc ?_ _));exact BK292.out⟩,⟨by repeat (first|(with_reducible first|exact HB.out|apply below_alloc|apply pw_below_drewN|apply below_drew1|refine below_set ?_ GE292.out)|exact HB.out)⟩⟩
   case rest =>
    clear HC8
    try clear c1
    try clear c2
    try clear p2
    try clear q2
    try clear hx2
    try clear c3
    try clear c4
    try clear c6
    try clear c6b0
    try clear c7
    try clear c7b0
    try clear c11
    try clear c11b0
    try clear c12
    try clear c12b0
    try clear c14
    try clear c14b0
    try clear c16
    try clear c16b0
    try clear c18
    try clear c18b0
    try clear c20
    try clear c20b0
    try clear c21
    try clear c21b0
    try clear c23
    try clear c23b0
    try clear c23b1
    try clear c26
    try clear p29
    try clear q29
    try clear hx29
    try clear c30
    try clear c30b0
    try clear c30b1
    try clear c33
    try clear hcz10_0
    try clear hcz10_1
    try clear hcz10_2
    try clear hcz10_3
    try clear hcz10_4
    try clear hcz13_0
    try clear hcz13_1
    try clear hcz13_2
    try clear hcz13_3
    try clear hcz13_4
    try clear hcz15_0
    try clear hcz15_1
    try clear hcz15_2
    try clear hcz15_3
    try clear hcz15_4
    try clear hcz17_0
    try clear hcz17_1
    try clear hcz17_2
    try clear hcz17_3
    try clear hcz17_4
    try clear hcz19_0
    try clear hcz19_1
    try clear hcz19_2
    try clear hcz19_3
    try clear hcz19_4
    try clear hcz22_0
    try clear hcz22_1
    try clear hcz22_2
    try clear hcz22_3
    try clear hcz22_4
    try clear hcz25_0
    try clear hcz25_1
    try clear hcz25_2
    try clear hcz25_3
    try clear hcz25_4
    try clear hcz28_0
    try clear hcz28_1
    try clear hcz28_2
    try clear hcz28_3
    try clear hcz28_4
    try clear hcz29_0
    try clear hcz29_1
    try clear hcz29_2
    try clear hcz29_3
    try clear hcz29_4
    try clear hcz32_0
    try clear hcz32_1
    try clear hcz32_2
    try clear hcz32_3
    try clear hcz32_4
    try clear hcz35_0
    try clear hcz35_1
    try clear hcz35_2
    try clear hcz35_3
    try clear hcz35_4
    try clear hcz36_0
    try clear hcz36_1
    try clear hcz36_2
    try clear hcz36_3
    try clear hcz36_4
    try clear hfz10_0
    try clear hfz10_1
    try clear hfz10_2
    try clear hfz10_3
    try clear hfz10_4
    try clear hfz13_0
    try clear hfz13_1
    try clear hfz13_2
    try clear hfz13_3
    try clear hfz13_4
    try clear hfz15_0
    try clear hfz15_1
    try clear hfz15_2
    try clear hfz15_3
    try clear hfz15_4
    try clear hfz17_0
    try clear hfz17_1
    try clear hfz17_2
    try clear hfz17_3
    try clear hfz17_4
    try clear hfz19_0
    try clear hfz19_1
    try clear hfz19_2
    try clear hfz19_3
    try clear hfz19_4
    try clear hfz22_0
    try clear hfz22_1
    try clear hfz22_2
    try clear hfz22_3
    try clear hfz22_4
    try clear hfz25_0
    try clear hfz25_1
    try clear hfz25_2
    try clear hfz25_3
    try clear hfz25_4
    try clear hfz28_0
    try clear hfz28_1
    try clear hfz28_2
    try clear hfz28_3
    try clear hfz28_4
    try clear hfz29_0
    try clear hfz29_1
    try clear hfz29_2
    try clear hfz29_3
    try clear hfz29_4
    try clear hfz32_0
    try clear hfz32_1
    try clear hfz32_2
    try clear hfz32_3
    try clear hfz32_4
    try clear hfz35_0
    try clear hfz35_1
    try clear hfz35_2
    try clear hfz35_3
    try clear hfz35_4
    try clear hfz36_0
    try clear hfz36_1
    try clear hfz36_2
    try clear hfz36_3
    try clear hfz36_4
    try clear hx291_0
    try clear hx291_1
    try clear hx291_2
    try clear hx291_3
    try clear hx291_4
    try clear p291
    try clear q291
    obtain ⟨kq,x65_7,rfl,HA,HJ7,BK292,HB⟩:=hcut
    cases kq with
    | zero => exact absurd HA.out (by simp [racewayref25_may.j0])
    | succ kj7 =>
     have H:=HA.out
     clear HA
     simp only [racewayref25_may.j0] at H
     by_cases c37 : x65_7 = true
     ·subst c37
      have H1 : (some (-1)) = some r:=by rw [if_pos rfl] at H;exact H
      clear H
      have H:=H1
      clear H1
      obtain rfl:=Option.some.inj H
      go_wp2
      go_ret
      exact ⟨by first|rfl|(simp [errW_none,errW_some] <;> rfl)|(simp [*,errW_none,errW_some] <;> rfl),by repeat (first|(with_reducible first|exact HB.out|apply below_alloc|apply pw_below_drewN|apply below_drew1|refine below_set ?_ GE292.out)|exact HB.out)⟩
     ·replace c37:=Bool.eq_false_iff.mpr c37
      subst c37
      have H1 : (if ((rd_T46 l0 a1).f0) = 4 then (if (((rd_T46 l0 a1).f4).size : Int) > 65536 then (some (-1)) else ((racewayref25_number.f kj7 ((rd_T46 l0 a1).f4) 0).bind fun bt297 => (if bt297.2.1 = 0 then (if bt297.1 = (((rd_T46 l0 a1).f4).size : Int) then (racewayref25_may.j1 kj7 l0 a1 a2 a4 ((rd_T46 l0 a1).f0) ((rd_T46 l0 a1).f1) ((rd_T46 l0 a1).f2) ((rd_T46 l0 a1).f3) ((rd_T46 l0 a1).f4)) else (some (-1))) else (some (-1))))) else (racewayref25_may.j1 kj7 l0 a1 a2 a4 ((rd_T46 l0 a1).f0) ((rd_T46 l0 a1).f1) ((rd_T46 l0 a1).f2) ((rd_T46 l0 a1).f3) ((rd_T46 l0 a1).f4))) = some r:=by rw [if_neg (show ¬ (false = true) by decide)] at H;exact H
      clear H
      have H:=H1
      clear H1
      have HC38:=Aside0.mk H
      clear H
      have hcz39_0 : wc.cell? ⟨gb292,0,none⟩ = some (.int .i64 ((rd_T46 l0 a1).f0)):=(blk_cell BK292.out 0).trans rfl
      have hcz39_1 : wc.cell? ⟨gb292,1,none⟩ = some (.int .i64 ((rd_T46 l0 a1).f1)):=(blk_cell BK292.out 1).trans rfl
      have hcz39_2 : wc.cell? ⟨gb292,2,none⟩ = some (.int .i64 ((rd_T46 l0 a1).f2)):=(blk_cell BK292.out 2).trans rfl
      have hcz39_3 : wc.cell? ⟨gb292,3,none⟩ = some (.string ((rd_T46 l0 a1).f3)):=(blk_cell BK292.out 3).trans rfl
      have hcz39_4 : wc.cell? ⟨gb292,4,none⟩ = some (.string ((rd_T46 l0 a1).f4)):=(blk_cell BK292.out 4).trans rfl
      have hfz39_0:=blk_frozen BK292.out 0
      have hfz39_1:=blk_frozen BK292.out 1
      have hfz39_2:=blk_frozen BK292.out 2
      have hfz39_3:=blk_frozen BK292.out 3
      have hfz39_4:=blk_frozen BK292.out 4
      go_upto_if 68 with (fail)
      go_cut [] (fun wc => ∃ (kq : Nat),Aside0 (racewayref25_may.j1 kq l0 a1 a2 a4 ((rd_T46 l0 a1).f0) ((rd_T46 l0 a1).f1) ((rd_T46 l0 a1).f2) ((rd_T46 l0 a1).f3) ((rd_T46 l0 a1).f4) = some r) ∧ Aside0 (kq ≤ kj7) ∧ Aside0 (wc.heap[gb292]? = some (.cells #[.int .i64 ((rd_T46 l0 a1).f0),.int .i64 ((rd_T46 l0 a1).f1),.int .i64 ((rd_T46 l0 a1).f2),.string ((rd_T46 l0 a1).f3),.string ((rd_T46 l0 a1).f4)] 46 (0,0))) ∧ Aside0 (Below w.heap.size w wc))
      case first =>
       have H:=HC38.out
       clear HC38
       by_cases c40 : ((rd_T46 l0 a1).f0) = 4
       ·rw [if_pos c40] at H
        have c40b0 : (((rd_T46 l0 a1).f0) == 4) = true:=beq_iff_eq.mpr c40
        have c40b1 : (((rd_T46 l0 a1).f0) != 4) = false:=bne_eq_false_iff_eq.mpr c40
        clear c40
        (first|rw [c40b0]|(simp only [i64_w,i32_w];rw [c40b0])|skip)
        by_cases c41 : (((rd_T46 l0 a1).f4).size : Int) > 65536
        ·rw [if_pos c41] at H
         have c41b0 : decide (65536 < (((rd_T46 l0 a1).f4).size : Int)) = true:=decide_eq_true c41
         have c41b1 : decide (65536 < ((rd_T46 l0 a1).f4).size) = true:=decide_eq_true (by omega)
         clear c41
         obtain rfl:=Option.some.inj H
         have hcz42_0 : wc.cell? ⟨gb292,0,none⟩ = some (.int .i64 ((rd_T46 l0 a1).f0)):=(blk_cell BK292.out 0).trans rfl
         have hcz42_1 : wc.cell? ⟨gb292,1,none⟩ = some (.int .i64 ((rd_T46 l0 a1).f1)):=(blk_cell BK292.out 1).trans rfl
         have hcz42_2 : wc.cell? ⟨gb292,2,none⟩ = some (.int .i64 ((rd_T46 l0 a1).f2)):=(blk_cell BK292.out 2).trans rfl
         have hcz42_3 : wc.cell? ⟨gb292,3,none⟩ = some (.string ((rd_T46 l0 a1).f3)):=(blk_cell BK292.out 3).trans rfl
         have hcz42_4 : wc.cell? ⟨gb292,4,none⟩ = some (.string ((rd_T46 l0 a1).f4)):=(blk_cell BK292.out 4).trans rfl
         have hfz42_0:=blk_frozen BK292.out 0
         have hfz42_1:=blk_frozen BK292.out 1
         have hfz42_2:=blk_frozen BK292.out 2
         have hfz42_3:=blk_frozen BK292.out 3
         have hfz42_4:=blk_frozen BK292.out 4
         go_wp2
         go_ret
         exact ⟨by first|rfl|(simp [errW_none,errW_some] <;> rfl)|(simp [*,errW_none,errW_some] <;> rfl),by repeat (first|(with_reducible first|exact HB.out|apply below_alloc|apply pw_below_drewN|apply below_drew1|refine below_set ?_ GE292.out)|exact HB.out)⟩
        ·rw [if_neg c41] at H
         have c41b0 : decide (65536 < (((rd_T46 l0 a1).f4).size : Int)) = false:=decide_eq_false c41
         have c41b1 : decide (65536 < ((rd_T46 l0 a1).f4).size) = false:=decide_eq_false (by omega)
         clear c41
         replace H:=Option.bind_eq_some_iff.mp H
         obtain ⟨⟨t297,t298,t299,t302⟩,A430,H⟩:=H
         replace H : (if t298 = 0 then (if t297 = (((rd_T46 l0 a1).f4).size : Int) then (racewayref25_may.j1 kj7 l0 a1 a2 a4 ((rd_T46 l0 a1).f0) ((rd_T46 l0 a1).f1) ((rd_T46 l0 a1).f2) ((rd_T46 l0 a1).f3) ((rd_T46 l0 a1).f4)) else (some (-1))) else (some (-1))) = some r:=H
         have A43:=Aside0.mk A430
         clear A430
         by_cases c44 : t298 = 0
         ·rw [if_pos c44] at H
          have c44b0 : (t298 == 0) = true:=beq_iff_eq.mpr c44
          have c44b1 : (t298 != 0) = false:=bne_eq_false_iff_eq.mpr c44
          clear c44
          by_cases c45 : t297 = (((rd_T46 l0 a1).f4).size : Int)
          ·rw [if_pos c45] at H
           have c45b0 : (t297 == (((rd_T46 l0 a1).f4).size : Int)) = true:=beq_iff_eq.mpr c45
           have c45b1 : (t297 != (((rd_T46 l0 a1).f4).size : Int)) = false:=bne_eq_false_iff_eq.mpr c45
           clear c45
           have H':=Aside0.mk H
           clear H
           have hcz46_0 : wc.cell? ⟨gb292,0,none⟩ = some (.int .i64 ((rd_T46 l0 a1).f0)):=(blk_cell BK292.out 0).trans rfl
           have hcz46_1 : wc.cell? ⟨gb292,1,none⟩ = some (.int .i64 ((rd_T46 l0 a1).f1)):=(blk_cell BK292.out 1).trans rfl
           have hcz46_2 : wc.cell? ⟨gb292,2,none⟩ = some (.int .i64 ((rd_T46 l0 a1).f2)):=(blk_cell BK292.out 2).trans rfl
           have hcz46_3 : wc.cell? ⟨gb292,3,none⟩ = some (.string ((rd_T46 l0 a1).f3)):=(blk_cell BK292.out 3).trans rfl
           have hcz46_4 : wc.cell? ⟨gb292,4,none⟩ = some (.string ((rd_T46 l0 a1).f4)):=(blk_cell BK292.out 4).trans rfl
           have hfz46_0:=blk_frozen BK292.out 0
           have hfz46_1:=blk_frozen BK292.out 1
           have hfz46_2:=blk_frozen BK292.out 2
           have hfz46_3:=blk_frozen BK292.out 3
           have hfz46_4:=blk_frozen BK292.out 4
           go_wp2_with (first|((with_reducible refine gate_callee (f:=59) rfl ?_);refine goesL_ (some 75) rfl rfl Tryd.func59 (by kernel_rfl) rfl #[.string ((rd_T46 l0 a1).f4),.int .i64 0] rfl (by (try simp only [List.map_toArray,List.map_cons,List.map_nil]);first|done|rfl|(simp only [List.length_drop,List.length_take];rfl)) ?_;(with_reducible refine (racewayref25_number.calls kj7 ((rd_T46 l0 a1).f4) 0 t297 t298 t299 t302 _ A43.out).mono ?_);rintro e w47 ⟨v300,rfl,ho0,hb⟩;refine ⟨_,rfl,?_⟩;have n0_:=Aside0.mk (Kd.R_lower (Kd.R_newB ho0 (g:=gb292) (o:=.cells #[.int .i64 ((rd_T46 l0 a1).f0),.int .i64 ((rd_T46 l0 a1).f1),.int .i64 ((rd_T46 l0 a1).f2),.string ((rd_T46 l0 a1).f3),.string ((rd_T46 l0 a1).f4)] 46 (0,0)) (by (with_reducible repeat (first|refine blk_drewN ?_ _|refine blk_drew ?_|refine blk_alloc ?_ _));exact BK292.out)) (below_size (by repeat (first|(with_reducible first|exact HB.out|apply below_alloc|apply pw_below_drewN|apply below_drew1|refine below_set ?_ GE292.out)|exact HB.out))));have n1_:=Aside0.mk (blk_below (g:=gb292) (o:=.cells #[.int .i64 ((rd_T46 l0 a1).f0),.int .i64 ((rd_T46 l0 a1).f1),.int .i64 ((rd_T46 l0 a1).f2),.string ((rd_T46 l0 a1).f3),.string ((rd_T46 l0 a1).f4)] 46 (0,0)) (by (with_reducible repeat (first|refine blk_drewN ?_ _|refine blk_drew ?_|refine blk_alloc ?_ _));exact BK292.out) hb);have n2_:=Aside0.mk (below_step (by repeat (first|(with_reducible first|exact HB.out|apply below_alloc|apply pw_below_drewN|apply below_drew1|refine below_set ?_ GE292.out)|exact HB.out)) hb);clear BK292;clear HB;have HO301:=n0_;have BK292:=n1_;have HB:=n2_;clear n0_ n1_ n2_;(try clear hb);(try clear hb2);(try clear hk);(try clear hi);(try clear ho0))|((with_reducible refine gate_dst (N:=12) rfl ?_);(try (refine gate_guard (by rfl) ?_;dsimp only));refine box_event ?hg (N:=12) ?hd (cs:=#[.int .i64 0,.int .i64 0,.slice none 0 0,.string (⟨#[]⟩ : ByteArray)]) (t:=67) ?hr ?_;(case hd => rfl);(case hg => rfl);(case hr => first|(go_simp;done)|(go_simp;rfl));intro gb303 hg w48 hbox hb;have n0_:=Aside0.mk (Kd.R_below (by (with_reducible repeat (first|apply Kd.R_alloc|apply Kd.R_drewN|apply Kd.R_drew));exact HO301.out) hb);have n1_:=Aside0.mk (blk_below (g:=gb292) (o:=.cells #[.int .i64 ((rd_T46 l0 a1).f0),.int .i64 ((rd_T46 l0 a1).f1),.int .i64 ((rd_T46 l0 a1).f2),.string ((rd_T46 l0 a1).f3),.string ((rd_T46 l0 a1).f4)] 46 (0,0)) (by (with_reducible repeat (first|refine blk_drewN ?_ _|refine blk_drew ?_|refine blk_alloc ?_ _));exact BK292.out) hb);have n2_:=Aside0.mk (below_step (by repeat (first|(with_reducible first|exact HB.out|apply below_alloc|apply pw_below_drewN|apply below_drew1|refine below_set ?_ GE292.out)|exact HB.out)) hb);have n3_:=Aside0.mk (hbox);have n4_:=Aside0.mk ((by rw [hg];exact (below_size (by repeat (first|(with_reducible first|exact HB.out|apply below_alloc|apply pw_below_drewN|apply below_drew1|refine below_set ?_ GE292.out)|exact HB.out))) : w.heap.size ≤ gb303));have n5_:=Aside0.mk ((by rw [hg];exact (below_size (by repeat (first|(with_reducible first|exact HB.out|apply below_alloc|apply pw_below_drewN|apply below_drew1|refine below_set ?_ GE292.out)|exact HB.out))) : w.heap.size ≤ gb303));have n6_:=Aside0.mk ((by rw [hg];exact Nat.ne_of_lt (blk_lt (g:=gb292) (o:=.cells #[.int .i64 ((rd_T46 l0 a1).f0),.int .i64 ((rd_T46 l0 a1).f1),.int .i64 ((rd_T46 l0 a1).f2),.string ((rd_T46 l0 a1).f3),.string ((rd_T46 l0 a1).f4)] 46 (0,0)) (by (with_reducible repeat (first|refine blk_drewN ?_ _|refine blk_drew ?_|refine blk_alloc ?_ _));exact BK292.out)) : gb292 ≠ gb303));have n7_:=Aside0.mk ((by rw [hg];exact Nat.ne_of_gt (blk_lt (g:=gb292) (o:=.cells #[.int .i64 ((rd_T46 l0 a1).f0),.int .i64 ((rd_T46 l0 a1).f1),.int .i64 ((rd_T46 l0 a1).f2),.string ((rd_T46 l0 a1).f3),.string ((rd_T46 l0 a1).f4)] 46 (0,0)) (by (with_reducible repeat (first|refine blk_drewN ?_ _|refine blk_drew ?_|refine blk_alloc ?_ _));exact BK292.out)) : gb303 ≠ gb292));clear HO301;clear BK292;clear HB;have HO301:=n0_;have BK292:=n1_;have HB:=n2_;have BK303:=n3_;have GW303:=n4_;have GE303:=n5_;have NB292_303:=n6_;have NB303_292:=n7_;clear n0_ n1_ n2_ n3_ n4_ n5_ n6_ n7_;clear hb hbox hg;have hnb49:=NB303_292.out;have hnc49:=NB292_303.out;have hcz50_0 : w48.cell? ⟨gb303,0,none⟩ = some (.int .i64 0):=(blk_cell BK303.out 0).trans rfl;have hcz50_1 : w48.cell? ⟨gb303,1,none⟩ = some (.int .i64 0):=(blk_cell BK303.out 1).trans rfl;have hcz50_2 : w48.cell? ⟨gb303,2,none⟩ = some (.slice none 0 0):=(blk_cell BK303.out 2).trans rfl;have hcz50_3 : w48.cell? ⟨gb303,3,none⟩ = some (.string (⟨#[]⟩ : ByteArray)):=(blk_cell BK303.out 3).trans rfl;have hfz50_0:=blk_frozen BK303.out 0;have hfz50_1:=blk_frozen BK303.out 1;have hfz50_2:=blk_frozen BK303.out 2;have hfz50_3:=blk_frozen BK303.out 3;obtain ⟨Ao51,co51,eo51⟩:=Kd.R_slice HO301.out;subst eo51;have hcz52_0 : w48.cell? ⟨gb292,0,none⟩ = some (.int .i64 ((rd_T46 l0 a1).f0)):=(blk_cell BK292.out 0).trans rfl;have hcz52_1 : w48.cell? ⟨gb292,1,none⟩ = some (.int .i64 ((rd_T46 l0 a1).f1)):=(blk_cell BK292.out 1).trans rfl;have hcz52_2 : w48.cell? ⟨gb292,2,none⟩ = some (.int .i64 ((rd_T46 l0 a1).f2)):=(blk_cell BK292.out 2).trans rfl;have hcz52_3 : w48.cell? ⟨gb292,3,none⟩ = some (.string ((rd_T46 l0 a1).f3)):=(blk_cell BK292.out 3).trans rfl;have hcz52_4 : w48.cell? ⟨gb292,4,none⟩ = some (.string ((rd_T46 l0 a1).f4)):=(blk_cell BK292.out 4).trans rfl;have hfz52_0:=blk_frozen BK292.out 0;have hfz52_1:=blk_frozen BK292.out 1;have hfz52_2:=blk_frozen BK292.out 2;have hfz52_3:=blk_frozen BK292.out 3;have hfz52_4:=blk_frozen BK292.out 4))
           go_meet
           case rel => exact ⟨_,(by first|exact H'|(subst_vars;exact H')),⟨by have:=HJ7.out;first|omega|exact Nat.le_refl _⟩,⟨by (with_reducible repeat (first|refine blk_drewN ?_ _|refine blk_drew ?_|refine blk_alloc ?_ _));refine blk_far ?_ NB292_303.out _;(with_reducible repeat (first|refine blk_drewN ?_ _|refine blk_drew ?_|refine blk_alloc ?_ _));refine blk_far ?_ NB292_303.out _;(with_reducible repeat (first|refine blk_drewN ?_ _|refine blk_drew ?_|refine blk_alloc ?_ _));refine blk_far ?_ NB292_303.out _;(with_reducible repeat (first|refine blk_drewN ?_ _|refine blk_drew ?_|refine blk_alloc ?_ _));refine blk_far ?_ NB292_303.out _;(with_reducible repeat (first|refine blk_drewN ?_ _|refine blk_drew ?_|refine blk_alloc ?_ _));exact BK292.out⟩,⟨by repeat (first|(with_reducible first|exact HB.out|apply below_alloc|apply pw_below_drewN|apply below_drew1|refine below_set ?_ GE292.out|refine below_set ?_ GE303.out)|exact HB.out)⟩⟩
          ·rw [if_neg c45] at H
           have c45b0 : (t297 == (((rd_T46 l0 a1).f4).size : Int)) = false:=beq_eq_false_iff_ne.mpr c45
           have c45b1 : (t297 != (((rd_T46 l0 a1).f4).size : Int)) = true:=bne_iff_ne.mpr c45
           obtain rfl:=Option.some.inj H
           have hcz53_0 : wc.cell? ⟨gb292,0,none⟩ = some (.int .i64 ((rd_T46 l0 a1).f0)):=(blk_cell BK292.out 0).trans rfl
           have hcz53_1 : wc.cell? ⟨gb292,1,none⟩ = some (.int .i64 ((rd_T46 l0 a1).f1)):=(blk_cell BK292.out 1).trans rfl
           have hcz53_2 : wc.cell? ⟨gb292,2,none⟩ = some (.int .i64 ((rd_T46 l0 a1).f2)):=(blk_cell BK292.out 2).trans rfl
           have hcz53_3 : wc.cell? ⟨gb292,3,none⟩ = some (.string ((rd_T46 l0 a1).f3)):=(blk_cell BK292.out 3).trans rfl
           have hcz53_4 : wc.cell? ⟨gb292,4,none⟩ = some (.string ((rd_T46 l0 a1).f4)):=(blk_cell BK292.out 4).trans rfl
           have hfz53_0:=blk_frozen BK292.out 0
           have hfz53_1:=blk_frozen BK292.out 1
           have hfz53_2:=blk_frozen BK292.out 2
           have hfz53_3:=blk_frozen BK292.out 3
           have hfz53_4:=blk_frozen BK292.out 4
           go_wp2_with (first|((with_reducible refine gate_callee (f:=59) rfl ?_);refine goesL_ (some 75) rfl rfl Tryd.func59 (by kernel_rfl) rfl #[.string ((rd_T46 l0 a1).f4),.int .i64 0] rfl (by (try simp only [List.map_toArray,List.map_cons,List.map_nil]);first|done|rfl|(simp only [List.length_drop,List.length_take];rfl)) ?_;(with_reducible refine (racewayref25_number.calls kj7 ((rd_T46 l0 a1).f4) 0 t297 t298 t299 t302 _ A43.out).mono ?_);rintro e w54 ⟨v300,rfl,ho0,hb⟩;refine ⟨_,rfl,?_⟩;have n0_:=Aside0.mk (Kd.R_lower (Kd.R_newB ho0 (g:=gb292) (o:=.cells #[.int .i64 ((rd_T46 l0 a1).f0),.int .i64 ((rd_T46 l0 a1).f1),.int .i64 ((rd_T46 l0 a1).f2),.string ((rd_T46 l0 a1).f3),.string ((rd_T46 l0 a1).f4)] 46 (0,0)) (by (with_reducible repeat (first|refine blk_drewN ?_ _|refine blk_drew ?_|refine blk_alloc ?_ _));exact BK292.out)) (below_size (by repeat (first|(with_reducible first|exact HB.out|apply below_alloc|apply pw_below_drewN|apply below_drew1|refine below_set ?_ GE292.out)|exact HB.out))));have n1_:=Aside0.mk (blk_below (g:=gb292) (o:=.cells #[.int .i64 ((rd_T46 l0 a1).f0),.int .i64 ((rd_T46 l0 a1).f1),.int .i64 ((rd_T46 l0 a1).f2),.string ((rd_T46 l0 a1).f3),.string ((rd_T46 l0 a1).f4)] 46 (0,0)) (by (with_reducible repeat (first|refine blk_drewN ?_ _|refine blk_drew ?_|refine blk_alloc ?_ _));exact BK292.out) hb);have n2_:=Aside0.mk (below_step (by repeat (first|(with_reducible first|exact HB.out|apply below_alloc|apply pw_below_drewN|apply below_drew1|refine below_set ?_ GE292.out)|exact HB.out)) hb);clear BK292;clear HB;have HO301:=n0_;have BK292:=n1_;have HB:=n2_;clear n0_ n1_ n2_;(try clear hb);(try clear hb2);(try clear hk);(try clear hi);(try clear ho0))|((with_reducible refine gate_dst (N:=12) rfl ?_);(try (refine gate_guard (by rfl) ?_;dsimp only));refine box_event ?hg (N:=12) ?hd (cs:=#[.int .i64 0,.int .i64 0,.slice none 0 0,.string (⟨#[]⟩ : ByteArray)]) (t:=67) ?hr ?_;(case hd => rfl);(case hg => rfl);(case hr => first|(go_simp;done)|(go_simp;rfl));intro gb303 hg w55 hbox hb;have n0_:=Aside0.mk (Kd.R_below (by (with_reducible repeat (first|apply Kd.R_alloc|apply Kd.R_drewN|apply Kd.R_drew));exact HO301.out) hb);have n1_:=Aside0.mk (blk_below (g:=gb292) (o:=.cells #[.int .i64 ((rd_T46 l0 a1).f0),.int .i64 ((rd_T46 l0 a1).f1),.int .i64 ((rd_T46 l0 a1).f2),.string ((rd_T46 l0 a1).f3),.string ((rd_T46 l0 a1).f4)] 46 (0,0)) (by (with_reducible repeat (first|refine blk_drewN ?_ _|refine blk_drew ?_|refine blk_alloc ?_ _));exact BK292.out) hb);have n2_:=Aside0.mk (below_step (by repeat (first|(with_reducible first|exact HB.out|apply below_alloc|apply pw_below_drewN|apply below_drew1|refine below_set ?_ GE292.out)|exact HB.out)) hb);have n3_:=Aside0.mk (hbox);have n4_:=Aside0.mk ((by rw [hg];exact (below_size (by repeat (first|(with_reducible first|exact HB.out|apply below_alloc|apply pw_below_drewN|apply below_drew1|refine below_set ?_ GE292.out)|exact HB.out))) : w.heap.size ≤ gb303));have n5_:=Aside0.mk ((by rw [hg];exact (below_size (by repeat (first|(with_reducible first|exact HB.out|apply below_alloc|apply pw_below_drewN|apply below_drew1|refine below_set ?_ GE292.out)|exact HB.out))) : w.heap.size ≤ gb303));have n6_:=Aside0.mk ((by rw [hg];exact Nat.ne_of_lt (blk_lt (g:=gb292) (o:=.cells #[.int .i64 ((rd_T46 l0 a1).f0),.int .i64 ((rd_T46 l0 a1).f1),.int .i64 ((rd_T46 l0 a1).f2),.string ((rd_T46 l0 a1).f3),.string ((rd_T46 l0 a1).f4)] 46 (0,0)) (by (with_reducible repeat (first|refine blk_drewN ?_ _|refine blk_drew ?_|refine blk_alloc ?_ _));exact BK292.out)) : gb292 ≠ gb303));have n7_:=Aside0.mk ((by rw [hg];exact Nat.ne_of_gt (blk_lt (g:=gb292) (o:=.cells #[.int .i64 ((rd_T46 l0 a1).f0),.int .i64 ((rd_T46 l0 a1).f1),.int .i64 ((rd_T46 l0 a1).f2),.string ((rd_T46 l0 a1).f3),.string ((rd_T46 l0 a1).f4)] 46 (0,0)) (by (with_reducible repeat (first|refine blk_drewN ?_ _|refine blk_drew ?_|refine blk_alloc ?_ _));exact BK292.out)) : gb303 ≠ gb292));clear HO301;clear BK292;clear HB;have HO301:=n0_;have BK292:=n1_;have HB:=n2_;have BK303:=n3_;have GW303:=n4_;have GE303:=n5_;have NB292_303:=n6_;have NB303_292:=n7_;clear n0_ n1_ n2_ n3_ n4_ n5_ n6_ n7_;clear hb hbox hg;have hnb56:=NB303_292.out;have hnc56:=NB292_303.out;have hcz57_0 : w55.cell? ⟨gb303,0,none⟩ = some (.int .i64 0):=(blk_cell BK303.out 0).trans rfl;have hcz57_1 : w55.cell? ⟨gb303,1,none⟩ = some (.int .i64 0):=(blk_cell BK303.out 1).trans rfl;have hcz57_2 : w55.cell? ⟨gb303,2,none⟩ = some (.slice none 0 0):=(blk_cell BK303.out 2).trans rfl;have hcz57_3 : w55.cell? ⟨gb303,3,none⟩ = some (.string (⟨#[]⟩ : ByteArray)):=(blk_cell BK303.out 3).trans rfl;have hfz57_0:=blk_frozen BK303.out 0;have hfz57_1:=blk_frozen BK303.out 1;have hfz57_2:=blk_frozen BK303.out 2;have hfz57_3:=blk_frozen BK303.out 3;obtain ⟨Ao58,co58,eo58⟩:=Kd.R_slice HO301.out;subst eo58;have hcz59_0 : w55.cell? ⟨gb292,0,none⟩ = some (.int .i64 ((rd_T46 l0 a1).f0)):=(blk_cell BK292.out 0).trans rfl;have hcz59_1 : w55.cell? ⟨gb292,1,none⟩ = some (.int .i64 ((rd_T46 l0 a1).f1)):=(blk_cell BK292.out 1).trans rfl;have hcz59_2 : w55.cell? ⟨gb292,2,none⟩ = some (.int .i64 ((rd_T46 l0 a1).f2)):=(blk_cell BK292.out 2).trans rfl;have hcz59_3 : w55.cell? ⟨gb292,3,none⟩ = some (.string ((rd_T46 l0 a1).f3)):=(blk_cell BK292.out 3).trans rfl;have hcz59_4 : w55.cell? ⟨gb292,4,none⟩ = some (.string ((rd_T46 l0 a1).f4)):=(blk_cell BK292.out 4).trans rfl;have hfz59_0:=blk_frozen BK292.out 0;have hfz59_1:=blk_frozen BK292.out 1;have hfz59_2:=blk_frozen BK292.out 2;have hfz59_3:=blk_frozen BK292.out 3;have hfz59_4:=blk_frozen BK292.out 4))
           go_ret
           exact ⟨by first|rfl|(simp [errW_none,errW_some] <;> rfl)|(simp [*,errW_none,errW_some] <;> rfl),by repeat (first|(with_reducible first|exact HB.out|apply below_alloc|apply pw_below_drewN|apply below_drew1|refine below_set ?_ GE292.out|refine below_set ?_ GE303.out)|exact HB.out)⟩
         ·rw [if_neg c44] at H
          have c44b0 : (t298 == 0) = false:=beq_eq_false_iff_ne.mpr c44
          have c44b1 : (t298 != 0) = true:=bne_iff_ne.mpr c44
          obtain rfl:=Option.some.inj H
          have hcz60_0 : wc.cell? ⟨gb292,0,none⟩ = some (.int .i64 ((rd_T46 l0 a1).f0)):=(blk_cell BK292.out 0).trans rfl
          have hcz60_1 : wc.cell? ⟨gb292,1,none⟩ = some (.int .i64 ((rd_T46 l0 a1).f1)):=(blk_cell BK292.out 1).trans rfl
          have hcz60_2 : wc.cell? ⟨gb292,2,none⟩ = some (.int .i64 ((rd_T46 l0 a1).f2)):=(blk_cell BK292.out 2).trans rfl
          have hcz60_3 : wc.cell? ⟨gb292,3,none⟩ = some (.string ((rd_T46 l0 a1).f3)):=(blk_cell BK292.out 3).trans rfl
          have hcz60_4 : wc.cell? ⟨gb292,4,none⟩ = some (.string ((rd_T46 l0 a1).f4)):=(blk_cell BK292.out 4).trans rfl
          have hfz60_0:=blk_frozen BK292.out 0
          have hfz60_1:=blk_frozen BK292.out 1
          have hfz60_2:=blk_frozen BK292.out 2
          have hfz60_3:=blk_frozen BK292.out 3
          have hfz60_4:=blk_frozen BK292.out 4
          go_wp2_with (first|((with_reducible refine gate_callee (f:=59) rfl ?_);refine goesL_ (some 75) rfl rfl Tryd.func59 (by kernel_rfl) rfl #[.string ((rd_T46 l0 a1).f4),.int .i64 0] rfl (by (try simp only [List.map_toArray,List.map_cons,List.map_nil]);first|done|rfl|(simp only [List.length_drop,List.length_take];rfl)) ?_;(with_reducible refine (racewayref25_number.calls kj7 ((rd_T46 l0 a1).f4) 0 t297 t298 t299 t302 _ A43.out).mono ?_);rintro e w61 ⟨v300,rfl,ho0,hb⟩;refine ⟨_,rfl,?_⟩;have n0_:=Aside0.mk (Kd.R_lower (Kd.R_newB ho0 (g:=gb292) (o:=.cells #[.int .i64 ((rd_T46 l0 a1).f0),.int .i64 ((rd_T46 l0 a1).f1),.int .i64 ((rd_T46 l0 a1).f2),.string ((rd_T46 l0 a1).f3),.string ((rd_T46 l0 a1).f4)] 46 (0,0)) (by (with_reducible repeat (first|refine blk_drewN ?_ _|refine blk_drew ?_|refine blk_alloc ?_ _));exact BK292.out)) (below_size (by repeat (first|(with_reducible first|exact HB.out|apply below_alloc|apply pw_below_drewN|apply below_drew1|refine below_set ?_ GE292.out)|exact HB.out))));have n1_:=Aside0.mk (blk_below (g:=gb292) (o:=.cells #[.int .i64 ((rd_T46 l0 a1).f0),.int .i64 ((rd_T46 l0 a1).f1),.int .i64 ((rd_T46 l0 a1).f2),.string ((rd_T46 l0 a1).f3),.string ((rd_T46 l0 a1).f4)] 46 (0,0)) (by (with_reducible repeat (first|refine blk_drewN ?_ _|refine blk_drew ?_|refine blk_alloc ?_ _));exact BK292.out) hb);have n2_:=Aside0.mk (below_step (by repeat (first|(with_reducible first|exact HB.out|apply below_alloc|apply pw_below_drewN|apply below_drew1|refine below_set ?_ GE292.out)|exact HB.out)) hb);clear BK292;clear HB;have HO301:=n0_;have BK292:=n1_;have HB:=n2_;clear n0_ n1_ n2_;(try clear hb);(try clear hb2);(try clear hk);(try clear hi);(try clear ho0))|((with_reducible refine gate_dst (N:=12) rfl ?_);(try (refine gate_guard (by rfl) ?_;dsimp only));refine box_event ?hg (N:=12) ?hd (cs:=#[.int .i64 0,.int .i64 0,.slice none 0 0,.string (⟨#[]⟩ : ByteArray)]) (t:=67) ?hr ?_;(case hd => rfl);(case hg => rfl);(case hr => first|(go_simp;done)|(go_simp;rfl));intro gb303 hg w62 hbox hb;have n0_:=Aside0.mk (Kd.R_below (by (with_reducible repeat (first|apply Kd.R_alloc|apply Kd.R_drewN|apply Kd.R_drew));exact HO301.out) hb);have n1_:=Aside0.mk (blk_below (g:=gb292) (o:=.cells #[.int .i64 ((rd_T46 l0 a1).f0),.int .i64 ((rd_T46 l0 a1).f1),.int .i64 ((rd_T46 l0 a1).f2),.string ((rd_T46 l0 a1).f3),.string ((rd_T46 l0 a1).f4)] 46 (0,0)) (by (with_reducible repeat (first|refine blk_drewN ?_ _|refine blk_drew ?_|refine blk_alloc ?_ _));exact BK292.out) hb);have n2_:=Aside0.mk (below_step (by repeat (first|(with_reducible first|exact HB.out|apply below_alloc|apply pw_below_drewN|apply below_drew1|refine below_set ?_ GE292.out)|exact HB.out)) hb);have n3_:=Aside0.mk (hbox);have n4_:=Aside0.mk ((by rw [hg];exact (below_size (by repeat (first|(with_reducible first|exact HB.out|apply below_alloc|apply pw_below_drewN|apply below_drew1|refine below_set ?_ GE292.out)|exact HB.out))) : w.heap.size ≤ gb303));have n5_:=Aside0.mk ((by rw [hg];exact (below_size (by repeat (first|(with_reducible first|exact HB.out|apply below_alloc|apply pw_below_drewN|apply below_drew1|refine below_set ?_ GE292.out)|exact HB.out))) : w.heap.size ≤ gb303));have n6_:=Aside0.mk ((by rw [hg];exact Nat.ne_of_lt (blk_lt (g:=gb292) (o:=.cells #[.int .i64 ((rd_T46 l0 a1).f0),.int .i64 ((rd_T46 l0 a1).f1),.int .i64 ((rd_T46 l0 a1).f2),.string ((rd_T46 l0 a1).f3),.string ((rd_T46 l0 a1).f4)] 46 (0,0)) (by (with_reducible repeat (first|refine blk_drewN ?_ _|refine blk_drew ?_|refine blk_alloc ?_ _));exact BK292.out)) : gb292 ≠ gb303));have n7_:=Aside0.mk ((by rw [hg];exact Nat.ne_of_gt (blk_lt (g:=gb292) (o:=.cells #[.int .i64 ((rd_T46 l0 a1).f0),.int .i64 ((rd_T46 l0 a1).f1),.int .i64 ((rd_T46 l0 a1).f2),.string ((rd_T46 l0 a1).f3),.string ((rd_T46 l0 a1).f4)] 46 (0,0)) (by (with_reducible repeat (first|refine blk_drewN ?_ _|refine blk_drew ?_|refine blk_alloc ?_ _));exact BK292.out)) : gb303 ≠ gb292));clear HO301;clear BK292;clear HB;have HO301:=n0_;have BK292:=n1_;have HB:=n2_;have BK303:=n3_;have GW303:=n4_;have GE303:=n5_;have NB292_303:=n6_;have NB303_292:=n7_;clear n0_ n1_ n2_ n3_ n4_ n5_ n6_ n7_;clear hb hbox hg;have hnb63:=NB303_292.out;have hnc63:=NB292_303.out;have hcz64_0 : w62.cell? ⟨gb303,0,none⟩ = some (.int .i64 0):=(blk_cell BK303.out 0).trans rfl;have hcz64_1 : w62.cell? ⟨gb303,1,none⟩ = some (.int .i64 0):=(blk_cell BK303.out 1).trans rfl;have hcz64_2 : w62.cell? ⟨gb303,2,none⟩ = some (.slice none 0 0):=(blk_cell BK303.out 2).trans rfl;have hcz64_3 : w62.cell? ⟨gb303,3,none⟩ = some (.string (⟨#[]⟩ : ByteArray)):=(blk_cell BK303.out 3).trans rfl;have hfz64_0:=blk_frozen BK303.out 0;have hfz64_1:=blk_frozen BK303.out 1;have hfz64_2:=blk_frozen BK303.out 2;have hfz64_3:=blk_frozen BK303.out 3;obtain ⟨Ao65,co65,eo65⟩:=Kd.R_slice HO301.out;subst eo65))
          go_ret
          exact ⟨by first|rfl|(simp [errW_none,errW_some] <;> rfl)|(simp [*,errW_none,errW_some] <;> rfl),by repeat (first|(with_reducible first|exact HB.out|apply below_alloc|apply pw_below_drewN|apply below_drew1|refine below_set ?_ GE292.out|refine below_set ?_ GE303.out)|exact HB.out)⟩
       ·rw [if_neg c40] at H
        have c40b0 : (((rd_T46 l0 a1).f0) == 4) = false:=beq_eq_false_iff_ne.mpr c40
        have c40b1 : (((rd_T46 l0 a1).f0) != 4) = true:=bne_iff_ne.mpr c40
        (first|rw [c40b0]|(simp only [i64_w,i32_w];rw [c40b0])|skip)
        have H':=Aside0.mk H
        clear H
        go_wp2
        go_meet
        case rel => exact ⟨_,(by first|exact H'|(subst_vars;exact H')),⟨by have:=HJ7.out;first|omega|exact Nat.le_refl _⟩,⟨by (with_reducible repeat (first|refine blk_drewN ?_ _|refine blk_drew ?_|refine blk_alloc ?_ _));exact BK292.out⟩,⟨by repeat (first|(with_reducible first|exact HB.out|apply below_alloc|apply pw_below_drewN|apply below_drew1|refine below_set ?_ GE292.out)|exact HB.out)⟩⟩
      case rest =>
       clear HC38
       try clear c1
       try clear c2
       try clear p2
       try clear q2
       try clear hx2
       try clear c3
       try clear c4
       try clear c5
       try clear c6
       try clear c6b0
       try clear c7
       try clear c7b0
       try clear c11
       try clear c11b0
       try clear c12
       try clear c12b0
       try clear c14
       try clear c14b0
       try clear c16
       try clear c16b0
       try clear c18
       try clear c18b0
       try clear c20
       try clear c20b0
       try clear c21
       try clear c21b0
       try clear c23
       try clear c23b0
       try clear c23b1
       try clear c26
       try clear p29
       try clear q29
       try clear hx29
       try clear c30
       try clear c30b0
       try clear c30b1
       try clear c33
       try clear c37
       try clear c40
       try clear c40b0
       try clear c40b1
       try clear c41
       try clear c41b0
       try clear c41b1
       try clear c44
       try clear c44b0
       try clear c44b1
       try clear c45
       try clear c45b0
       try clear c45b1
       try clear c49
       try clear c56
       try clear c59
       try clear c63
       try clear hcz10_0
       try clear hcz10_1
       try clear hcz10_2
       try clear hcz10_3
       try clear hcz10_4
       try clear hcz13_0
       try clear hcz13_1
       try clear hcz13_2
       try clear hcz13_3
       try clear hcz13_4
       try clear hcz15_0
       try clear hcz15_1
       try clear hcz15_2
       try clear hcz15_3
       try clear hcz15_4
       try clear hcz17_0
       try clear hcz17_1
       try clear hcz17_2
       try clear hcz17_3
       try clear hcz17_4
       try clear hcz19_0
       try clear hcz19_1
       try clear hcz19_2
       try clear hcz19_3
       try clear hcz19_4
       try clear hcz22_0
       try clear hcz22_1
       try clear hcz22_2
       try clear hcz22_3
       try clear hcz22_4
       try clear hcz25_0
       try clear hcz25_1
       try clear hcz25_2
       try clear hcz25_3
       try clear hcz25_4
       try clear hcz28_0
       try clear hcz28_1
       try clear hcz28_2
       try clear hcz28_3
       try clear hcz28_4
       try clear hcz29_0
       try clear hcz29_1
       try clear hcz29_2
       try clear hcz29_3
       try clear hcz29_4
       try clear hcz32_0
       try clear hcz32_1
       try clear hcz32_2
       try clear hcz32_3
       try clear hcz32_4
       try clear hcz35_0
       try clear hcz35_1
       try clear hcz35_2
       try clear hcz35_3
       try clear hcz35_4
       try clear hcz36_0
       try clear hcz36_1
       try clear hcz36_2
       try clear hcz36_3
       try clear hcz36_4
       try clear hcz39_0
       try clear hcz39_1
       try clear hcz39_2
       try clear hcz39_3
       try clear hcz39_4
       try clear hcz42_0
       try clear hcz42_1
       try clear hcz42_2
       try clear hcz42_3
       try clear hcz42_4
       try clear hcz46_0
       try clear hcz46_1
       try clear hcz46_2
       try clear hcz46_3
       try clear hcz46_4
       try clear hcz50_0
       try clear hcz50_1
       try clear hcz50_2
       try clear hcz50_3
       try clear hcz52_0
       try clear hcz52_1
       try clear hcz52_2
       try clear hcz52_3
       try clear hcz52_4
       try clear hcz53_0
       try clear hcz53_1
       try clear hcz53_2
       try clear hcz53_3
       try clear hcz53_4
       try clear hcz57_0
       try clear hcz57_1
       try clear hcz57_2
       try clear hcz57_3
       try clear hcz59_0
       try clear hcz59_1
       try clear hcz59_2
       try clear hcz59_3
       try clear hcz59_4
       try clear hcz60_0
       try clear hcz60_1
       try clear hcz60_2
       try clear hcz60_3
       try clear hcz60_4
       try clear hcz64_0
       try clear hcz64_1
       try clear hcz64_2
       try clear hcz64_3
       try clear hfz10_0
       try clear hfz10_1
       try clear hfz10_2
       try clear hfz10_3
       try clear hfz10_4
       try clear hfz13_0
       try clear hfz13_1
       try clear hfz13_2
       try clear hfz13_3
       try clear hfz13_4
       try clear hfz15_0
       try clear hfz15_1
       try clear hfz15_2
       try clear hfz15_3
       try clear hfz15_4
       try clear hfz17_0
       try clear hfz17_1
       try clear hfz17_2
       try clear hfz17_3
       try clear hfz17_4
       try clear hfz19_0
       try clear hfz19_1
       try clear hfz19_2
       try clear hfz19_3
       try clear hfz19_4
       try clear hfz22_0
       try clear hfz22_1
       try clear hfz22_2
       try clear hfz22_3
       try clear hfz22_4
       try clear hfz25_0
       try clear hfz25_1
       try clear hfz25_2
       try clear hfz25_3
       try clear hfz25_4
       try clear hfz28_0
       try clear hfz28_1
       try clear hfz28_2
       try clear hfz28_3
       try clear hfz28_4
       try clear hfz29_0
       try clear hfz29_1
       try clear hfz29_2
       try clear hfz29_3
       try clear hfz29_4
       try clear hfz32_0
       try clear hfz32_1
       try clear hfz32_2
       try clear hfz32_3
       try clear hfz32_4
       try clear hfz35_0
       try clear hfz35_1
       try clear hfz35_2
       try clear hfz35_3
       try clear hfz35_4
       try clear hfz36_0
       try clear hfz36_1
       try clear hfz36_2
       try clear hfz36_3
       try clear hfz36_4
       try clear hfz39_0
       try clear hfz39_1
       try clear hfz39_2
       try clear hfz39_3
       try clear hfz39_4
       try clear hfz42_0
       try clear hfz42_1
       try clear hfz42_2
       try clear hfz42_3
       try clear hfz42_4
       try clear hfz46_0
       try clear hfz46_1
       try clear hfz46_2
       try clear hfz46_3
       try clear hfz46_4
       try clear hfz50_0
       try clear hfz50_1
       try clear hfz50_2
       try clear hfz50_3
       try clear hfz52_0
       try clear hfz52_1
       try clear hfz52_2
       try clear hfz52_3
       try clear hfz52_4
       try clear hfz53_0
       try clear hfz53_1
       try clear hfz53_2
       try clear hfz53_3
       try clear hfz53_4
       try clear hfz57_0
       try clear hfz57_1
       try clear hfz57_2
       try clear hfz57_3
       try clear hfz59_0
       try clear hfz59_1
       try clear hfz59_2
       try clear hfz59_3
       try clear hfz59_4
       try clear hfz60_0
       try clear hfz60_1
       try clear hfz60_2
       try clear hfz60_3
       try clear hfz60_4
       try clear hfz64_0
       try clear hfz64_1
       try clear hfz64_2
       try clear hfz64_3
       try clear hx291_0
       try clear hx291_1
       try clear hx291_2
       try clear hx291_3
       try clear hx291_4
       try clear p2
       try clear p29
       try clear p291
       try clear q2
       try clear q29
       try clear q291
       obtain ⟨kq,HA,HJ37,BK292,HB⟩:=hcut
       cases kq with
       | zero => exact absurd HA.out (by simp [racewayref25_may.j1])
       | succ kj37 =>
        have H:=HA.out
        clear HA
        simp only [racewayref25_may.j1] at H
        have HC66:=Aside0.mk H
        clear H
        go_upto_region 10 with (fail)
        go_cut [110] (fun v110 wc => ∃ (kq : Nat) (x110_65 : Bool),v110 = .bool x110_65 ∧ Aside0 (racewayref25_may.j2 kq l0 a1 a2 a4 x110_65 ((rd_T46 l0 a1).f0) ((rd_T46 l0 a1).f1) ((rd_T46 l0 a1).f2) ((rd_T46 l0 a1).f3) ((rd_T46 l0 a1).f4) = some r) ∧ Aside0 (kq ≤ kj37) ∧ Aside0 (wc.heap[gb292]? = some (.cells #[.int .i64 ((rd_T46 l0 a1).f0),.int .i64 ((rd_T46 l0 a1).f1),.int .i64 ((rd_T46 l0 a1).f2),.string ((rd_T46 l0 a1).f3),.string ((rd_T46 l0 a1).f4)] 46 (0,0))) ∧ Aside0 (Below w.heap.size w wc))
        case first =>
         have H:=HC66.out
         clear HC66
         by_cases c67 : ((rd_T46 l0 a1).f0) = 5
         ·rw [if_pos c67] at H
          have c67b0 : (((rd_T46 l0 a1).f0) == 5) = true:=beq_iff_eq.mpr c67
          have c67b1 : (((rd_T46 l0 a1).f0) != 5) = false:=bne_eq_false_iff_eq.mpr c67
          clear c67
          (first|rw [c67b0]|(simp only [i64_w,i32_w];rw [c67b0])|skip)
          replace H:=Option.bind_eq_some_iff.mp H
          obtain ⟨t304,A680,H⟩:=H
          replace H : (if t304 = true then (if ((rd_T46 l0 a1).f0) = 4 then (racewayref25_may.j2 kj37 l0 a1 a2 a4 false ((rd_T46 l0 a1).f0) ((rd_T46 l0 a1).f1) ((rd_T46 l0 a1).f2) ((rd_T46 l0 a1).f3) ((rd_T46 l0 a1).f4)) else (racewayref25_may.j2 kj37 l0 a1 a2 a4 false ((rd_T46 l0 a1).f0) ((rd_T46 l0 a1).f1) ((rd_T46 l0 a1).f2) ((rd_T46 l0 a1).f3) ((rd_T46 l0 a1).f4))) else (racewayref25_may.j2 kj37 l0 a1 a2 a4 true ((rd_T46 l0 a1).f0) ((rd_T46 l0 a1).f1) ((rd_T46 l0 a1).f2) ((rd_T46 l0 a1).f3) ((rd_T46 l0 a1).f4))) = some r:=H
          have A68:=Aside0.mk A680
          clear A680
          by_cases c69 : t304 = true
          ·subst c69
           have H1 : (if ((rd_T46 l0 a1).f0) = 4 then (racewayref25_may.j2 kj37 l0 a1 a2 a4 false ((rd_T46 l0 a1).f0) ((rd_T46 l0 a1).f1) ((rd_T46 l0 a1).f2) ((rd_T46 l0 a1).f3) ((rd_T46 l0 a1).f4)) else (racewayref25_may.j2 kj37 l0 a1 a2 a4 false ((rd_T46 l0 a1).f0) ((rd_T46 l0 a1).f1) ((rd_T46 l0 a1).f2) ((rd_T46 l0 a1).f3) ((rd_T46 l0 a1).f4))) = some r:=by rw [if_pos rfl] at H;exact H
           clear H
           have H:=H1
           clear H1
           by_cases c70 : ((rd_T46 l0 a1).f0) = 4
           ·rw [if_pos c70] at H
            have c70b0 : (((rd_T46 l0 a1).f0) == 4) = true:=beq_iff_eq.mpr c70
            have c70b1 : (((rd_T46 l0 a1).f0) != 4) = false:=bne_eq_false_iff_eq.mpr c70
            clear c70
            have H':=Aside0.mk H
            clear H
            have hcz71_0 : wc.cell? ⟨gb292,0,none⟩ = some (.int .i64 ((rd_T46 l0 a1).f0)):=(blk_cell BK292.out 0).trans rfl
            have hcz71_1 : wc.cell? ⟨gb292,1,none⟩ = some (.int .i64 ((rd_T46 l0 a1).f1)):=(blk_cell BK292.out 1).trans rfl
            have hcz71_2 : wc.cell? ⟨gb292,2,none⟩ = some (.int .i64 ((rd_T46 l0 a1).f2)):=(blk_cell BK292.out 2).trans rfl
            have hcz71_3 : wc.cell? ⟨gb292,3,none⟩ = some (.string ((rd_T46 l0 a1).f3)):=(blk_cell BK292.out 3).trans rfl
            have hcz71_4 : wc.cell? ⟨gb292,4,none⟩ = some (.string ((rd_T46 l0 a1).f4)):=(blk_cell BK292.out 4).trans rfl
            have hfz71_0:=blk_frozen BK292.out 0
            have hfz71_1:=blk_frozen BK292.out 1
            have hfz71_2:=blk_frozen BK292.out 2
            have hfz71_3:=blk_frozen BK292.out 3
            have hfz71_4:=blk_frozen BK292.out 4
            go_wp2_with (first|(go_at_call 30;(with_reducible refine (racewayref25_Valid.calls kj37 ((rd_T46 l0 a1).f4) true _ A68.out).mono ?_);rintro e w' ⟨rfl,⟨nd,rfl⟩⟩))
            go_meet
            case rel => exact ⟨_,(false),(by first|rfl|(simp;done)|(simp;decide +kernel)|(simp [*];done)),(by first|exact H'|(subst_vars;exact H')),⟨by have:=HJ7.out;have:=HJ37.out;first|omega|exact Nat.le_refl _⟩,⟨by (with_reducible repeat (first|refine blk_drewN ?_ _|refine blk_drew ?_|refine blk_alloc ?_ _));exact BK292.out⟩,⟨by repeat (first|(with_reducible first|exact HB.out|apply below_alloc|apply pw_below_drewN|apply below_drew1|refine below_set ?_ GE292.out)|exact HB.out)⟩⟩
           ·rw [if_neg c70] at H
            have c70b0 : (((rd_T46 l0 a1).f0) == 4) = false:=beq_eq_false_iff_ne.mpr c70
            have c70b1 : (((rd_T46 l0 a1).f0) != 4) = true:=bne_iff_ne.mpr c70
            have H':=Aside0.mk H
            clear H
            have hcz72_0 : wc.cell? ⟨gb292,0,none⟩ = some (.int .i64 ((rd_T46 l0 a1).f0)):=(blk_cell BK292.out 0).trans rfl
            have hcz72_1 : wc.cell? ⟨gb292,1,none⟩ = some (.int .i64 ((rd_T46 l0 a1).f1)):=(blk_cell BK292.out 1).trans rfl
            have hcz72_2 : wc.cell? ⟨gb292,2,none⟩ = some (.int .i64 ((rd_T46 l0 a1).f2)):=(blk_cell BK292.out 2).trans rfl
            have hcz72_3 : wc.cell? ⟨gb292,3,none⟩ = some (.string ((rd_T46 l0 a1).f3)):=(blk_cell BK292.out 3).trans rfl
            have hcz72_4 : wc.cell? ⟨gb292,4,none⟩ = some (.string ((rd_T46 l0 a1).f4)):=(blk_cell BK292.out 4).trans rfl
            have hfz72_0:=blk_frozen BK292.out 0
            have hfz72_1:=blk_frozen BK292.out 1
            have hfz72_2:=blk_frozen BK292.out 2
            have hfz72_3:=blk_frozen BK292.out 3
            have hfz72_4:=blk_frozen BK292.out 4
            go_wp2_with (first|(go_at_call 30;(with_reducible refine (racewayref25_Valid.calls kj37 ((rd_T46 l0 a1).f4) true _ A68.out).mono ?_);rintro e w' ⟨rfl,⟨nd,rfl⟩⟩))
            go_meet
            case rel => exact ⟨_,(false),(by first|rfl|(simp;done)|(simp;decide +kernel)|(simp [*];done)),(by first|exact H'|(subst_vars;exact H')),⟨by have:=HJ7.out;have:=HJ37.out;first|omega|exact Nat.le_refl _⟩,⟨by (with_reducible repeat (first|refine blk_drewN ?_ _|refine blk_drew ?_|refine blk_alloc ?_ _));exact BK292.out⟩,⟨by repeat (first|(with_reducible first|exact HB.out|apply below_alloc|apply pw_below_drewN|apply below_drew1|refine below_set ?_ GE292.out)|exact HB.out)⟩⟩
          ·replace c69:=Bool.eq_false_iff.mpr c69
           subst c69
           have H1 : (racewayref25_may.j2 kj37 l0 a1 a2 a4 true ((rd_T46 l0 a1).f0) ((rd_T46 l0 a1).f1) ((rd_T46 l0 a1).f2) ((rd_T46 l0 a1).f3) ((rd_T46 l0 a1).f4)) = some r:=by rw [if_neg (show ¬ (false = true) by decide)] at H;exact H
           clear H
           have H:=H1
           clear H1
           have H':=Aside0.mk H
           clear H
           have hcz73_0 : wc.cell? ⟨gb292,0,none⟩ = some (.int .i64 ((rd_T46 l0 a1).f0)):=(blk_cell BK292.out 0).trans rfl
           have hcz73_1 : wc.cell? ⟨gb292,1,none⟩ = some (.int .i64 ((rd_T46 l0 a1).f1)):=(blk_cell BK292.out 1).trans rfl
           have hcz73_2 : wc.cell? ⟨gb292,2,none⟩ = some (.int .i64 ((rd_T46 l0 a1).f2)):=(blk_cell BK292.out 2).trans rfl
           have hcz73_3 : wc.cell? ⟨gb292,3,none⟩ = some (.string ((rd_T46 l0 a1).f3)):=(blk_cell BK292.out 3).trans rfl
           have hcz73_4 : wc.cell? ⟨gb292,4,none⟩ = some (.string ((rd_T46 l0 a1).f4)):=(blk_cell BK292.out 4).trans rfl
           have hfz73_0:=blk_frozen BK292.out 0
           have hfz73_1:=blk_frozen BK292.out 1
           have hfz73_2:=blk_frozen BK292.out 2
           have hfz73_3:=blk_frozen BK292.out 3
           have hfz73_4:=blk_frozen BK292.out 4
           go_wp2_with (first|(go_at_call 30;(with_reducible refine (racewayref25_Valid.calls kj37 ((rd_T46 l0 a1).f4) false _ A68.out).mono ?_);rintro e w' ⟨rfl,⟨nd,rfl⟩⟩))
           go_meet
           case rel => exact ⟨_,(true),(by first|rfl|(simp;done)|(simp;decide +kernel)|(simp [*];done)),(by first|exact H'|(subst_vars;exact H')),⟨by have:=HJ7.out;have:=HJ37.out;first|omega|exact Nat.le_refl _⟩,⟨by (with_reducible repeat (first|refine blk_drewN ?_ _|refine blk_drew ?_|refine blk_alloc ?_ _));exact BK292.out⟩,⟨by repeat (first|(with_reducible first|exact HB.out|apply below_alloc|apply pw_below_drewN|apply below_drew1|refine below_set ?_ GE292.out)|exact HB.out)⟩⟩
         ·rw [if_neg c67] at H
          have c67b0 : (((rd_T46 l0 a1).f0) == 5) = false:=beq_eq_false_iff_ne.mpr c67
          have c67b1 : (((rd_T46 l0 a1).f0) != 5) = true:=bne_iff_ne.mpr c67
          (first|rw [c67b0]|(simp only [i64_w,i32_w];rw [c67b0])|skip)
          by_cases c74 : ((rd_T46 l0 a1).f0) = 4
          ·rw [if_pos c74] at H
           have c74b0 : (((rd_T46 l0 a1).f0) == 4) = true:=beq_iff_eq.mpr c74
           have c74b1 : (((rd_T46 l0 a1).f0) != 4) = false:=bne_eq_false_iff_eq.mpr c74
           clear c74
           have H':=Aside0.mk H
           clear H
           have hcz75_0 : wc.cell? ⟨gb292,0,none⟩ = some (.int .i64 ((rd_T46 l0 a1).f0)):=(blk_cell BK292.out 0).trans rfl
           have hcz75_1 : wc.cell? ⟨gb292,1,none⟩ = some (.int .i64 ((rd_T46 l0 a1).f1)):=(blk_cell BK292.out 1).trans rfl
           have hcz75_2 : wc.cell? ⟨gb292,2,none⟩ = some (.int .i64 ((rd_T46 l0 a1).f2)):=(blk_cell BK292.out 2).trans rfl
           have hcz75_3 : wc.cell? ⟨gb292,3,none⟩ = some (.string ((rd_T46 l0 a1).f3)):=(blk_cell BK292.out 3).trans rfl
           have hcz75_4 : wc.cell? ⟨gb292,4,none⟩ = some (.string ((rd_T46 l0 a1).f4)):=(blk_cell BK292.out 4).trans rfl
           have hfz75_0:=blk_frozen BK292.out 0
           have hfz75_1:=blk_frozen BK292.out 1
           have hfz75_2:=blk_frozen BK292.out 2
           have hfz75_3:=blk_frozen BK292.out 3
           have hfz75_4:=blk_frozen BK292.out 4
           go_wp2
           go_meet
           case rel => exact ⟨_,(false),(by first|rfl|(simp;done)|(simp;decide +kernel)|(simp [*];done)),(by first|exact H'|(subst_vars;exact H')),⟨by have:=HJ7.out;have:=HJ37.out;first|omega|exact Nat.le_refl _⟩,⟨by (with_reducible repeat (first|refine blk_drewN ?_ _|refine blk_drew ?_|refine blk_alloc ?_ _));exact BK292.out⟩,⟨by repeat (first|(with_reducible first|exact HB.out|apply below_alloc|apply pw_below_drewN|apply below_drew1|refine below_set ?_ GE292.out)|exact HB.out)⟩⟩
          ·rw [if_neg c74] at H
           have c74b0 : (((rd_T46 l0 a1).f0) == 4) = false:=beq_eq_false_iff_ne.mpr c74
           have c74b1 : (((rd_T46 l0 a1).f0) != 4) = true:=bne_iff_ne.mpr c74
           have H':=Aside0.mk H
           clear H
           have hcz76_0 : wc.cell? ⟨gb292,0,none⟩ = some (.int .i64 ((rd_T46 l0 a1).f0)):=(blk_cell BK292.out 0).trans rfl
           have hcz76_1 : wc.cell? ⟨gb292,1,none⟩ = some (.int .i64 ((rd_T46 l0 a1).f1)):=(blk_cell BK292.out 1).trans rfl
           have hcz76_2 : wc.cell? ⟨gb292,2,none⟩ = some (.int .i64 ((rd_T46 l0 a1).f2)):=(blk_cell BK292.out 2).trans rfl
           have hcz76_3 : wc.cell? ⟨gb292,3,none⟩ = some (.string ((rd_T46 l0 a1).f3)):=(blk_cell BK292.out 3).trans rfl
           have hcz76_4 : wc.cell? ⟨gb292,4,none⟩ = some (.string ((rd_T46 l0 a1).f4)):=(blk_cell BK292.out 4).trans rfl
           have hfz76_0:=blk_frozen BK292.out 0
           have hfz76_1:=blk_frozen BK292.out 1
           have hfz76_2:=blk_frozen BK292.out 2
           have hfz76_3:=blk_frozen BK292.out 3
           have hfz76_4:=blk_frozen BK292.out 4
           go_wp2
           go_meet
           case rel => exact ⟨_,((((rd_T46 l0 a1).f4).toList != ([] : List UInt8))),(by first|(simp [show ∀ l : List UInt8,(l != []) = !l.isEmpty from fun l => by cases l <;> rfl];done)|rfl|(simp;done)|(simp;decide +kernel)|(simp [*];done)),(by first|exact H'|(subst_vars;exact H')),⟨by have:=HJ7.out;have:=HJ37.out;first|omega|exact Nat.le_refl _⟩,⟨by (with_reducible repeat (first|refine blk_drewN ?_ _|refine blk_drew ?_|refine blk_alloc ?_ _));exact BK292.out⟩,⟨by repeat (first|(with_reducible first|exact HB.out|apply below_alloc|apply pw_below_drewN|apply below_drew1|refine below_set ?_ GE292.out)|exact HB.out)⟩⟩
        case rest =>
         clear HC66
         try clear c1
         try clear c2
         try clear p2
         try clear q2
         try clear hx2
         try clear c3
         try clear c4
         try clear c5
         try clear c6
         try clear c6b0
         try clear c7
         try clear c7b0
         try clear c11
         try clear c11b0
         try clear c12
         try clear c12b0
         try clear c14
         try clear c14b0
         try clear c16
         try clear c16b0
         try clear c18
         try clear c18b0
         try clear c20
         try clear c20b0
         try clear c21
         try clear c21b0
         try clear c23
         try clear c23b0
         try clear c23b1
         try clear c26
         try clear p29
         try clear q29
         try clear hx29
         try clear c30
         try clear c30b0
         try clear c30b1
         try clear c33
         try clear c37
         try clear c40
         try clear c40b0
         try clear c40b1
         try clear c41
         try clear c41b0
         try clear c41b1
         try clear c44
         try clear c44b0
         try clear c44b1
         try clear c45
         try clear c45b0
         try clear c45b1
         try clear c49
         try clear c56
         try clear c59
         try clear c63
         try clear c67
         try clear c67b0
         try clear c67b1
         try clear c69
         try clear c70
         try clear c70b0
         try clear c70b1
         try clear c74
         try clear c74b0
         try clear c74b1
         try clear hcz10_0
         try clear hcz10_1
         try clear hcz10_2
         try clear hcz10_3
         try clear hcz10_4
         try clear hcz13_0
         try clear hcz13_1
         try clear hcz13_2
         try clear hcz13_3
         try clear hcz13_4
         try clear hcz15_0
         try clear hcz15_1
         try clear hcz15_2
         try clear hcz15_3
         try clear hcz15_4
         try clear hcz17_0
         try clear hcz17_1
         try clear hcz17_2
         try clear hcz17_3
         try clear hcz17_4
         try clear hcz19_0
         try clear hcz19_1
         try clear hcz19_2
         try clear hcz19_3
         try clear hcz19_4
         try clear hcz22_0
         try clear hcz22_1
         try clear hcz22_2
         try clear hcz22_3
         try clear hcz22_4
         try clear hcz25_0
         try clear hcz25_1
         try clear hcz25_2
         try clear hcz25_3
         try clear hcz25_4
         try clear hcz28_0
         try clear hcz28_1
         try clear hcz28_2
         try clear hcz28_3
         try clear hcz28_4
         try clear hcz29_0
         try clear hcz29_1
         try clear hcz29_2
         try clear hcz29_3
         try clear hcz29_4
         try clear hcz32_0
         try clear hcz32_1
         try clear hcz32_2
         try clear hcz32_3
         try clear hcz32_4
         try clear hcz35_0
         try clear hcz35_1
         try clear hcz35_2
         try clear hcz35_3
         try clear hcz35_4
         try clear hcz36_0
         try clear hcz36_1
         try clear hcz36_2
         try clear hcz36_3
         try clear hcz36_4
         try clear hcz39_0
         try clear hcz39_1
         try clear hcz39_2
         try clear hcz39_3
         try clear hcz39_4
         try clear hcz42_0
         try clear hcz42_1
         try clear hcz42_2
         try clear hcz42_3
         try clear hcz42_4
         try clear hcz46_0
         try clear hcz46_1
         try clear hcz46_2
         try clear hcz46_3
         try clear hcz46_4
         try clear hcz50_0
         try clear hcz50_1
         try clear hcz50_2
         try clear hcz50_3
         try clear hcz52_0
         try clear hcz52_1
         try clear hcz52_2
         try clear hcz52_3
         try clear hcz52_4
         try clear hcz53_0
         try clear hcz53_1
         try clear hcz53_2
         try clear hcz53_3
         try clear hcz53_4
         try clear hcz57_0
         try clear hcz57_1
         try clear hcz57_2
         try clear hcz57_3
         try clear hcz59_0
         try clear hcz59_1
         try clear hcz59_2
         try clear hcz59_3
         try clear hcz59_4
         try clear hcz60_0
         try clear hcz60_1
         try clear hcz60_2
         try clear hcz60_3
         try clear hcz60_4
         try clear hcz64_0
         try clear hcz64_1
         try clear hcz64_2
         try clear hcz64_3
         try clear hcz71_0
         try clear hcz71_1
         try clear hcz71_2
         try clear hcz71_3
         try clear hcz71_4
         try clear hcz72_0
         try clear hcz72_1
         try clear hcz72_2
         try clear hcz72_3
         try clear hcz72_4
         try clear hcz73_0
         try clear hcz73_1
         try clear hcz73_2
         try clear hcz73_3
         try clear hcz73_4
         try clear hcz75_0
         try clear hcz75_1
         try clear hcz75_2
         try clear hcz75_3
         try clear hcz75_4
         try clear hcz76_0
         try clear hcz76_1
         try clear hcz76_2
         try clear hcz76_3
         try clear hcz76_4
         try clear hfz10_0
         try clear hfz10_1
         try clear hfz10_2
         try clear hfz10_3
         try clear hfz10_4
         try clear hfz13_0
         try clear hfz13_1
         try clear hfz13_2
         try clear hfz13_3
         try clear hfz13_4
         try clear hfz15_0
         try clear hfz15_1
         try clear hfz15_2
         try clear hfz15_3
         try clear hfz15_4
         try clear hfz17_0
         try clear hfz17_1
         try clear hfz17_2
         try clear hfz17_3
         try clear hfz17_4
         try clear hfz19_0
         try clear hfz19_1
         try clear hfz19_2
         try clear hfz19_3
         try clear hfz19_4
         try clear hfz22_0
         try clear hfz22_1
         try clear hfz22_2
         try clear hfz22_3
         try clear hfz22_4
         try clear hfz25_0
         try clear hfz25_1
         try clear hfz25_2
         try clear hfz25_3
         try clear hfz25_4
         try clear hfz28_0
         try clear hfz28_1
         try clear hfz28_2
         try clear hfz28_3
         try clear hfz28_4
         try clear hfz29_0
         try clear hfz29_1
         try clear hfz29_2
         try clear hfz29_3
         try clear hfz29_4
         try clear hfz32_0
         try clear hfz32_1
         try clear hfz32_2
         try clear hfz32_3
         try clear hfz32_4
         try clear hfz35_0
         try clear hfz35_1
         try clear hfz35_2
         try clear hfz35_3
         try clear hfz35_4
         try clear hfz36_0
         try clear hfz36_1
         try clear hfz36_2
         try clear hfz36_3
         try clear hfz36_4
         try clear hfz39_0
         try clear hfz39_1
         try clear hfz39_2
         try clear hfz39_3
         try clear hfz39_4
         try clear hfz42_0
         try clear hfz42_1
         try clear hfz42_2
         try clear hfz42_3
         try clear hfz42_4
         try clear hfz46_0
         try clear hfz46_1
         try clear hfz46_2
         try clear hfz46_3
         try clear hfz46_4
         try clear hfz50_0
         try clear hfz50_1
         try clear hfz50_2
         try clear hfz50_3
         try clear hfz52_0
         try clear hfz52_1
         try clear hfz52_2
         try clear hfz52_3
         try clear hfz52_4
         try clear hfz53_0
         try clear hfz53_1
         try clear hfz53_2
         try clear hfz53_3
         try clear hfz53_4
         try clear hfz57_0
         try clear hfz57_1
         try clear hfz57_2
         try clear hfz57_3
         try clear hfz59_0
         try clear hfz59_1
         try clear hfz59_2
         try clear hfz59_3
         try clear hfz59_4
         try clear hfz60_0
         try clear hfz60_1
         try clear hfz60_2
         try clear hfz60_3
         try clear hfz60_4
         try clear hfz64_0
         try clear hfz64_1
         try clear hfz64_2
         try clear hfz64_3
         try clear hfz71_0
         try clear hfz71_1
         try clear hfz71_2
         try clear hfz71_3
         try clear hfz71_4
         try clear hfz72_0
         try clear hfz72_1
         try clear hfz72_2
         try clear hfz72_3
         try clear hfz72_4
         try clear hfz73_0
         try clear hfz73_1
         try clear hfz73_2
         try clear hfz73_3
         try clear hfz73_4
         try clear hfz75_0
         try clear hfz75_1
         try clear hfz75_2
         try clear hfz75_3
         try clear hfz75_4
         try clear hfz76_0
         try clear hfz76_1
         try clear hfz76_2
         try clear hfz76_3
         try clear hfz76_4
         try clear hx291_0
         try clear hx291_1
         try clear hx291_2
         try clear hx291_3
         try clear hx291_4
         try clear p2
         try clear p29
         try clear p291
         try clear q2
         try clear q29
         try clear q291
         obtain ⟨kq,x110_65,rfl,HA,HJ65,BK292,HB⟩:=hcut
         cases kq with
         | zero => exact absurd HA.out (by simp [racewayref25_may.j2])
         | succ kj65 =>
          have H:=HA.out
          clear HA
          simp only [racewayref25_may.j2] at H
          by_cases c77 : x110_65 = true
          ·subst c77
           have H1 : (some (-1)) = some r:=by rw [if_pos rfl] at H;exact H
           clear H
           have H:=H1
           clear H1
           obtain rfl:=Option.some.inj H
           go_wp2
           go_ret
           exact ⟨by first|rfl|(simp [errW_none,errW_some] <;> rfl)|(simp [*,errW_none,errW_some] <;> rfl),by repeat (first|(with_reducible first|exact HB.out|apply below_alloc|apply pw_below_drewN|apply below_drew1|refine below_set ?_ GE292.out)|exact HB.out)⟩
          ·replace c77:=Bool.eq_false_iff.mpr c77
           subst c77
           have H1 : (racewayref25_may.l0 kj65 l0 a1 a2 a4 (wrap64 (a1 + 1)) 0 ((rd_T46 l0 a1).f0) ((rd_T46 l0 a1).f1) ((rd_T46 l0 a1).f2) ((rd_T46 l0 a1).f3) ((rd_T46 l0 a1).f4)) = some r:=by rw [if_neg (show ¬ (false = true) by decide)] at H;exact H
           clear H
           have H:=H1
           clear H1
           have H':=Aside0.mk H
           clear H
           go_wp2
           go_loopg [13,14] kj65 (fun kq v13 v14 w' => ∃ (x13_4 : Int) (x14_4 : Int),v13 = .int .i64 x13_4 ∧ v14 = .int .i64 x14_4 ∧ Aside0 (racewayref25_may.l0 kq l0 a1 a2 a4 x13_4 x14_4 ((rd_T46 l0 a1).f0) ((rd_T46 l0 a1).f1) ((rd_T46 l0 a1).f2) ((rd_T46 l0 a1).f3) ((rd_T46 l0 a1).f4) = some r) ∧ Aside0 (kq ≤ kj65) ∧ Aside0 (w'.heap[gb292]? = some (.cells #[.int .i64 ((rd_T46 l0 a1).f0),.int .i64 ((rd_T46 l0 a1).f1),.int .i64 ((rd_T46 l0 a1).f2),.string ((rd_T46 l0 a1).f3),.string ((rd_T46 l0 a1).f4)] 46 (0,0))) ∧ Aside0 (Below w.heap.size w w'))
           case atStart => exact ⟨(wrap64 (a1 + 1)),(0),(by first|rfl|(simp;done)|(simp;decide +kernel)|(simp [*];done)),(by first|rfl|(simp;done)|(simp;decide +kernel)|(simp [*];done)),(by first|exact H'|(subst_vars;exact H')),⟨Nat.le_refl _⟩,⟨by (with_reducible repeat (first|refine blk_drewN ?_ _|refine blk_drew ?_|refine blk_alloc ?_ _));exact BK292.out⟩,⟨by repeat (first|(with_reducible first|exact HB.out|apply below_alloc|apply pw_below_drewN|apply below_drew1|refine below_set ?_ GE292.out)|exact HB.out)⟩⟩
           case round =>
            clear H'
            try clear c1
            try clear c2
            try clear p2
            try clear q2
            try clear hx2
            try clear c3
            try clear c4
            try clear c5
            try clear c6
            try clear c6b0
            try clear p6
            try clear c7
            try clear c7b0
            try clear c11
            try clear c11b0
            try clear c12
            try clear c12b0
            try clear c14
            try clear c14b0
            try clear c16
            try clear c16b0
            try clear c18
            try clear c18b0
            try clear c20
            try clear c20b0
            try clear c21
            try clear c21b0
            try clear c23
            try clear c23b0
            try clear c23b1
            try clear c26
            try clear p29
            try clear q29
            try clear hx29
            try clear c30
            try clear c30b0
            try clear c30b1
            try clear c33
            try clear c37
            try clear c40
            try clear c40b0
            try clear c40b1
            try clear c41
            try clear c41b0
            try clear c41b1
            try clear c44
            try clear c44b0
            try clear c44b1
            try clear c45
            try clear c45b0
            try clear c45b1
            try clear c49
            try clear c56
            try clear c59
            try clear c63
            try clear p64
            try clear c67
            try clear c67b0
            try clear c67b1
            try clear c69
            try clear c70
            try clear c70b0
            try clear c70b1
            try clear c74
            try clear c74b0
            try clear c74b1
            try clear c77
            try clear hcz10_0
            try clear hcz10_1
            try clear hcz10_2
            try clear hcz10_3
            try clear hcz10_4
            try clear hcz13_0
            try clear hcz13_1
            try clear hcz13_2
            try clear hcz13_3
            try clear hcz13_4
            try clear hcz15_0
            try clear hcz15_1
            try clear hcz15_2
            try clear hcz15_3
            try clear hcz15_4
            try clear hcz17_0
            try clear hcz17_1
            try clear hcz17_2
            try clear hcz17_3
            try clear hcz17_4
            try clear hcz19_0
            try clear hcz19_1
            try clear hcz19_2
            try clear hcz19_3
            try clear hcz19_4
            try clear hcz22_0
            try clear hcz22_1
            try clear hcz22_2
            try clear hcz22_3
            try clear hcz22_4
            try clear hcz25_0
            try clear hcz25_1
            try clear hcz25_2
            try clear hcz25_3
            try clear hcz25_4
            try clear hcz28_0
            try clear hcz28_1
            try clear hcz28_2
            try clear hcz28_3
            try clear hcz28_4
            try clear hcz29_0
            try clear hcz29_1
            try clear hcz29_2
            try clear hcz29_3
            try clear hcz29_4
            try clear hcz32_0
            try clear hcz32_1
            try clear hcz32_2
            try clear hcz32_3
            try clear hcz32_4
            try clear hcz35_0
            try clear hcz35_1
            try clear hcz35_2
            try clear hcz35_3
            try clear hcz35_4
            try clear hcz36_0
            try clear hcz36_1
            try clear hcz36_2
            try clear hcz36_3
            try clear hcz36_4
            try clear hcz39_0
            try clear hcz39_1
            try clear hcz39_2
            try clear hcz39_3
            try clear hcz39_4
            try clear hcz42_0
            try clear hcz42_1
            try clear hcz42_2
            try clear hcz42_3
            try clear hcz42_4
            try clear hcz46_0
            try clear hcz46_1
            try clear hcz46_2
            try clear hcz46_3
            try clear hcz46_4
            try clear hcz50_0
            try clear hcz50_1
            try clear hcz50_2
            try clear hcz50_3
            try clear hcz52_0
            try clear hcz52_1
            try clear hcz52_2
            try clear hcz52_3
            try clear hcz52_4
            try clear hcz53_0
            try clear hcz53_1
            try clear hcz53_2
            try clear hcz53_3
            try clear hcz53_4
            try clear hcz57_0
            try clear hcz57_1
            try clear hcz57_2
            try clear hcz57_3
            try clear hcz59_0
            try clear hcz59_1
            try clear hcz59_2
            try clear hcz59_3
            try clear hcz59_4
            try clear hcz60_0
            try clear hcz60_1
            try clear hcz60_2
            try clear hcz60_3
            try clear hcz60_4
            try clear hcz64_0
            try clear hcz64_1
            try clear hcz64_2
            try clear hcz64_3
            try clear hcz71_0
            try clear hcz71_1
            try clear hcz71_2
            try clear hcz71_3
            try clear hcz71_4
            try clear hcz72_0
            try clear hcz72_1
            try clear hcz72_2
            try clear hcz72_3
            try clear hcz72_4
            try clear hcz73_0
            try clear hcz73_1
            try clear hcz73_2
            try clear hcz73_3
            try clear hcz73_4
            try clear hcz75_0
            try clear hcz75_1
            try clear hcz75_2
            try clear hcz75_3
            try clear hcz75_4
            try clear hcz76_0
            try clear hcz76_1
            try clear hcz76_2
            try clear hcz76_3
            try clear hcz76_4
            try clear hfz10_0
            try clear hfz10_1
            try clear hfz10_2
            try clear hfz10_3
            try clear hfz10_4
            try clear hfz13_0
            try clear hfz13_1
            try clear hfz13_2
            try clear hfz13_3
            try clear hfz13_4
            try clear hfz15_0
            try clear hfz15_1
            try clear hfz15_2
            try clear hfz15_3
            try clear hfz15_4
            try clear hfz17_0
            try clear hfz17_1
            try clear hfz17_2
            try clear hfz17_3
            try clear hfz17_4
            try clear hfz19_0
            try clear hfz19_1
            try clear hfz19_2
            try clear hfz19_3
            try clear hfz19_4
            try clear hfz22_0
            try clear hfz22_1
            try clear hfz22_2
            try clear hfz22_3
            try clear hfz22_4
            try clear hfz25_0
            try clear hfz25_1
            try clear hfz25_2
            try clear hfz25_3
            try clear hfz25_4
            try clear hfz28_0
            try clear hfz28_1
            try clear hfz28_2
            try clear hfz28_3
            try clear hfz28_4
            try clear hfz29_0
            try clear hfz29_1
            try clear hfz29_2
            try clear hfz29_3
            try clear hfz29_4
            try clear hfz32_0
            try clear hfz32_1
            try clear hfz32_2
            try clear hfz32_3
            try clear hfz32_4
            try clear hfz35_0
            try clear hfz35_1
            try clear hfz35_2
            try clear hfz35_3
            try clear hfz35_4
            try clear hfz36_0
            try clear hfz36_1
            try clear hfz36_2
            try clear hfz36_3
            try clear hfz36_4
            try clear hfz39_0
            try clear hfz39_1
            try clear hfz39_2
            try clear hfz39_3
            try clear hfz39_4
            try clear hfz42_0
            try clear hfz42_1
            try clear hfz42_2
            try clear hfz42_3
            try clear hfz42_4
            try clear hfz46_0
            try clear hfz46_1
            try clear hfz46_2
            try clear hfz46_3
            try clear hfz46_4
            try clear hfz50_0
            try clear hfz50_1
            try clear hfz50_2
            try clear hfz50_3
            try clear hfz52_0
            try clear hfz52_1
            try clear hfz52_2
            try clear hfz52_3
            try clear hfz52_4
            try clear hfz53_0
            try clear hfz53_1
            try clear hfz53_2
            try clear hfz53_3
            try clear hfz53_4
            try clear hfz57_0
            try clear hfz57_1
            try clear hfz57_2
            try clear hfz57_3
            try clear hfz59_0
            try clear hfz59_1
            try clear hfz59_2
            try clear hfz59_3
            try clear hfz59_4
            try clear hfz60_0
            try clear hfz60_1
            try clear hfz60_2
            try clear hfz60_3
            try clear hfz60_4
            try clear hfz64_0
            try clear hfz64_1
            try clear hfz64_2
            try clear hfz64_3
            try clear hfz71_0
            try clear hfz71_1
            try clear hfz71_2
            try clear hfz71_3
            try clear hfz71_4
            try clear hfz72_0
            try clear hfz72_1
            try clear hfz72_2
            try clear hfz72_3
            try clear hfz72_4
            try clear hfz73_0
            try clear hfz73_1
            try clear hfz73_2
            try clear hfz73_3
            try clear hfz73_4
            try clear hfz75_0
            try clear hfz75_1
            try clear hfz75_2
            try clear hfz75_3
            try clear hfz75_4
            try clear hfz76_0
            try clear hfz76_1
            try clear hfz76_2
            try clear hfz76_3
            try clear hfz76_4
            try clear hx291_0
            try clear hx291_1
            try clear hx291_2
            try clear hx291_3
            try clear hx291_4
            try clear p2
            try clear p29
            try clear p291
            try clear q2
            try clear q29
            try clear q291
            obtain ⟨x13_4,x14_4,rfl,rfl,HA,HK4,BK292,HB⟩:=hrel
            cases gk with
            | zero => exact absurd HA.out (by simp [racewayref25_may.l0])
            | succ k4 =>
             have H:=HA.out
             clear HA
             simp only [racewayref25_may.l0] at H
             by_cases c78 : x14_4 < ((rd_T46 l0 a1).f2)
             ·rw [if_pos c78] at H
              have c78b0 : decide (x14_4 < ((rd_T46 l0 a1).f2)) = true:=decide_eq_true c78
              clear c78
              by_cases c79 : x13_4 ≥ a2
              ·rw [if_pos c79] at H
               have c79b0 : decide (a2 ≤ x13_4) = true:=decide_eq_true c79
               clear c79
               obtain rfl:=Option.some.inj H
               have hcz80_0 : wr.cell? ⟨gb292,0,none⟩ = some (.int .i64 ((rd_T46 l0 a1).f0)):=(blk_cell BK292.out 0).trans rfl
               have hcz80_1 : wr.cell? ⟨gb292,1,none⟩ = some (.int .i64 ((rd_T46 l0 a1).f1)):=(blk_cell BK292.out 1).trans rfl
               have hcz80_2 : wr.cell? ⟨gb292,2,none⟩ = some (.int .i64 ((rd_T46 l0 a1).f2)):=(blk_cell BK292.out 2).trans rfl
               have hcz80_3 : wr.cell? ⟨gb292,3,none⟩ = some (.string ((rd_T46 l0 a1).f3)):=(blk_cell BK292.out 3).trans rfl
               have hcz80_4 : wr.cell? ⟨gb292,4,none⟩ = some (.string ((rd_T46 l0 a1).f4)):=(blk_cell BK292.out 4).trans rfl
               have hfz80_0:=blk_frozen BK292.out 0
               have hfz80_1:=blk_frozen BK292.out 1
               have hfz80_2:=blk_frozen BK292.out 2
               have hfz80_3:=blk_frozen BK292.out 3
               have hfz80_4:=blk_frozen BK292.out 4
               go_wp2
               go_ret
               exact ⟨by first|rfl|(simp [errW_none,errW_some] <;> rfl)|(simp [*,errW_none,errW_some] <;> rfl),by repeat (first|(with_reducible first|exact HB.out|apply below_alloc|apply pw_below_drewN|apply below_drew1|refine below_set ?_ GE292.out)|exact HB.out)⟩
              ·rw [if_neg c79] at H
               have c79b0 : decide (a2 ≤ x13_4) = false:=decide_eq_false c79
               clear c79
               replace H:=Option.bind_eq_some_iff.mp H
               obtain ⟨t305,A810,H⟩:=H
               replace H : (if t305 < 0 then (some (-1)) else (racewayref25_may.l0 k4 l0 a1 a2 a4 t305 (wrap64 (x14_4 + 1)) ((rd_T46 l0 a1).f0) ((rd_T46 l0 a1).f1) ((rd_T46 l0 a1).f2) ((rd_T46 l0 a1).f3) ((rd_T46 l0 a1).f4))) = some r:=H
               have A81:=Aside0.mk A810
               clear A810
               by_cases c82 : t305 < 0
               ·rw [if_pos c82] at H
                have c82b0 : decide (t305 < 0) = true:=decide_eq_true c82
                clear c82
                obtain rfl:=Option.some.inj H
                have hcz83_0 : wr.cell? ⟨gb292,0,none⟩ = some (.int .i64 ((rd_T46 l0 a1).f0)):=(blk_cell BK292.out 0).trans rfl
                have hcz83_1 : wr.cell? ⟨gb292,1,none⟩ = some (.int .i64 ((rd_T46 l0 a1).f1)):=(blk_cell BK292.out 1).trans rfl
                have hcz83_2 : wr.cell? ⟨gb292,2,none⟩ = some (.int .i64 ((rd_T46 l0 a1).f2)):=(blk_cell BK292.out 2).trans rfl
                have hcz83_3 : wr.cell? ⟨gb292,3,none⟩ = some (.string ((rd_T46 l0 a1).f3)):=(blk_cell BK292.out 3).trans rfl
                have hcz83_4 : wr.cell? ⟨gb292,4,none⟩ = some (.string ((rd_T46 l0 a1).f4)):=(blk_cell BK292.out 4).trans rfl
                have hfz83_0:=blk_frozen BK292.out 0
                have hfz83_1:=blk_frozen BK292.out 1
                have hfz83_2:=blk_frozen BK292.out 2
                have hfz83_3:=blk_frozen BK292.out 3
                have hfz83_4:=blk_frozen BK292.out 4
                go_wp2_with (first|((with_reducible refine gate_callee (f:=41) rfl ?_);refine goesL_ (some 130) rfl rfl Tryd.func41 (by kernel_rfl) rfl #[.slice (some ad291) l0.length c0,.int .i64 x13_4,.int .i64 a2,.bool (((rd_T46 l0 a1).f0) == 7),.int .i64 (wrap64 (a4 + 1))] rfl (by (try simp only [List.map_toArray,List.map_cons,List.map_nil]);first|done|rfl|(simp only [List.length_drop,List.length_take];rfl)) ?_;(with_reducible refine (ih k4 (by have:=HJ7.out;have:=HJ37.out;have:=HJ65.out;have:=HK4.out;omega) _ _ l0 x13_4 a2 (((rd_T46 l0 a1).f0) == 7) (wrap64 (a4 + 1)) t305 _ ?side1 ?side2 A81.out).mono ?_);(case side1 => repeat (first|exact (Kd.C_below HR0.out HB.out)|(with_reducible refine Kd.C_alloc ?_ _)|(with_reducible refine Kd.C_drewN ?_ _)|(with_reducible refine Kd.C_drew ?_)));(case side2 => exact HC0.out);rintro e w84 ⟨rfl,hb⟩;refine ⟨_,rfl,?_⟩;have n0_:=Aside0.mk (blk_below (g:=gb292) (o:=.cells #[.int .i64 ((rd_T46 l0 a1).f0),.int .i64 ((rd_T46 l0 a1).f1),.int .i64 ((rd_T46 l0 a1).f2),.string ((rd_T46 l0 a1).f3),.string ((rd_T46 l0 a1).f4)] 46 (0,0)) (by (with_reducible repeat (first|refine blk_drewN ?_ _|refine blk_drew ?_|refine blk_alloc ?_ _));exact BK292.out) hb);have n1_:=Aside0.mk (below_step (by repeat (first|(with_reducible first|exact HB.out|apply below_alloc|apply pw_below_drewN|apply below_drew1|refine below_set ?_ GE292.out)|exact HB.out)) hb);clear BK292;clear HB;have BK292:=n0_;have HB:=n1_;clear n0_ n1_;(try clear hb);(try clear hb2);(try clear hk);(try clear hi)))
                go_ret
                exact ⟨by first|rfl|(simp [errW_none,errW_some] <;> rfl)|(simp [*,errW_none,errW_some] <;> rfl),by repeat (first|(with_reducible first|exact HB.out|apply below_alloc|apply pw_below_drewN|apply below_drew1|refine below_set ?_ GE292.out)|exact HB.out)⟩
               ·rw [if_neg c82] at H
                have c82b0 : decide (t305 < 0) = false:=decide_eq_false c82
                clear c82
                have H':=Aside0.mk H
                clear H
                have hcz85_0 : wr.cell? ⟨gb292,0,none⟩ = some (.int .i64 ((rd_T46 l0 a1).f0)):=(blk_cell BK292.out 0).trans rfl
                have hcz85_1 : wr.cell? ⟨gb292,1,none⟩ = some (.int .i64 ((rd_T46 l0 a1).f1)):=(blk_cell BK292.out 1).trans rfl
                have hcz85_2 : wr.cell? ⟨gb292,2,none⟩ = some (.int .i64 ((rd_T46 l0 a1).f2)):=(blk_cell BK292.out 2).trans rfl
                have hcz85_3 : wr.cell? ⟨gb292,3,none⟩ = some (.string ((rd_T46 l0 a1).f3)):=(blk_cell BK292.out 3).trans rfl
                have hcz85_4 : wr.cell? ⟨gb292,4,none⟩ = some (.string ((rd_T46 l0 a1).f4)):=(blk_cell BK292.out 4).trans rfl
                have hfz85_0:=blk_frozen BK292.out 0
                have hfz85_1:=blk_frozen BK292.out 1
                have hfz85_2:=blk_frozen BK292.out 2
                have hfz85_3:=blk_frozen BK292.out 3
                have hfz85_4:=blk_frozen BK292.out 4
                go_wp2_with (first|((with_reducible refine gate_callee (f:=41) rfl ?_);refine goesL_ (some 130) rfl rfl Tryd.func41 (by kernel_rfl) rfl #[.slice (some ad291) l0.length c0,.int .i64 x13_4,.int .i64 a2,.bool (((rd_T46 l0 a1).f0) == 7),.int .i64 (wrap64 (a4 + 1))] rfl (by (try simp only [List.map_toArray,List.map_cons,List.map_nil]);first|done|rfl|(simp only [List.length_drop,List.length_take];rfl)) ?_;(with_reducible refine (ih k4 (by have:=HJ7.out;have:=HJ37.out;have:=HJ65.out;have:=HK4.out;omega) _ _ l0 x13_4 a2 (((rd_T46 l0 a1).f0) == 7) (wrap64 (a4 + 1)) t305 _ ?side1 ?side2 A81.out).mono ?_);(case side1 => repeat (first|exact (Kd.C_below HR0.out HB.out)|(with_reducible refine Kd.C_alloc ?_ _)|(with_reducible refine Kd.C_drewN ?_ _)|(with_reducible refine Kd.C_drew ?_)));(case side2 => exact HC0.out);rintro e w86 ⟨rfl,hb⟩;refine ⟨_,rfl,?_⟩;have n0_:=Aside0.mk (blk_below (g:=gb292) (o:=.cells #[.int .i64 ((rd_T46 l0 a1).f0),.int .i64 ((rd_T46 l0 a1).f1),.int .i64 ((rd_T46 l0 a1).f2),.string ((rd_T46 l0 a1).f3),.string ((rd_T46 l0 a1).f4)] 46 (0,0)) (by (with_reducible repeat (first|refine blk_drewN ?_ _|refine blk_drew ?_|refine blk_alloc ?_ _));exact BK292.out) hb);have n1_:=Aside0.mk (below_step (by repeat (first|(with_reducible first|exact HB.out|apply below_alloc|apply pw_below_drewN|apply below_drew1|refine below_set ?_ GE292.out)|exact HB.out)) hb);clear BK292;clear HB;have BK292:=n0_;have HB:=n1_;clear n0_ n1_;(try clear hb);(try clear hb2);(try clear hk);(try clear hi)))
                go_roundg k4
                case measure => have:=HJ7.out;have:=HJ37.out;have:=HJ65.out;have:=HK4.out;omega
                case rel => exact ⟨(t305),(wrap64 (x14_4 + 1)),(by first|rfl|(simp;done)|(simp;decide +kernel)|(simp [*];done)),(by first|rfl|(simp;done)|(simp;decide +kernel)|(simp [*];done)),(by first|exact H'|(subst_vars;exact H')),⟨by have:=HJ7.out;have:=HJ37.out;have:=HJ65.out;have:=HK4.out;omega⟩,⟨by (with_reducible repeat (first|refine blk_drewN ?_ _|refine blk_drew ?_|refine blk_alloc ?_ _));exact BK292.out⟩,⟨by repeat (first|(with_reducible first|exact HB.out|apply below_alloc|apply pw_below_drewN|apply below_drew1|refine below_set ?_ GE292.out)|exact HB.out)⟩⟩
             ·rw [if_neg c78] at H
              have c78b0 : decide (x14_4 < ((rd_T46 l0 a1).f2)) = false:=decide_eq_false c78
              clear c78
              by_cases c87 : ((rd_T46 l0 a1).f1) = (wrap64 (x13_4 - a1))
              ·rw [if_pos c87] at H
               have c87b0 : (((rd_T46 l0 a1).f1) == (wrap64 (x13_4 - a1))) = true:=beq_iff_eq.mpr c87
               have c87b1 : (((rd_T46 l0 a1).f1) != (wrap64 (x13_4 - a1))) = false:=bne_eq_false_iff_eq.mpr c87
               clear c87
               obtain rfl:=Option.some.inj H
               have hcz88_0 : wr.cell? ⟨gb292,0,none⟩ = some (.int .i64 ((rd_T46 l0 a1).f0)):=(blk_cell BK292.out 0).trans rfl
               have hcz88_1 : wr.cell? ⟨gb292,1,none⟩ = some (.int .i64 ((rd_T46 l0 a1).f1)):=(blk_cell BK292.out 1).trans rfl
               have hcz88_2 : wr.cell? ⟨gb292,2,none⟩ = some (.int .i64 ((rd_T46 l0 a1).f2)):=(blk_cell BK292.out 2).trans rfl
               have hcz88_3 : wr.cell? ⟨gb292,3,none⟩ = some (.string ((rd_T46 l0 a1).f3)):=(blk_cell BK292.out 3).trans rfl
               have hcz88_4 : wr.cell? ⟨gb292,4,none⟩ = some (.string ((rd_T46 l0 a1).f4)):=(blk_cell BK292.out 4).trans rfl
               have hfz88_0:=blk_frozen BK292.out 0
               have hfz88_1:=blk_frozen BK292.out 1
               have hfz88_2:=blk_frozen BK292.out 2
               have hfz88_3:=blk_frozen BK292.out 3
               have hfz88_4:=blk_frozen BK292.out 4
               go_wp2
               go_ret
               exact ⟨by first|rfl|(simp [errW_none,errW_some] <;> rfl)|(simp [*,errW_none,errW_some] <;> rfl),by repeat (first|(with_reducible first|exact HB.out|apply below_alloc|apply pw_below_drewN|apply below_drew1|refine below_set ?_ GE292.out)|exact HB.out)⟩
              ·rw [if_neg c87] at H
               have c87b0 : (((rd_T46 l0 a1).f1) == (wrap64 (x13_4 - a1))) = false:=beq_eq_false_iff_ne.mpr c87
               have c87b1 : (((rd_T46 l0 a1).f1) != (wrap64 (x13_4 - a1))) = true:=bne_iff_ne.mpr c87
               obtain rfl:=Option.some.inj H
               have hcz89_0 : wr.cell? ⟨gb292,0,none⟩ = some (.int .i64 ((rd_T46 l0 a1).f0)):=(blk_cell BK292.out 0).trans rfl
               have hcz89_1 : wr.cell? ⟨gb292,1,none⟩ = some (.int .i64 ((rd_T46 l0 a1).f1)):=(blk_cell BK292.out 1).trans rfl
               have hcz89_2 : wr.cell? ⟨gb292,2,none⟩ = some (.int .i64 ((rd_T46 l0 a1).f2)):=(blk_cell BK292.out 2).trans rfl
               have hcz89_3 : wr.cell? ⟨gb292,3,none⟩ = some (.string ((rd_T46 l0 a1).f3)):=(blk_cell BK292.out 3).trans rfl
               have hcz89_4 : wr.cell? ⟨gb292,4,none⟩ = some (.string ((rd_T46 l0 a1).f4)):=(blk_cell BK292.out 4).trans rfl
               have hfz89_0:=blk_frozen BK292.out 0
               have hfz89_1:=blk_frozen BK292.out 1
               have hfz89_2:=blk_frozen BK292.out 2
               have hfz89_3:=blk_frozen BK292.out 3
               have hfz89_4:=blk_frozen BK292.out 4
               go_wp2
               go_ret
               exact ⟨by first|rfl|(simp [errW_none,errW_some] <;> rfl)|(simp [*,errW_none,errW_some] <;> rfl),by repeat (first|(with_reducible first|exact HB.out|apply below_alloc|apply pw_below_drewN|apply below_drew1|refine below_set ?_ GE292.out)|exact HB.out)⟩
  ·rw [if_neg c7] at H
   exact absurd H (by simp)
 ·rw [if_neg c6] at H
  exact absurd H (by simp)
end Go.Proofs.YtadfkeipcebmfaaDoor.X
namespace Go.Proofs.YtadfkeipcebmfaaDoor.X
open Go.RowKit Go.Proofs.YtadfkeipcebmfaaDoorW.PrintWords Go.Proofs.YtadfkeipcebmfaaDoorW.PrintLast Go.Proofs.YtadfkeipcebmfaaDoorW.PrintMore
attribute [local go_sem] max2_int min2_int max_two min_two max_three min_three max_four min_four
set_option linter.unusedVariables false
set_option linter.unusedSimpArgs false
def racewayref25_Check.f (k : Nat) (l0 : List (S46)) : Option (Int):=if (l0.length : Int) = 0 then (some 2) else ((racewayref25_may.f k l0 0 (l0.length : Int) false 0).bind fun t306 => (if t306 = (l0.length : Int) then (some 0) else (some 2)))
set_option maxHeartbeats 8000000 in
set_option maxRecDepth 100000 in
theorem racewayref25_Check.calls (k : Nat) (A0 : Option Addr) (c0 : Nat) (l0 : List (S46)) (r : Int) (w : World) (hr0 : Kd.C k46 w A0 l0.length l0) (hc0 : l0.length ≤ c0) (h : racewayref25_Check.f k l0 = some r) :
  Calls Tryd.prog 21 #[.slice A0 l0.length c0] w fun e w' => e = .returned (.int .i64 r) ∧ Below w.heap.size w w':=by
 have HR0:=Aside0.mk hr0
 have HC0:=Aside0.mk hc0
 clear hr0 hc0
 have HB:=Aside0.mk (Below.refl w.heap.size w)
 have H : (if (l0.length : Int) = 0 then (some 2) else ((racewayref25_may.f k l0 0 (l0.length : Int) false 0).bind fun t306 => (if t306 = (l0.length : Int) then (some 0) else (some 2)))) = some r:=h
 clear h
 by_cases c2 : (l0.length : Int) = 0
 ·rw [if_pos c2] at H
  have c2b0 : ((l0.length : Int) == 0) = true:=beq_iff_eq.mpr c2
  have c2b1 : ((l0.length : Int) != 0) = false:=bne_eq_false_iff_eq.mpr c2
  clear c2
  obtain rfl:=Option.some.inj H
  go_enter Tryd.func21,Tryd.ntmps21
  go_wp2
  go_ret
  exact ⟨by first|rfl|(simp [errW_none,errW_some] <;> rfl)|(simp [*,errW_none,errW_some] <;> rfl),by repeat (first|(with_reducible first|exact HB.out|apply below_alloc|apply pw_below_drewN|apply below_drew1)|exact HB.out)⟩
 ·rw [if_neg c2] at H
  have c2b0 : ((l0.length : Int) == 0) = false:=beq_eq_false_iff_ne.mpr c2
  have c2b1 : ((l0.length : Int) != 0) = true:=bne_iff_ne.mpr c2
  have c2b2 : ¬ (l0 = []):=fun h_ => c2 (by rw [h_];rfl)
  replace H:=Option.bind_eq_some_iff.mp H
  obtain ⟨t306,A30,H⟩:=H
  replace H : (if t306 = (l0.length : Int) then (some 0) else (some 2)) = some r:=H
  have A3:=Aside0.mk A30
  clear A30
  by_cases c4 : t306 = (l0.length : Int)
  ·rw [if_pos c4] at H
   have c4b0 : (t306 == (l0.length : Int)) = true:=beq_iff_eq.mpr c4
   have c4b1 : (t306 != (l0.length : Int)) = false:=bne_eq_false_iff_eq.mpr c4
   clear c4
   obtain rfl:=Option.some.inj H
   go_enter Tryd.func21,Tryd.ntmps21
   go_wp2_with (first|(go_at_call 41;(with_reducible refine (racewayref25_may.calls k _ _ l0 0 (l0.length : Int) false 0 t306 _ ?side1 ?side2 A3.out).mono ?_);(case side1 => repeat (first|exact HR0.out|(with_reducible refine Kd.C_alloc ?_ _)|(with_reducible refine Kd.C_drewN ?_ _)|(with_reducible refine Kd.C_drew ?_)));(case side2 => exact HC0.out);rintro e w5 ⟨rfl,hb⟩;have n0_:=Aside0.mk (below_step (by repeat (first|(with_reducible first|exact HB.out|apply below_alloc|apply pw_below_drewN|apply below_drew1)|exact HB.out)) hb);clear HB;have HB:=n0_;clear n0_;(try clear hb);(try clear hb2);(try clear hk);(try clear hi)))
   go_ret
   exact ⟨by first|rfl|(simp [errW_none,errW_some] <;> rfl)|(simp [*,errW_none,errW_some] <;> rfl),by repeat (first|(with_reducible first|exact HB.out|apply below_alloc|apply pw_below_drewN|apply below_drew1)|exact HB.out)⟩
  ·rw [if_neg c4] at H
   have c4b0 : (t306 == (l0.length : Int)) = false:=beq_eq_false_iff_ne.mpr c4
   have c4b1 : (t306 != (l0.length : Int)) = true:=bne_iff_ne.mpr c4
   obtain rfl:=Option.some.inj H
   go_enter Tryd.func21,Tryd.ntmps21
   go_wp2_with (first|(go_at_call 41;(with_reducible refine (racewayref25_may.calls k _ _ l0 0 (l0.length : Int) false 0 t306 _ ?side1 ?side2 A3.out).mono ?_);(case side1 => repeat (first|exact HR0.out|(with_reducible refine Kd.C_alloc ?_ _)|(with_reducible refine Kd.C_drewN ?_ _)|(with_reducible refine Kd.C_drew ?_)));(case side2 => exact HC0.out);rintro e w6 ⟨rfl,hb⟩;have n0_:=Aside0.mk (below_step (by repeat (first|(with_reducible first|exact HB.out|apply below_alloc|apply pw_below_drewN|apply below_drew1)|exact HB.out)) hb);clear HB;have HB:=n0_;clear n0_;(try clear hb);(try clear hb2);(try clear hk);(try clear hi)))
   go_ret
   exact ⟨by first|rfl|(simp [errW_none,errW_some] <;> rfl)|(simp [*,errW_none,errW_some] <;> rfl),by repeat (first|(with_reducible first|exact HB.out|apply below_alloc|apply pw_below_drewN|apply below_drew1)|exact HB.out)⟩
end Go.Proofs.YtadfkeipcebmfaaDoor.X
