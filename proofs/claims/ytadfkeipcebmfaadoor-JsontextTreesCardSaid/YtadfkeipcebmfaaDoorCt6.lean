/-
  What the claim's law rests on, part 6 of 8: printed walks, externals, plain lemmas; conditions: none of its own.
-/
import Derived.Lib.SliceRun
import Derived.Test.YtadfkeipcebmfaaDoorCt5
namespace Go.Proofs.YtadfkeipcebmfaaDoor.X
open Go.RowKit Go.Proofs.YtadfkeipcebmfaaDoorW.PrintWords Go.Proofs.YtadfkeipcebmfaaDoorW.PrintLast Go.Proofs.YtadfkeipcebmfaaDoorW.PrintMore
attribute [local go_sem] max2_int min2_int max_two min_two max_three min_three max_four min_four
set_option linter.unusedVariables false
set_option linter.unusedSimpArgs false
mutual
def racewayref25_quote.l0 : Nat → ByteArray → ByteArray → Int → Option (ByteArray)
 | 0,_,_,_ => none
 | k + 1,x0,x3,x4 => if x4 < (x0.size : Int) then (if 0 ≤ x4 then (racewayref25_quote.l1 k x0 x3 x4 (bt x0 x4) false 0) else (none)) else (if x3.size + 1 ≤ 9223372036854775807 then (some (x3 ++ (⟨#[34]⟩ : ByteArray))) else (none))
def racewayref25_quote.l1 : Nat → ByteArray → ByteArray → Int → Int → Bool → Int → Option (ByteArray)
 | 0,_,_,_,_,_,_ => none
 | k + 1,x0,x3,x4,x5,x6,x7 => if x7 < 8 then (if 0 ≤ x7 then (if x5 = (bt (⟨#[34,92,47,8,12,10,13,9]⟩ : ByteArray) x7) then (if x5 = 47 then (racewayref25_quote.l1 k x0 x3 x4 x5 x6 (wrap64 (x7 + 1))) else (if x3.size + 1 ≤ 9223372036854775807 then (if x7 ≤ (wrap64 (x7 + 1)) then (if (wrap64 (x7 + 1)) ≤ 8 then (if x3.size + 1 + ((⟨#[34,92,47,98,102,110,114,116]⟩ : ByteArray).extract (x7 : Int).toNat ((wrap64 (x7 + 1)) : Int).toNat).size ≤ 9223372036854775807 then (racewayref25_quote.l1 k x0 ((x3 ++ (⟨#[92]⟩ : ByteArray)) ++ ((⟨#[34,92,47,98,102,110,114,116]⟩ : ByteArray).extract (x7 : Int).toNat ((wrap64 (x7 + 1)) : Int).toNat)) x4 x5 true (wrap64 (x7 + 1))) else (none)) else (none)) else (none)) else (none))) else (racewayref25_quote.l1 k x0 x3 x4 x5 x6 (wrap64 (x7 + 1)))) else (none)) else (if x6 = true then (racewayref25_quote.l0 k x0 x3 (wrap64 (x4 + 1))) else (if x5 < 32 then (if x3.size + 4 ≤ 9223372036854775807 then (if 0 ≤ ((Int.tdiv x5 16) % 256) then (if ((Int.tdiv x5 16) % 256) ≤ ((((Int.tdiv x5 16) % 256) + 1) % 256) then (if ((((Int.tdiv x5 16) % 256) + 1) % 256) ≤ 16 then (if x3.size + 4 + ((⟨#[48,49,50,51,52,53,54,55,56,57,97,98,99,100,101,102]⟩ : ByteArray).extract (((Int.tdiv x5 16) % 256) : Int).toNat (((((Int.tdiv x5 16) % 256) + 1) % 256) : Int).toNat).size ≤ 9223372036854775807 then (if 0 ≤ (Int.tmod x5 16) then (if (Int.tmod x5 16) ≤ (((Int.tmod x5 16) + 1) % 256) then (if (((Int.tmod x5 16) + 1) % 256) ≤ 16 then (if x3.size + 4 + (((⟨#[48,49,50,51,52,53,54,55,56,57,97,98,99,100,101,102]⟩ : ByteArray).extract (((Int.tdiv x5 16) % 256) : Int).toNat (((((Int.tdiv x5 16) % 256) + 1) % 256) : Int).toNat).size) + ((⟨#[48,49,50,51,52,53,54,55,56,57,97,98,99,100,101,102]⟩ : ByteArray).extract ((Int.tmod x5 16) : Int).toNat ((((Int.tmod x5 16) + 1) % 256) : Int).toNat).size ≤ 9223372036854775807 then (racewayref25_quote.l0 k x0 (((x3 ++ (⟨#[92,117,48,48]⟩ : ByteArray)) ++ ((⟨#[48,49,50,51,52,53,54,55,56,57,97,98,99,100,101,102]⟩ : ByteArray).extract (((Int.tdiv x5 16) % 256) : Int).toNat (((((Int.tdiv x5 16) % 256) + 1) % 256) : Int).toNat)) ++ ((⟨#[48,49,50,51,52,53,54,55,56,57,97,98,99,100,101,102]⟩ : ByteArray).extract ((Int.tmod x5 16) : Int).toNat ((((Int.tmod x5 16) + 1) % 256) : Int).toNat)) (wrap64 (x4 + 1))) else (none)) else (none)) else (none)) else (none)) else (none)) else (none)) else (none)) else (none)) else (none)) else (if 0 ≤ x4 then (if x4 ≤ (wrap64 (x4 + 1)) then (if (wrap64 (x4 + 1)) ≤ (x0.size : Int) then (if x3.size + (x0.extract (x4 : Int).toNat ((wrap64 (x4 + 1)) : Int).toNat).size ≤ 9223372036854775807 then (racewayref25_quote.l0 k x0 (x3 ++ (x0.extract (x4 : Int).toNat ((wrap64 (x4 + 1)) : Int).toNat)) (wrap64 (x4 + 1))) else (none)) else (none)) else (none)) else (none))))
end
def racewayref25_quote.f (k : Nat) (a0 : ByteArray) : Option (ByteArray):=racewayref25_quote.l0 k a0 (⟨#[34]⟩ : ByteArray) 0
set_option maxHeartbeats 8000000 in
set_option maxRecDepth 100000 in
theorem racewayref25_quote.calls (k : Nat) (a0 : ByteArray) (r : ByteArray) (w : World) (h : racewayref25_quote.f k a0 = some r) :
  Calls Tryd.prog 65 #[.string a0] w fun e w' => e = .returned (.string r) ∧ Drawn0 w w':=by
 have H : (racewayref25_quote.l0 k a0 (⟨#[34]⟩ : ByteArray) 0) = some r:=h
 clear h
 have H':=Aside0.mk H
 clear H
 go_enter Tryd.func65,Tryd.ntmps65
 go_wp2
 repeat (go_quiet (fail);try go_wp2)
 go_loopg [3,4] k (fun kq v3 v4 w' => ∃ (x3_1 : ByteArray) (x4_1 : Int),v3 = .string x3_1 ∧ v4 = .int .i64 x4_1 ∧ Aside0 (racewayref25_quote.l0 kq a0 x3_1 x4_1 = some r) ∧ Aside0 (kq ≤ k) ∧ Drawn0 w w')
 case atStart => exact ⟨((⟨#[34]⟩ : ByteArray)),(0),(by first|rfl|(simp;done)|(simp;decide +kernel)|(simp [*];done)),(by first|rfl|(simp;done)|(simp;decide +kernel)|(simp [*];done)),(by first|exact H'|(subst_vars;exact H')),⟨Nat.le_refl _⟩,by repeat (first|exact Drawn0.refl _|apply Drawn0.step)⟩
 case round =>
  clear H'
  obtain ⟨x3_1,x4_1,rfl,rfl,HA,HK1,⟨m1,rfl⟩⟩:=hrel
  cases gk with
  | zero => exact absurd HA.out (by simp [racewayref25_quote.l0])
  | succ k1 =>
   have H:=HA.out
   clear HA
   simp only [racewayref25_quote.l0] at H
   by_cases c2 : x4_1 < (a0.size : Int)
   ·rw [if_pos c2] at H
    have c2b0 : decide (x4_1 < (a0.size : Int)) = true:=decide_eq_true c2
    clear c2
    by_cases c3 : 0 ≤ x4_1
    ·rw [if_pos c3] at H
     have c3b0 : decide (0 ≤ x4_1) = true:=decide_eq_true c3
     clear c3
     have H':=Aside0.mk H
     clear H
     have p4 : 0 ≤ (x4_1 : Int):=of_decide_eq_true (by first|(with_reducible assumption)|assumption)
     have q4 : x4_1 < (a0.size : Int):=of_decide_eq_true (by first|(with_reducible assumption)|assumption)
     have hx4:=bt_at a0 x4_1
     replace p4:=eq_true p4
     replace q4:=eq_true q4
     go_wp2
     repeat (go_quiet (fail);try go_wp2)
     go_loopg [3,6,7] k1 (fun kq v3 v6 v7 w' => ∃ (x3_2 : ByteArray) (x6_2 : Bool) (x7_2 : Int),v3 = .string x3_2 ∧ v6 = .bool x6_2 ∧ v7 = .int .i64 x7_2 ∧ Aside0 (racewayref25_quote.l1 kq a0 x3_2 x4_1 (bt a0 x4_1) x6_2 x7_2 = some r) ∧ Aside0 (kq ≤ k1) ∧ Drawn0 w w')
     case atStart => exact ⟨(x3_1),(false),(0),(by first|rfl|(simp;done)|(simp;decide +kernel)|(simp [*];done)),(by first|rfl|(simp;done)|(simp;decide +kernel)|(simp [*];done)),(by first|rfl|(simp;done)|(simp;decide +kernel)|(simp [*];done)),(by first|exact H'|(subst_vars;exact H')),⟨Nat.le_refl _⟩,by repeat (first|exact Drawn0.refl _|apply Drawn0.step)⟩
     case round =>
      clear H'
      try clear c2
      try clear c2b0
      try clear p2
      try clear c3
      try clear c3b0
      try clear p4
      try clear q4
      try clear hx4
      try clear p4
      try clear q4
      obtain ⟨x3_2,x6_2,x7_2,rfl,rfl,rfl,HA,HK2,⟨m2,rfl⟩⟩:=hrel
      cases gk with
      | zero => exact absurd HA.out (by simp [racewayref25_quote.l1])
      | succ k2 =>
       have H:=HA.out
       clear HA
       simp only [racewayref25_quote.l1] at H
       by_cases c5 : x7_2 < 8
       ·rw [if_pos c5] at H
        have c5b0 : decide (x7_2 < 8) = true:=decide_eq_true c5
        clear c5
        by_cases c6 : 0 ≤ x7_2
        ·rw [if_pos c6] at H
         have c6b0 : decide (0 ≤ x7_2) = true:=decide_eq_true c6
         clear c6
         by_cases c8 : (bt a0 x4_1) = (bt (⟨#[34,92,47,8,12,10,13,9]⟩ : ByteArray) x7_2)
         ·rw [if_pos c8] at H
          have c8b0 : ((bt a0 x4_1) == (bt (⟨#[34,92,47,8,12,10,13,9]⟩ : ByteArray) x7_2)) = true:=beq_iff_eq.mpr c8
          have c8b1 : ((bt a0 x4_1) != (bt (⟨#[34,92,47,8,12,10,13,9]⟩ : ByteArray) x7_2)) = false:=bne_eq_false_iff_eq.mpr c8
          clear c8
          by_cases c9 : (bt a0 x4_1) = 47
          ·rw [if_pos c9] at H
           have c9b0 : ((bt a0 x4_1) == 47) = true:=beq_iff_eq.mpr c9
           have c9b1 : ((bt a0 x4_1) != 47) = false:=bne_eq_false_iff_eq.mpr c9
           clear c9
           have H':=Aside0.mk H
           clear H
           have p7 : 0 ≤ (x7_2 : Int):=of_decide_eq_true (by first|(with_reducible assumption)|assumption)
           have q7 : x7_2 < (8 : Int):=of_decide_eq_true (by first|(with_reducible assumption)|assumption)
           have hx7:=bt_at (⟨#[34,92,47,8,12,10,13,9]⟩ : ByteArray) x7_2
           replace p7:=eq_true p7
           replace q7:=eq_true q7
           go_wp2
           repeat (go_quiet (fail);try go_wp2)
           go_roundg k2
           case measure => have:=HK1.out;have:=HK2.out;omega
           case rel => exact ⟨(x3_2),(x6_2),(wrap64 (x7_2 + 1)),(by first|rfl|(simp;done)|(simp;decide +kernel)|(simp [*];done)),(by first|rfl|(simp;done)|(simp;decide +kernel)|(simp [*];done)),(by first|rfl|(simp;done)|(simp;decide +kernel)|(simp [*];done)),(by first|exact H'|(subst_vars;exact H')),⟨by have:=HK1.out;have:=HK2.out;omega⟩,by repeat (first|exact Drawn0.refl _|apply Drawn0.step)⟩
          ·rw [if_neg c9] at H
           have c9b0 : ((bt a0 x4_1) == 47) = false:=beq_eq_false_iff_ne.mpr c9
           have c9b1 : ((bt a0 x4_1) != 47) = true:=bne_iff_ne.mpr c9
           by_cases c10 : x3_2.size + 1 ≤ 9223372036854775807
           ·rw [if_pos c10] at H
            have c10b0:=eq_true c10
            have c10b1 : decide (x3_2.size + 1 ≤ 9223372036854775807) = true:=decide_eq_true c10
            try have c10b2 : (9223372036854775807 < x3_2.size + 1) = False:=eq_false (Nat.not_lt.2 c10)
            have c11b0:=eq_true (of_decide_eq_true (by first|(with_reducible assumption)|assumption) : 0 ≤ x7_2)
            by_cases c12 : x7_2 ≤ (wrap64 (x7_2 + 1))
            ·rw [if_pos c12] at H
             have c12b0:=eq_true c12
             have c12b1 : decide (x7_2 ≤ (wrap64 (x7_2 + 1))) = true:=decide_eq_true c12
             by_cases c13 : (wrap64 (x7_2 + 1)) ≤ 8
             ·rw [if_pos c13] at H
              have c13b0:=eq_true c13
              have c13b1 : decide ((wrap64 (x7_2 + 1)) ≤ 8) = true:=decide_eq_true c13
              by_cases c14 : x3_2.size + 1 + ((⟨#[34,92,47,98,102,110,114,116]⟩ : ByteArray).extract (x7_2 : Int).toNat ((wrap64 (x7_2 + 1)) : Int).toNat).size ≤ 9223372036854775807
              ·rw [if_pos c14] at H
               have c14b0:=eq_true c14
               have c14b1 : decide (x3_2.size + 1 + ((⟨#[34,92,47,98,102,110,114,116]⟩ : ByteArray).extract (x7_2 : Int).toNat ((wrap64 (x7_2 + 1)) : Int).toNat).size ≤ 9223372036854775807) = true:=decide_eq_true c14
               try have c14b2 : (9223372036854775807 < x3_2.size + 1 + ((⟨#[34,92,47,98,102,110,114,116]⟩ : ByteArray).extract (x7_2 : Int).toNat ((wrap64 (x7_2 + 1)) : Int).toNat).size) = False:=eq_false (Nat.not_lt.2 c14)
               try have c14b4 : (9223372036854775807 < x3_2.size + 1 + ((wrap64 (x7_2 + 1)).toNat - x7_2.toNat)) = False:=eq_false (by have h_:=c14;have h8_ : (wrap64 (x7_2 + 1)) ≤ 8:=of_eq_true (by assumption);simp only [ByteArray.size_extract,show (⟨#[34,92,47,98,102,110,114,116]⟩ : ByteArray).size = 8 from rfl] at h_;omega)
               have H':=Aside0.mk H
               clear H
               have p7 : 0 ≤ (x7_2 : Int):=of_decide_eq_true (by first|(with_reducible assumption)|assumption)
               have q7 : x7_2 < (8 : Int):=of_decide_eq_true (by first|(with_reducible assumption)|assumption)
               have hx7:=bt_at (⟨#[34,92,47,8,12,10,13,9]⟩ : ByteArray) x7_2
               replace p7:=eq_true p7
               replace q7:=eq_true q7
               go_wp2
               repeat (go_quiet (fail);try go_wp2)
               go_roundg k2
               case measure => have:=HK1.out;have:=HK2.out;omega
               case rel => exact ⟨((x3_2 ++ (⟨#[92]⟩ : ByteArray)) ++ ((⟨#[34,92,47,98,102,110,114,116]⟩ : ByteArray).extract (x7_2 : Int).toNat ((wrap64 (x7_2 + 1)) : Int).toNat)),(true),(wrap64 (x7_2 + 1)),(by first|rfl|(simp;done)|(simp;decide +kernel)|(simp [*];done)),(by first|rfl|(simp;done)|(simp;decide +kernel)|(simp [*];done)),(by first|rfl|(simp;done)|(simp;decide +kernel)|(simp [*];done)),(by first|exact H'|(subst_vars;exact H')),⟨by have:=HK1.out;have:=HK2.out;omega⟩,by repeat (first|exact Drawn0.refl _|apply Drawn0.step)⟩
              ·rw [if_neg c14] at H
               exact absurd H (by simp)
             ·rw [if_neg c13] at H
              exact absurd H (by simp)
            ·rw [if_neg c12] at H
             exact absurd H (by simp)
           ·rw [if_neg c10] at H
            exact absurd H (by simp)
         ·rw [if_neg c8] at H
          have c8b0 : ((bt a0 x4_1) == (bt (⟨#[34,92,47,8,12,10,13,9]⟩ : ByteArray) x7_2)) = false:=beq_eq_false_iff_ne.mpr c8
          have c8b1 : ((bt a0 x4_1) != (bt (⟨#[34,92,47,8,12,10,13,9]⟩ : ByteArray) x7_2)) = true:=bne_iff_ne.mpr c8
          have H':=Aside0.mk H
          clear H
          have p7 : 0 ≤ (x7_2 : Int):=of_decide_eq_true (by first|(with_reducible assumption)|assumption)
          have q7 : x7_2 < (8 : Int):=of_decide_eq_true (by first|(with_reducible assumption)|assumption)
          have hx7:=bt_at (⟨#[34,92,47,8,12,10,13,9]⟩ : ByteArray) x7_2
          replace p7:=eq_true p7
          replace q7:=eq_true q7
          go_wp2
          repeat (go_quiet (fail);try go_wp2)
          go_roundg k2
          case measure => have:=HK1.out;have:=HK2.out;omega
          case rel => exact ⟨(x3_2),(x6_2),(wrap64 (x7_2 + 1)),(by first|rfl|(simp;done)|(simp;decide +kernel)|(simp [*];done)),(by first|rfl|(simp;done)|(simp;decide +kernel)|(simp [*];done)),(by first|rfl|(simp;done)|(simp;decide +kernel)|(simp [*];done)),(by first|exact H'|(subst_vars;exact H')),⟨by have:=HK1.out;have:=HK2.out;omega⟩,by repeat (first|exact Drawn0.refl _|apply Drawn0.step)⟩
        ·rw [if_neg c6] at H
         exact absurd H (by simp)
       ·rw [if_neg c5] at H
        have c5b0 : decide (x7_2 < 8) = false:=decide_eq_false c5
        clear c5
        by_cases c15 : x6_2 = true
        ·subst c15
         have H1 : (racewayref25_quote.l0 k2 a0 x3_2 (wrap64 (x4_1 + 1))) = some r:=by rw [if_pos rfl] at H;exact H
         clear H
         have H:=H1
         clear H1
         have H':=Aside0.mk H
         clear H
         go_wp2
         repeat (go_quiet (fail);try go_wp2)
         go_roundg k2
         case measure => have:=HK1.out;have:=HK2.out;omega
         case rel => exact ⟨(x3_2),(wrap64 (x4_1 + 1)),(by first|rfl|(simp;done)|(simp;decide +kernel)|(simp [*];done)),(by first|rfl|(simp;done)|(simp;decide +kernel)|(simp [*];done)),(by first|exact H'|(subst_vars;exact H')),⟨by have:=HK1.out;have:=HK2.out;omega⟩,by repeat (first|exact Drawn0.refl _|apply Drawn0.step)⟩
        ·replace c15:=Bool.eq_false_iff.mpr c15
         subst c15
         have H1 : (if (bt a0 x4_1) < 32 then (if x3_2.size + 4 ≤ 9223372036854775807 then (if 0 ≤ ((Int.tdiv (bt a0 x4_1) 16) % 256) then (if ((Int.tdiv (bt a0 x4_1) 16) % 256) ≤ ((((Int.tdiv (bt a0 x4_1) 16) % 256) + 1) % 256) then (if ((((Int.tdiv (bt a0 x4_1) 16) % 256) + 1) % 256) ≤ 16 then (if x3_2.size + 4 + ((⟨#[48,49,50,51,52,53,54,55,56,57,97,98,99,100,101,102]⟩ : ByteArray).extract (((Int.tdiv (bt a0 x4_1) 16) % 256) : Int).toNat (((((Int.tdiv (bt a0 x4_1) 16) % 256) + 1) % 256) : Int).toNat).size ≤ 9223372036854775807 then (if 0 ≤ (Int.tmod (bt a0 x4_1) 16) then (if (Int.tmod (bt a0 x4_1) 16) ≤ (((Int.tmod (bt a0 x4_1) 16) + 1) % 256) then (if (((Int.tmod (bt a0 x4_1) 16) + 1) % 256) ≤ 16 then (if x3_2.size + 4 + (((⟨#[48,49,50,51,52,53,54,55,56,57,97,98,99,100,101,102]⟩ : ByteArray).extract (((Int.tdiv (bt a0 x4_1) 16) % 256) : Int).toNat (((((Int.tdiv (bt a0 x4_1) 16) % 256) + 1) % 256) : Int).toNat).size) + ((⟨#[48,49,50,51,52,53,54,55,56,57,97,98,99,100,101,102]⟩ : ByteArray).extract ((Int.tmod (bt a0 x4_1) 16) : Int).toNat ((((Int.tmod (bt a0 x4_1) 16) + 1) % 256) : Int).toNat).size ≤ 9223372036854775807 then (racewayref25_quote.l0 k2 a0 (((x3_2 ++ (⟨#[92,117,48,48]⟩ : ByteArray)) ++ ((⟨#[48,49,50,51,52,53,54,55,56,57,97,98,99,100,101,102]⟩ : ByteArray).extract (((Int.tdiv (bt a0 x4_1) 16) % 256) : Int).toNat (((((Int.tdiv (bt a0 x4_1) 16) % 256) + 1) % 256) : Int).toNat)) ++ ((⟨#[48,49,50,51,52,53,54,55,56,57,97,98,99,100,101,102]⟩ : ByteArray).extract ((Int.tmod (bt a0 x4_1) 16) : Int).toNat ((((Int.tmod (bt a0 x4_1) 16) + 1) % 256) : Int).toNat)) (wrap64 (x4_1 + 1))) else (none)) else (none)) else (none)) else (none)) else (none)) else (none)) else (none)) else (none)) else (none)) else (if 0 ≤ x4_1 then (if x4_1 ≤ (wrap64 (x4_1 + 1)) then (if (wrap64 (x4_1 + 1)) ≤ (a0.size : Int) then (if x3_2.size + (a0.extract (x4_1 : Int).toNat ((wrap64 (x4_1 + 1)) : Int).toNat).size ≤ 9223372036854775807 then (racewayref25_quote.l0 k2 a0 (x3_2 ++ (a0.extract (x4_1 : Int).toNat ((wrap64 (x4_1 + 1)) : Int).toNat)) (wrap64 (x4_1 + 1))) else (none)) else (none)) else (none)) else (none))) = some r:=by rw [if_neg (show ¬ (false = true) by decide)] at H;exact H
         clear H
         have H:=H1
         clear H1
         by_cases c16 : (bt a0 x4_1) < 32
         ·rw [if_pos c16] at H
          have c16b0 : decide ((bt a0 x4_1) < 32) = true:=decide_eq_true c16
          clear c16
          by_cases c17 : x3_2.size + 4 ≤ 9223372036854775807
          ·rw [if_pos c17] at H
           have c17b0:=eq_true c17
           have c17b1 : decide (x3_2.size + 4 ≤ 9223372036854775807) = true:=decide_eq_true c17
           try have c17b2 : (9223372036854775807 < x3_2.size + 4) = False:=eq_false (Nat.not_lt.2 c17)
           obtain ⟨ji18,hji18⟩ : ∃ j_ : Int,((Int.tdiv (bt a0 x4_1) 16) % 256) = j_:=⟨_,rfl⟩
           replace H : (if 0 ≤ (ji18) then (if (ji18) ≤ (((ji18) + 1) % 256) then (if (((ji18) + 1) % 256) ≤ 16 then (if x3_2.size + 4 + ((⟨#[48,49,50,51,52,53,54,55,56,57,97,98,99,100,101,102]⟩ : ByteArray).extract ((ji18) : Int).toNat ((((ji18) + 1) % 256) : Int).toNat).size ≤ 9223372036854775807 then (if 0 ≤ (Int.tmod (bt a0 x4_1) 16) then (if (Int.tmod (bt a0 x4_1) 16) ≤ (((Int.tmod (bt a0 x4_1) 16) + 1) % 256) then (if (((Int.tmod (bt a0 x4_1) 16) + 1) % 256) ≤ 16 then (if x3_2.size + 4 + (((⟨#[48,49,50,51,52,53,54,55,56,57,97,98,99,100,101,102]⟩ : ByteArray).extract ((ji18) : Int).toNat ((((ji18) + 1) % 256) : Int).toNat).size) + ((⟨#[48,49,50,51,52,53,54,55,56,57,97,98,99,100,101,102]⟩ : ByteArray).extract ((Int.tmod (bt a0 x4_1) 16) : Int).toNat ((((Int.tmod (bt a0 x4_1) 16) + 1) % 256) : Int).toNat).size ≤ 9223372036854775807 then (racewayref25_quote.l0 k2 a0 (((x3_2 ++ (⟨#[92,117,48,48]⟩ : ByteArray)) ++ ((⟨#[48,49,50,51,52,53,54,55,56,57,97,98,99,100,101,102]⟩ : ByteArray).extract ((ji18) : Int).toNat ((((ji18) + 1) % 256) : Int).toNat)) ++ ((⟨#[48,49,50,51,52,53,54,55,56,57,97,98,99,100,101,102]⟩ : ByteArray).extract ((Int.tmod (bt a0 x4_1) 16) : Int).toNat ((((Int.tmod (bt a0 x4_1) 16) + 1) % 256) : Int).toNat)) (wrap64 (x4_1 + 1))) else (none)) else (none)) else (none)) else (none)) else (none)) else (none)) else (none)) else (none)) = some r:=by first|(rw [hji18] at H;exact H)|(simp only [hji18] at H ⊢;exact H)
           by_cases c19 : 0 ≤ (ji18)
           ·rw [if_pos c19] at H
            have c19b0:=eq_true c19
            have c19b1 : decide (0 ≤ (ji18)) = true:=decide_eq_true c19
            clear c19
            by_cases c20 : (ji18) ≤ (((ji18) + 1) % 256)
            ·rw [if_pos c20] at H
             have c20b0:=eq_true c20
             have c20b1 : decide ((ji18) ≤ (((ji18) + 1) % 256)) = true:=decide_eq_true c20
             by_cases c21 : (((ji18) + 1) % 256) ≤ 16
             ·rw [if_pos c21] at H
              have c21b0:=eq_true c21
              have c21b1 : decide ((((ji18) + 1) % 256) ≤ 16) = true:=decide_eq_true c21
              by_cases c22 : x3_2.size + 4 + ((⟨#[48,49,50,51,52,53,54,55,56,57,97,98,99,100,101,102]⟩ : ByteArray).extract ((ji18) : Int).toNat ((((ji18) + 1) % 256) : Int).toNat).size ≤ 9223372036854775807
              ·rw [if_pos c22] at H
               have c22b0:=eq_true c22
               have c22b1 : decide (x3_2.size + 4 + ((⟨#[48,49,50,51,52,53,54,55,56,57,97,98,99,100,101,102]⟩ : ByteArray).extract ((ji18) : Int).toNat ((((ji18) + 1) % 256) : Int).toNat).size ≤ 9223372036854775807) = true:=decide_eq_true c22
               try have c22b2 : (9223372036854775807 < x3_2.size + 4 + ((⟨#[48,49,50,51,52,53,54,55,56,57,97,98,99,100,101,102]⟩ : ByteArray).extract ((ji18) : Int).toNat ((((ji18) + 1) % 256) : Int).toNat).size) = False:=eq_false (Nat.not_lt.2 c22)
               obtain ⟨ji23,hji23⟩ : ∃ j_ : Int,(Int.tmod (bt a0 x4_1) 16) = j_:=⟨_,rfl⟩
               replace H : (if 0 ≤ (ji23) then (if (ji23) ≤ (((ji23) + 1) % 256) then (if (((ji23) + 1) % 256) ≤ 16 then (if x3_2.size + 4 + (((⟨#[48,49,50,51,52,53,54,55,56,57,97,98,99,100,101,102]⟩ : ByteArray).extract ((ji18) : Int).toNat ((((ji18) + 1) % 256) : Int).toNat).size) + ((⟨#[48,49,50,51,52,53,54,55,56,57,97,98,99,100,101,102]⟩ : ByteArray).extract ((ji23) : Int).toNat ((((ji23) + 1) % 256) : Int).toNat).size ≤ 9223372036854775807 then (racewayref25_quote.l0 k2 a0 (((x3_2 ++ (⟨#[92,117,48,48]⟩ : ByteArray)) ++ ((⟨#[48,49,50,51,52,53,54,55,56,57,97,98,99,100,101,102]⟩ : ByteArray).extract ((ji18) : Int).toNat ((((ji18) + 1) % 256) : Int).toNat)) ++ ((⟨#[48,49,50,51,52,53,54,55,56,57,97,98,99,100,101,102]⟩ : ByteArray).extract ((ji23) : Int).toNat ((((ji23) + 1) % 256) : Int).toNat)) (wrap64 (x4_1 + 1))) else (none)) else (none)) else (none)) else (none)) = some r:=by first|(rw [hji23] at H;exact H)|(simp only [hji23] at H ⊢;exact H)
               by_cases c24 : 0 ≤ (ji23)
               ·rw [if_pos c24] at H
                have c24b0:=eq_true c24
                have c24b1 : decide (0 ≤ (ji23)) = true:=decide_eq_true c24
                clear c24
                by_cases c25 : (ji23) ≤ (((ji23) + 1) % 256)
                ·rw [if_pos c25] at H
                 have c25b0:=eq_true c25
                 have c25b1 : decide ((ji23) ≤ (((ji23) + 1) % 256)) = true:=decide_eq_true c25
                 by_cases c26 : (((ji23) + 1) % 256) ≤ 16
                 ·rw [if_pos c26] at H
                  have c26b0:=eq_true c26
                  have c26b1 : decide ((((ji23) + 1) % 256) ≤ 16) = true:=decide_eq_true c26
                  by_cases c27 : x3_2.size + 4 + (((⟨#[48,49,50,51,52,53,54,55,56,57,97,98,99,100,101,102]⟩ : ByteArray).extract ((ji18) : Int).toNat ((((ji18) + 1) % 256) : Int).toNat).size) + ((⟨#[48,49,50,51,52,53,54,55,56,57,97,98,99,100,101,102]⟩ : ByteArray).extract ((ji23) : Int).toNat ((((ji23) + 1) % 256) : Int).toNat).size ≤ 9223372036854775807
                  ·rw [if_pos c27] at H
                   have c27b0:=eq_true c27
                   have c27b1 : decide (x3_2.size + 4 + (((⟨#[48,49,50,51,52,53,54,55,56,57,97,98,99,100,101,102]⟩ : ByteArray).extract ((ji18) : Int).toNat ((((ji18) + 1) % 256) : Int).toNat).size) + ((⟨#[48,49,50,51,52,53,54,55,56,57,97,98,99,100,101,102]⟩ : ByteArray).extract ((ji23) : Int).toNat ((((ji23) + 1) % 256) : Int).toNat).size ≤ 9223372036854775807) = true:=decide_eq_true c27
                   try have c27b2 : (9223372036854775807 < x3_2.size + 4 + (((⟨#[48,49,50,51,52,53,54,55,56,57,97,98,99,100,101,102]⟩ : ByteArray).extract ((ji18) : Int).toNat ((((ji18) + 1) % 256) : Int).toNat).size) + ((⟨#[48,49,50,51,52,53,54,55,56,57,97,98,99,100,101,102]⟩ : ByteArray).extract ((ji23) : Int).toNat ((((ji23) + 1) % 256) : Int).toNat).size) = False:=eq_false (Nat.not_lt.2 c27)
                   have e18_ : (ji18 + 1) % 256 = ji18 + 1:=by have a_:=c20;have b_:=c21;have c_ : 0 ≤ ji18:=of_eq_true c19b0;omega
                   have e23_ : (ji23 + 1) % 256 = ji23 + 1:=by have a_:=c25;have b_:=c26;have c_ : 0 ≤ ji23:=of_eq_true c24b0;omega
                   have f18a_ : (ji18 ≤ ji18 + 1) = True:=eq_true (by omega)
                   have f18b_ : (ji18 + 1 ≤ 16) = True:=eq_true (by have b_:=c21;omega)
                   have f23a_ : (ji23 ≤ ji23 + 1) = True:=eq_true (by omega)
                   have f23b_ : (ji23 + 1 ≤ 16) = True:=eq_true (by have b_:=c26;omega)
                   have g22_ : (9223372036854775807 < x3_2.size + 4 + ((ji18 + 1).toNat - ji18.toNat)) = False:=eq_false (by have h_:=c22;have b_:=c21;rw [e18_] at h_ b_;simp only [ByteArray.size_extract,show (⟨#[48,49,50,51,52,53,54,55,56,57,97,98,99,100,101,102]⟩ : ByteArray).size = 16 from rfl] at h_;omega)
                   have g27_ : (9223372036854775807 < x3_2.size + 4 + ((ji18 + 1).toNat - ji18.toNat) + ((ji23 + 1).toNat - ji23.toNat)) = False:=eq_false (by have h_:=c27;have b_:=c21;have d_:=c26;rw [e18_,e23_] at h_;rw [e18_] at b_;rw [e23_] at d_;simp only [ByteArray.size_extract,show (⟨#[48,49,50,51,52,53,54,55,56,57,97,98,99,100,101,102]⟩ : ByteArray).size = 16 from rfl] at h_;omega)
                   have H':=Aside0.mk H
                   clear H
                   go_wp2
                   repeat (go_quiet (fail);try go_wp2)
                   go_roundg k2
                   case measure => have:=HK1.out;have:=HK2.out;omega
                   case rel => exact ⟨(((x3_2 ++ (⟨#[92,117,48,48]⟩ : ByteArray)) ++ ((⟨#[48,49,50,51,52,53,54,55,56,57,97,98,99,100,101,102]⟩ : ByteArray).extract ((ji18) : Int).toNat ((((ji18) + 1) % 256) : Int).toNat)) ++ ((⟨#[48,49,50,51,52,53,54,55,56,57,97,98,99,100,101,102]⟩ : ByteArray).extract ((ji23) : Int).toNat ((((ji23) + 1) % 256) : Int).toNat)),(wrap64 (x4_1 + 1)),(by first|rfl|(simp;done)|(rw [e18_,e23_];done)|(simp only [e18_,e23_];done)|(simp only [← hji18,← hji23] <;> (first|rfl|simp))|(simp [*];done)),(by first|rfl|(simp;done)|(simp;decide +kernel)|(simp [*];done)),(by first|exact H'|(subst_vars;exact H')),⟨by have:=HK1.out;have:=HK2.out;omega⟩,by repeat (first|exact Drawn0.refl _|apply Drawn0.step)⟩
                  ·rw [if_neg c27] at H
                   exact absurd H (by simp)
                 ·rw [if_neg c26] at H
                  exact absurd H (by simp)
                ·rw [if_neg c25] at H
                 exact absurd H (by simp)
               ·rw [if_neg c24] at H
                exact absurd H (by simp)
              ·rw [if_neg c22] at H
               exact absurd H (by simp)
             ·rw [if_neg c21] at H
              exact absurd H (by simp)
            ·rw [if_neg c20] at H
             exact absurd H (by simp)
           ·rw [if_neg c19] at H
            exact absurd H (by simp)
          ·rw [if_neg c17] at H
           exact absurd H (by simp)
         ·rw [if_neg c16] at H
          have c16b0 : decide ((bt a0 x4_1) < 32) = false:=decide_eq_false c16
          clear c16
          by_cases c28 : 0 ≤ x4_1
          ·rw [if_pos c28] at H
           have c28b0:=eq_true c28
           have c28b1 : decide (0 ≤ x4_1) = true:=decide_eq_true c28
           clear c28
           by_cases c29 : x4_1 ≤ (wrap64 (x4_1 + 1))
           ·rw [if_pos c29] at H
            have c29b0:=eq_true c29
            have c29b1 : decide (x4_1 ≤ (wrap64 (x4_1 + 1))) = true:=decide_eq_true c29
            by_cases c30 : (wrap64 (x4_1 + 1)) ≤ (a0.size : Int)
            ·rw [if_pos c30] at H
             have c30b0:=eq_true c30
             have c30b1 : decide ((wrap64 (x4_1 + 1)) ≤ (a0.size : Int)) = true:=decide_eq_true c30
             by_cases c31 : x3_2.size + (a0.extract (x4_1 : Int).toNat ((wrap64 (x4_1 + 1)) : Int).toNat).size ≤ 9223372036854775807
             ·rw [if_pos c31] at H
              have c31b0:=eq_true c31
              have c31b1 : decide (x3_2.size + (a0.extract (x4_1 : Int).toNat ((wrap64 (x4_1 + 1)) : Int).toNat).size ≤ 9223372036854775807) = true:=decide_eq_true c31
              try have c31b2 : (9223372036854775807 < x3_2.size + (a0.extract (x4_1 : Int).toNat ((wrap64 (x4_1 + 1)) : Int).toNat).size) = False:=eq_false (Nat.not_lt.2 c31)
              have H':=Aside0.mk H
              clear H
              go_wp2
              repeat (go_quiet (fail);try go_wp2)
              go_roundg k2
              case measure => have:=HK1.out;have:=HK2.out;omega
              case rel => exact ⟨(x3_2 ++ (a0.extract (x4_1 : Int).toNat ((wrap64 (x4_1 + 1)) : Int).toNat)),(wrap64 (x4_1 + 1)),(by first|rfl|(simp;done)|(simp;decide +kernel)|(simp [*];done)),(by first|rfl|(simp;done)|(simp;decide +kernel)|(simp [*];done)),(by first|exact H'|(subst_vars;exact H')),⟨by have:=HK1.out;have:=HK2.out;omega⟩,by repeat (first|exact Drawn0.refl _|apply Drawn0.step)⟩
             ·rw [if_neg c31] at H
              exact absurd H (by simp)
            ·rw [if_neg c30] at H
             exact absurd H (by simp)
           ·rw [if_neg c29] at H
            exact absurd H (by simp)
          ·rw [if_neg c28] at H
           exact absurd H (by simp)
    ·rw [if_neg c3] at H
     exact absurd H (by simp)
   ·rw [if_neg c2] at H
    have c2b0 : decide (x4_1 < (a0.size : Int)) = false:=decide_eq_false c2
    clear c2
    by_cases c32 : x3_1.size + 1 ≤ 9223372036854775807
    ·rw [if_pos c32] at H
     have c32b0:=eq_true c32
     have c32b1 : decide (x3_1.size + 1 ≤ 9223372036854775807) = true:=decide_eq_true c32
     try have c32b2 : (9223372036854775807 < x3_1.size + 1) = False:=eq_false (Nat.not_lt.2 c32)
     obtain rfl:=Option.some.inj H
     go_wp2
     repeat (go_quiet (fail);try go_wp2)
     go_ret
     exact ⟨by first|rfl|(simp;done)|(simp;decide +kernel)|(simp [*];done),by repeat (first|exact Drawn0.refl _|apply Drawn0.step)⟩
    ·rw [if_neg c32] at H
     exact absurd H (by simp)
end Go.Proofs.YtadfkeipcebmfaaDoor.X
namespace Go.Proofs.YtadfkeipcebmfaaDoor.X
open Go.RowKit Go.Proofs.YtadfkeipcebmfaaDoorW.PrintWords Go.Proofs.YtadfkeipcebmfaaDoorW.PrintLast Go.Proofs.YtadfkeipcebmfaaDoorW.PrintMore
attribute [local go_sem] max2_int min2_int max_two min_two max_three min_three max_four min_four
set_option linter.unusedVariables false
set_option linter.unusedSimpArgs false
mutual
def racewayref25_written.l0 : Nat → List (S46) → ByteArray → Int → Int → Int → Int → Int → ByteArray → ByteArray → Option (ByteArray)
 | 0,_,_,_,_,_,_,_,_,_ => none
 | k + 1,x0,x6,x7,x8,x375000,x375001,x375002,x375003,x375004 => if x8 < x375002 then (if x8 > 0 then (if x6.size + 1 ≤ 9223372036854775807 then (racewayref25_written.j1 k x0 (x6 ++ (⟨#[44]⟩ : ByteArray)) x7 x8 x375000 x375001 x375002 x375003 x375004) else (none)) else (racewayref25_written.j1 k x0 x6 x7 x8 x375000 x375001 x375002 x375003 x375004)) else (if x375000 = 7 then (if 1 + x6.size ≤ 9223372036854775807 then (if 1 + x6.size + 1 ≤ 9223372036854775807 then (some (((⟨#[123]⟩ : ByteArray) ++ x6) ++ (⟨#[125]⟩ : ByteArray))) else (none)) else (none)) else (if 1 + x6.size ≤ 9223372036854775807 then (if 1 + x6.size + 1 ≤ 9223372036854775807 then (some (((⟨#[91]⟩ : ByteArray) ++ x6) ++ (⟨#[93]⟩ : ByteArray))) else (none)) else (none)))
def racewayref25_written.j1 : Nat → List (S46) → ByteArray → Int → Int → Int → Int → Int → ByteArray → ByteArray → Option (ByteArray)
 | 0,_,_,_,_,_,_,_,_,_ => none
 | k + 1,x0,x6,x7,x8,x375000,x375001,x375002,x375003,x375004 => if x375000 = 7 then (if 0 ≤ x7 then (if x7 < (x0.length : Int) then ((racewayref25_quote.f k ((rd_T46 x0 x7).f3)).bind fun t377 => (if x6.size + t377.size ≤ 9223372036854775807 then (if x6.size + t377.size + 1 ≤ 9223372036854775807 then ((racewayref25_written.f k x0 x7).bind fun t378 => (if x6.size + t377.size + 1 + t378.size ≤ 9223372036854775807 then (racewayref25_written.l0 k x0 (((x6 ++ t377) ++ (⟨#[58]⟩ : ByteArray)) ++ t378) (wrap64 (x7 + ((rd_T46 x0 x7).f1))) (wrap64 (x8 + 1)) x375000 x375001 x375002 x375003 x375004) else (none))) else (none)) else (none))) else (none)) else (none)) else ((racewayref25_written.f k x0 x7).bind fun t380 => (if x6.size + t380.size ≤ 9223372036854775807 then (if 0 ≤ x7 then (if x7 < (x0.length : Int) then (racewayref25_written.l0 k x0 (x6 ++ t380) (wrap64 (x7 + ((rd_T46 x0 x7).f1))) (wrap64 (x8 + 1)) x375000 x375001 x375002 x375003 x375004) else (none)) else (none)) else (none)))
def racewayref25_written.f : Nat → List (S46) → Int → Option (ByteArray)
 | 0,_,_ => none
 | k + 1,l0,a1 => if 0 ≤ a1 then (if a1 < (l0.length : Int) then (if ((rd_T46 l0 a1).f0) = 1 then (some (⟨#[110,117,108,108]⟩ : ByteArray)) else (if ((rd_T46 l0 a1).f0) = 2 then (some (⟨#[116,114,117,101]⟩ : ByteArray)) else (if ((rd_T46 l0 a1).f0) = 3 then (some (⟨#[102,97,108,115,101]⟩ : ByteArray)) else (if ((rd_T46 l0 a1).f0) = 4 then (some ((rd_T46 l0 a1).f4)) else (if ((rd_T46 l0 a1).f0) = 5 then ((racewayref25_quote.f k ((rd_T46 l0 a1).f4)).bind fun t375 => (some t375)) else (racewayref25_written.l0 k l0 (⟨#[]⟩ : ByteArray) (wrap64 (a1 + 1)) 0 ((rd_T46 l0 a1).f0) ((rd_T46 l0 a1).f1) ((rd_T46 l0 a1).f2) ((rd_T46 l0 a1).f3) ((rd_T46 l0 a1).f4))))))) else (none)) else (none)
end
set_option maxHeartbeats 8000000 in
set_option maxRecDepth 100000 in
theorem racewayref25_written.calls (k : Nat) : ∀ (A0 : Option Addr) (c0 : Nat) (l0 : List (S46)) (a1 : Int) (r : ByteArray) (w : World) (hr0 : Kd.C k46 w A0 l0.length l0) (hc0 : l0.length ≤ c0) (h : racewayref25_written.f k l0 a1 = some r),
  Calls Tryd.prog 42 #[.slice A0 l0.length c0,.int .i64 a1] w fun e w' => e = .returned (.string r) ∧ Below w.heap.size w w':=by
 induction k using Nat.strongRecOn with
 | _ k ih =>
 intro A0 c0 l0 a1 r w hr0 hc0 h
 cases k with
 | zero => exact absurd h (by simp [racewayref25_written.f])
 | succ k =>
 simp only [racewayref25_written.f] at h
 have hu46:=Tryd.underlying46
 have HR0:=Aside0.mk hr0
 have HC0:=Aside0.mk hc0
 clear hr0 hc0
 have HB:=Aside0.mk (Below.refl w.heap.size w)
 have H : (if 0 ≤ a1 then (if a1 < (l0.length : Int) then (if ((rd_T46 l0 a1).f0) = 1 then (some (⟨#[110,117,108,108]⟩ : ByteArray)) else (if ((rd_T46 l0 a1).f0) = 2 then (some (⟨#[116,114,117,101]⟩ : ByteArray)) else (if ((rd_T46 l0 a1).f0) = 3 then (some (⟨#[102,97,108,115,101]⟩ : ByteArray)) else (if ((rd_T46 l0 a1).f0) = 4 then (some ((rd_T46 l0 a1).f4)) else (if ((rd_T46 l0 a1).f0) = 5 then ((racewayref25_quote.f k ((rd_T46 l0 a1).f4)).bind fun t375 => (some t375)) else (racewayref25_written.l0 k l0 (⟨#[]⟩ : ByteArray) (wrap64 (a1 + 1)) 0 ((rd_T46 l0 a1).f0) ((rd_T46 l0 a1).f1) ((rd_T46 l0 a1).f2) ((rd_T46 l0 a1).f3) ((rd_T46 l0 a1).f4))))))) else (none)) else (none)) = some r:=h
 clear h
 by_cases c3 : 0 ≤ a1
 ·rw [if_pos c3] at H
  have c3b0 : decide (0 ≤ a1) = true:=decide_eq_true c3
  clear c3
  by_cases c4 : a1 < (l0.length : Int)
  ·rw [if_pos c4] at H
   have c4b0 : decide (a1 < (l0.length : Int)) = true:=decide_eq_true c4
   clear c4
   by_cases c5 : ((rd_T46 l0 a1).f0) = 1
   ·rw [if_pos c5] at H
    have c5b0 : (((rd_T46 l0 a1).f0) == 1) = true:=beq_iff_eq.mpr c5
    have c5b1 : (((rd_T46 l0 a1).f0) != 1) = false:=bne_eq_false_iff_eq.mpr c5
    clear c5
    obtain rfl:=Option.some.inj H
    have p373 : 0 ≤ (a1 : Int):=of_decide_eq_true (by first|(with_reducible assumption)|assumption)
    have q373 : a1 < (l0.length : Int):=of_decide_eq_true (by first|(with_reducible assumption)|assumption)
    obtain ⟨ad373,e373,hx373_0,hx373_1,hx373_2,hx373_3,hx373_4⟩:=at_T46 HR0.out a1 p373 q373
    cases e373
    replace p373:=eq_true p373
    replace q373:=eq_true q373
    go_enter Tryd.func42,Tryd.ntmps42
    go_wp2_with (first|((with_reducible refine gate_dst (N:=5) rfl ?_);refine box_event ?hg (N:=5) ?hd (cs:=#[.int .i64 0,.int .i64 0,.int .i64 0,.string (⟨#[]⟩ : ByteArray),.string (⟨#[]⟩ : ByteArray)]) (t:=46) ?hr ?_;(case hd => rfl);(case hg => rfl);(case hr => first|(go_simp;done)|(go_simp;rfl));intro gb374 hg w6 hbox hb;have n0_:=Aside0.mk (below_step (by repeat (first|(with_reducible first|exact HB.out|apply below_alloc|apply pw_below_drewN|apply below_drew1)|exact HB.out)) hb);have n1_:=Aside0.mk (hbox);have n2_:=Aside0.mk ((by rw [hg];exact (below_size (by repeat (first|(with_reducible first|exact HB.out|apply below_alloc|apply pw_below_drewN|apply below_drew1)|exact HB.out))) : w.heap.size ≤ gb374));have n3_:=Aside0.mk ((by rw [hg];exact (below_size (by repeat (first|(with_reducible first|exact HB.out|apply below_alloc|apply pw_below_drewN|apply below_drew1)|exact HB.out))) : w.heap.size ≤ gb374));clear HB;have HB:=n0_;have BK374:=n1_;have GW374:=n2_;have GE374:=n3_;clear n0_ n1_ n2_ n3_;clear hb hbox hg;have hcz7_0 : w6.cell? ⟨gb374,0,none⟩ = some (.int .i64 0):=(blk_cell BK374.out 0).trans rfl;have hcz7_1 : w6.cell? ⟨gb374,1,none⟩ = some (.int .i64 0):=(blk_cell BK374.out 1).trans rfl;have hcz7_2 : w6.cell? ⟨gb374,2,none⟩ = some (.int .i64 0):=(blk_cell BK374.out 2).trans rfl;have hcz7_3 : w6.cell? ⟨gb374,3,none⟩ = some (.string (⟨#[]⟩ : ByteArray)):=(blk_cell BK374.out 3).trans rfl;have hcz7_4 : w6.cell? ⟨gb374,4,none⟩ = some (.string (⟨#[]⟩ : ByteArray)):=(blk_cell BK374.out 4).trans rfl;have hfz7_0:=blk_frozen BK374.out 0;have hfz7_1:=blk_frozen BK374.out 1;have hfz7_2:=blk_frozen BK374.out 2;have hfz7_3:=blk_frozen BK374.out 3;have hfz7_4:=blk_frozen BK374.out 4))
    go_ret
    exact ⟨by first|rfl|(simp [errW_none,errW_some] <;> rfl)|(simp [*,errW_none,errW_some] <;> rfl),by repeat (first|(with_reducible first|exact HB.out|apply below_alloc|apply pw_below_drewN|apply below_drew1|refine below_set ?_ GE374.out)|exact HB.out)⟩
   ·rw [if_neg c5] at H
    have c5b0 : (((rd_T46 l0 a1).f0) == 1) = false:=beq_eq_false_iff_ne.mpr c5
    have c5b1 : (((rd_T46 l0 a1).f0) != 1) = true:=bne_iff_ne.mpr c5
    by_cases c8 : ((rd_T46 l0 a1).f0) = 2
    ·rw [if_pos c8] at H
     have c8b0 : (((rd_T46 l0 a1).f0) == 2) = true:=beq_iff_eq.mpr c8
     have c8b1 : (((rd_T46 l0 a1).f0) != 2) = false:=bne_eq_false_iff_eq.mpr c8
     clear c8
     obtain rfl:=Option.some.inj H
     have p373 : 0 ≤ (a1 : Int):=of_decide_eq_true (by first|(with_reducible assumption)|assumption)
     have q373 : a1 < (l0.length : Int):=of_decide_eq_true (by first|(with_reducible assumption)|assumption)
     obtain ⟨ad373,e373,hx373_0,hx373_1,hx373_2,hx373_3,hx373_4⟩:=at_T46 HR0.out a1 p373 q373
     cases e373
     replace p373:=eq_true p373
     replace q373:=eq_true q373
     go_enter Tryd.func42,Tryd.ntmps42
     go_wp2_with (first|((with_reducible refine gate_dst (N:=5) rfl ?_);refine box_event ?hg (N:=5) ?hd (cs:=#[.int .i64 0,.int .i64 0,.int .i64 0,.string (⟨#[]⟩ : ByteArray),.string (⟨#[]⟩ : ByteArray)]) (t:=46) ?hr ?_;(case hd => rfl);(case hg => rfl);(case hr => first|(go_simp;done)|(go_simp;rfl));intro gb374 hg w9 hbox hb;have n0_:=Aside0.mk (below_step (by repeat (first|(with_reducible first|exact HB.out|apply below_alloc|apply pw_below_drewN|apply below_drew1)|exact HB.out)) hb);have n1_:=Aside0.mk (hbox);have n2_:=Aside0.mk ((by rw [hg];exact (below_size (by repeat (first|(with_reducible first|exact HB.out|apply below_alloc|apply pw_below_drewN|apply below_drew1)|exact HB.out))) : w.heap.size ≤ gb374));have n3_:=Aside0.mk ((by rw [hg];exact (below_size (by repeat (first|(with_reducible first|exact HB.out|apply below_alloc|apply pw_below_drewN|apply below_drew1)|exact HB.out))) : w.heap.size ≤ gb374));clear HB;have HB:=n0_;have BK374:=n1_;have GW374:=n2_;have GE374:=n3_;clear n0_ n1_ n2_ n3_;clear hb hbox hg;have hcz10_0 : w9.cell? ⟨gb374,0,none⟩ = some (.int .i64 0):=(blk_cell BK374.out 0).trans rfl;have hcz10_1 : w9.cell? ⟨gb374,1,none⟩ = some (.int .i64 0):=(blk_cell BK374.out 1).trans rfl;have hcz10_2 : w9.cell? ⟨gb374,2,none⟩ = some (.int .i64 0):=(blk_cell BK374.out 2).trans rfl;have hcz10_3 : w9.cell? ⟨gb374,3,none⟩ = some (.string (⟨#[]⟩ : ByteArray)):=(blk_cell BK374.out 3).trans rfl;have hcz10_4 : w9.cell? ⟨gb374,4,none⟩ = some (.string (⟨#[]⟩ : ByteArray)):=(blk_cell BK374.out 4).trans rfl;have hfz10_0:=blk_frozen BK374.out 0;have hfz10_1:=blk_frozen BK374.out 1;have hfz10_2:=blk_frozen BK374.out 2;have hfz10_3:=blk_frozen BK374.out 3;have hfz10_4:=blk_frozen BK374.out 4))
     go_ret
     exact ⟨by first|rfl|(simp [errW_none,errW_some] <;> rfl)|(simp [*,errW_none,errW_some] <;> rfl),by repeat (first|(with_reducible first|exact HB.out|apply below_alloc|apply pw_below_drewN|apply below_drew1|refine below_set ?_ GE374.out)|exact HB.out)⟩
    ·rw [if_neg c8] at H
     have c8b0 : (((rd_T46 l0 a1).f0) == 2) = false:=beq_eq_false_iff_ne.mpr c8
     have c8b1 : (((rd_T46 l0 a1).f0) != 2) = true:=bne_iff_ne.mpr c8
     by_cases c11 : ((rd_T46 l0 a1).f0) = 3
     ·rw [if_pos c11] at H
      have c11b0 : (((rd_T46 l0 a1).f0) == 3) = true:=beq_iff_eq.mpr c11
      have c11b1 : (((rd_T46 l0 a1).f0) != 3) = false:=bne_eq_false_iff_eq.mpr c11
      clear c11
      obtain rfl:=Option.some.inj H
      have p373 : 0 ≤ (a1 : Int):=of_decide_eq_true (by first|(with_reducible assumption)|assumption)
      have q373 : a1 < (l0.length : Int):=of_decide_eq_true (by first|(with_reducible assumption)|assumption)
      obtain ⟨ad373,e373,hx373_0,hx373_1,hx373_2,hx373_3,hx373_4⟩:=at_T46 HR0.out a1 p373 q373
      cases e373
      replace p373:=eq_true p373
      replace q373:=eq_true q373
      go_enter Tryd.func42,Tryd.ntmps42
      go_wp2_with (first|((with_reducible refine gate_dst (N:=5) rfl ?_);refine box_event ?hg (N:=5) ?hd (cs:=#[.int .i64 0,.int .i64 0,.int .i64 0,.string (⟨#[]⟩ : ByteArray),.string (⟨#[]⟩ : ByteArray)]) (t:=46) ?hr ?_;(case hd => rfl);(case hg => rfl);(case hr => first|(go_simp;done)|(go_simp;rfl));intro gb374 hg w12 hbox hb;have n0_:=Aside0.mk (below_step (by repeat (first|(with_reducible first|exact HB.out|apply below_alloc|apply pw_below_drewN|apply below_drew1)|exact HB.out)) hb);have n1_:=Aside0.mk (hbox);have n2_:=Aside0.mk ((by rw [hg];exact (below_size (by repeat (first|(with_reducible first|exact HB.out|apply below_alloc|apply pw_below_drewN|apply below_drew1)|exact HB.out))) : w.heap.size ≤ gb374));have n3_:=Aside0.mk ((by rw [hg];exact (below_size (by repeat (first|(with_reducible first|exact HB.out|apply below_alloc|apply pw_below_drewN|apply below_drew1)|exact HB.out))) : w.heap.size ≤ gb374));clear HB;have HB:=n0_;have BK374:=n1_;have GW374:=n2_;have GE374:=n3_;clear n0_ n1_ n2_ n3_;clear hb hbox hg;have hcz13_0 : w12.cell? ⟨gb374,0,none⟩ = some (.int .i64 0):=(blk_cell BK374.out 0).trans rfl;have hcz13_1 : w12.cell? ⟨gb374,1,none⟩ = some (.int .i64 0):=(blk_cell BK374.out 1).trans rfl;have hcz13_2 : w12.cell? ⟨gb374,2,none⟩ = some (.int .i64 0):=(blk_cell BK374.out 2).trans rfl;have hcz13_3 : w12.cell? ⟨gb374,3,none⟩ = some (.string (⟨#[]⟩ : ByteArray)):=(blk_cell BK374.out 3).trans rfl;have hcz13_4 : w12.cell? ⟨gb374,4,none⟩ = some (.string (⟨#[]⟩ : ByteArray)):=(blk_cell BK374.out 4).trans rfl;have hfz13_0:=blk_frozen BK374.out 0;have hfz13_1:=blk_frozen BK374.out 1;have hfz13_2:=blk_frozen BK374.out 2;have hfz13_3:=blk_frozen BK374.out 3;have hfz13_4:=blk_frozen BK374.out 4))
      go_ret
      exact ⟨by first|rfl|(simp [errW_none,errW_some] <;> rfl)|(simp [*,errW_none,errW_some] <;> rfl),by repeat (first|(with_reducible first|exact HB.out|apply below_alloc|apply pw_below_drewN|apply below_drew1|refine below_set ?_ GE374.out)|exact HB.out)⟩
     ·rw [if_neg c11] at H
      have c11b0 : (((rd_T46 l0 a1).f0) == 3) = false:=beq_eq_false_iff_ne.mpr c11
      have c11b1 : (((rd_T46 l0 a1).f0) != 3) = true:=bne_iff_ne.mpr c11
      by_cases c14 : ((rd_T46 l0 a1).f0) = 4
      ·rw [if_pos c14] at H
       have c14b0 : (((rd_T46 l0 a1).f0) == 4) = true:=beq_iff_eq.mpr c14
       have c14b1 : (((rd_T46 l0 a1).f0) != 4) = false:=bne_eq_false_iff_eq.mpr c14
       clear c14
       obtain rfl:=Option.some.inj H
       have p373 : 0 ≤ (a1 : Int):=of_decide_eq_true (by first|(with_reducible assumption)|assumption)
       have q373 : a1 < (l0.length : Int):=of_decide_eq_true (by first|(with_reducible assumption)|assumption)
       obtain ⟨ad373,e373,hx373_0,hx373_1,hx373_2,hx373_3,hx373_4⟩:=at_T46 HR0.out a1 p373 q373
       cases e373
       replace p373:=eq_true p373
       replace q373:=eq_true q373
       go_enter Tryd.func42,Tryd.ntmps42
       go_wp2_with (first|((with_reducible refine gate_dst (N:=5) rfl ?_);refine box_event ?hg (N:=5) ?hd (cs:=#[.int .i64 0,.int .i64 0,.int .i64 0,.string (⟨#[]⟩ : ByteArray),.string (⟨#[]⟩ : ByteArray)]) (t:=46) ?hr ?_;(case hd => rfl);(case hg => rfl);(case hr => first|(go_simp;done)|(go_simp;rfl));intro gb374 hg w15 hbox hb;have n0_:=Aside0.mk (below_step (by repeat (first|(with_reducible first|exact HB.out|apply below_alloc|apply pw_below_drewN|apply below_drew1)|exact HB.out)) hb);have n1_:=Aside0.mk (hbox);have n2_:=Aside0.mk ((by rw [hg];exact (below_size (by repeat (first|(with_reducible first|exact HB.out|apply below_alloc|apply pw_below_drewN|apply below_drew1)|exact HB.out))) : w.heap.size ≤ gb374));have n3_:=Aside0.mk ((by rw [hg];exact (below_size (by repeat (first|(with_reducible first|exact HB.out|apply below_alloc|apply pw_below_drewN|apply below_drew1)|exact HB.out))) : w.heap.size ≤ gb374));clear HB;have HB:=n0_;have BK374:=n1_;have GW374:=n2_;have GE374:=n3_;clear n0_ n1_ n2_ n3_;clear hb hbox hg;have hcz16_0 : w15.cell? ⟨gb374,0,none⟩ = some (.int .i64 0):=(blk_cell BK374.out 0).trans rfl;have hcz16_1 : w15.cell? ⟨gb374,1,none⟩ = some (.int .i64 0):=(blk_cell BK374.out 1).trans rfl;have hcz16_2 : w15.cell? ⟨gb374,2,none⟩ = some (.int .i64 0):=(blk_cell BK374.out 2).trans rfl;have hcz16_3 : w15.cell? ⟨gb374,3,none⟩ = some (.string (⟨#[]⟩ : ByteArray)):=(blk_cell BK374.out 3).trans rfl;have hcz16_4 : w15.cell? ⟨gb374,4,none⟩ = some (.string (⟨#[]⟩ : ByteArray)):=(blk_cell BK374.out 4).trans rfl;have hfz16_0:=blk_frozen BK374.out 0;have hfz16_1:=blk_frozen BK374.out 1;have hfz16_2:=blk_frozen BK374.out 2;have hfz16_3:=blk_frozen BK374.out 3;have hfz16_4:=blk_frozen BK374.out 4))
       go_ret
       exact ⟨by first|rfl|(simp [errW_none,errW_some] <;> rfl)|(simp [*,errW_none,errW_some] <;> rfl),by repeat (first|(with_reducible first|exact HB.out|apply below_alloc|apply pw_below_drewN|apply below_drew1|refine below_set ?_ GE374.out)|exact HB.out)⟩
      ·rw [if_neg c14] at H
       have c14b0 : (((rd_T46 l0 a1).f0) == 4) = false:=beq_eq_false_iff_ne.mpr c14
       have c14b1 : (((rd_T46 l0 a1).f0) != 4) = true:=bne_iff_ne.mpr c14
       by_cases c17 : ((rd_T46 l0 a1).f0) = 5
       ·rw [if_pos c17] at H
        have c17b0 : (((rd_T46 l0 a1).f0) == 5) = true:=beq_iff_eq.mpr c17
        have c17b1 : (((rd_T46 l0 a1).f0) != 5) = false:=bne_eq_false_iff_eq.mpr c17
        clear c17
        replace H:=Option.bind_eq_some_iff.mp H
        obtain ⟨t375,A180,H⟩:=H
        replace H : (some t375) = some r:=H
        have A18:=Aside0.mk A180
        clear A180
        obtain rfl:=Option.some.inj H
        have p373 : 0 ≤ (a1 : Int):=of_decide_eq_true (by first|(with_reducible assumption)|assumption)
        have q373 : a1 < (l0.length : Int):=of_decide_eq_true (by first|(with_reducible assumption)|assumption)
        obtain ⟨ad373,e373,hx373_0,hx373_1,hx373_2,hx373_3,hx373_4⟩:=at_T46 HR0.out a1 p373 q373
        cases e373
        replace p373:=eq_true p373
        replace q373:=eq_true q373
        go_enter Tryd.func42,Tryd.ntmps42
        go_wp2_with (first|((with_reducible refine gate_dst (N:=5) rfl ?_);refine box_event ?hg (N:=5) ?hd (cs:=#[.int .i64 0,.int .i64 0,.int .i64 0,.string (⟨#[]⟩ : ByteArray),.string (⟨#[]⟩ : ByteArray)]) (t:=46) ?hr ?_;(case hd => rfl);(case hg => rfl);(case hr => first|(go_simp;done)|(go_simp;rfl));intro gb374 hg w19 hbox hb;have n0_:=Aside0.mk (below_step (by repeat (first|(with_reducible first|exact HB.out|apply below_alloc|apply pw_below_drewN|apply below_drew1)|exact HB.out)) hb);have n1_:=Aside0.mk (hbox);have n2_:=Aside0.mk ((by rw [hg];exact (below_size (by repeat (first|(with_reducible first|exact HB.out|apply below_alloc|apply pw_below_drewN|apply below_drew1)|exact HB.out))) : w.heap.size ≤ gb374));have n3_:=Aside0.mk ((by rw [hg];exact (below_size (by repeat (first|(with_reducible first|exact HB.out|apply below_alloc|apply pw_below_drewN|apply below_drew1)|exact HB.out))) : w.heap.size ≤ gb374));clear HB;have HB:=n0_;have BK374:=n1_;have GW374:=n2_;have GE374:=n3_;clear n0_ n1_ n2_ n3_;clear hb hbox hg;have hcz20_0 : w19.cell? ⟨gb374,0,none⟩ = some (.int .i64 0):=(blk_cell BK374.out 0).trans rfl;have hcz20_1 : w19.cell? ⟨gb374,1,none⟩ = some (.int .i64 0):=(blk_cell BK374.out 1).trans rfl;have hcz20_2 : w19.cell? ⟨gb374,2,none⟩ = some (.int .i64 0):=(blk_cell BK374.out 2).trans rfl;have hcz20_3 : w19.cell? ⟨gb374,3,none⟩ = some (.string (⟨#[]⟩ : ByteArray)):=(blk_cell BK374.out 3).trans rfl;have hcz20_4 : w19.cell? ⟨gb374,4,none⟩ = some (.string (⟨#[]⟩ : ByteArray)):=(blk_cell BK374.out 4).trans rfl;have hfz20_0:=blk_frozen BK374.out 0;have hfz20_1:=blk_frozen BK374.out 1;have hfz20_2:=blk_frozen BK374.out 2;have hfz20_3:=blk_frozen BK374.out 3;have hfz20_4:=blk_frozen BK374.out 4)|((with_reducible refine gate_callee (f:=65) rfl ?_);refine goesL_ (some 29) rfl rfl Tryd.func65 (by kernel_rfl) rfl #[.string ((rd_T46 l0 a1).f4)] rfl (by (try simp only [List.map_toArray,List.map_cons,List.map_nil]);first|done|rfl|(simp only [List.length_drop,List.length_take];rfl)) ?_;(with_reducible refine (racewayref25_quote.calls k ((rd_T46 l0 a1).f4) t375 _ A18.out).mono ?_);rintro e w' ⟨rfl,⟨nd,rfl⟩⟩;refine ⟨_,rfl,?_⟩))
        go_ret
        exact ⟨by first|rfl|(simp [errW_none,errW_some] <;> rfl)|(simp [*,errW_none,errW_some] <;> rfl),by repeat (first|(with_reducible first|exact HB.out|apply below_alloc|apply pw_below_drewN|apply below_drew1|refine below_set ?_ GE374.out)|exact HB.out)⟩
       ·rw [if_neg c17] at H
        have c17b0 : (((rd_T46 l0 a1).f0) == 5) = false:=beq_eq_false_iff_ne.mpr c17
        have c17b1 : (((rd_T46 l0 a1).f0) != 5) = true:=bne_iff_ne.mpr c17
        have H':=Aside0.mk H
        clear H
        have p373 : 0 ≤ (a1 : Int):=of_decide_eq_true (by first|(with_reducible assumption)|assumption)
        have q373 : a1 < (l0.length : Int):=of_decide_eq_true (by first|(with_reducible assumption)|assumption)
        obtain ⟨ad373,e373,hx373_0,hx373_1,hx373_2,hx373_3,hx373_4⟩:=at_T46 HR0.out a1 p373 q373
        cases e373
        replace p373:=eq_true p373
        replace q373:=eq_true q373
        go_enter Tryd.func42,Tryd.ntmps42
        go_wp2_with (first|((with_reducible refine gate_dst (N:=5) rfl ?_);refine box_event ?hg (N:=5) ?hd (cs:=#[.int .i64 0,.int .i64 0,.int .i64 0,.string (⟨#[]⟩ : ByteArray),.string (⟨#[]⟩ : ByteArray)]) (t:=46) ?hr ?_;(case hd => rfl);(case hg => rfl);(case hr => first|(go_simp;done)|(go_simp;rfl));intro gb374 hg w21 hbox hb;have n0_:=Aside0.mk (below_step (by repeat (first|(with_reducible first|exact HB.out|apply below_alloc|apply pw_below_drewN|apply below_drew1)|exact HB.out)) hb);have n1_:=Aside0.mk (hbox);have n2_:=Aside0.mk ((by rw [hg];exact (below_size (by repeat (first|(with_reducible first|exact HB.out|apply below_alloc|apply pw_below_drewN|apply below_drew1)|exact HB.out))) : w.heap.size ≤ gb374));have n3_:=Aside0.mk ((by rw [hg];exact (below_size (by repeat (first|(with_reducible first|exact HB.out|apply below_alloc|apply pw_below_drewN|apply below_drew1)|exact HB.out))) : w.heap.size ≤ gb374));clear HB;have HB:=n0_;have BK374:=n1_;have GW374:=n2_;have GE374:=n3_;clear n0_ n1_ n2_ n3_;clear hb hbox hg;have hcz22_0 : w21.cell? ⟨gb374,0,none⟩ = some (.int .i64 0):=(blk_cell BK374.out 0).trans rfl;have hcz22_1 : w21.cell? ⟨gb374,1,none⟩ = some (.int .i64 0):=(blk_cell BK374.out 1).trans rfl;have hcz22_2 : w21.cell? ⟨gb374,2,none⟩ = some (.int .i64 0):=(blk_cell BK374.out 2).trans rfl;have hcz22_3 : w21.cell? ⟨gb374,3,none⟩ = some (.string (⟨#[]⟩ : ByteArray)):=(blk_cell BK374.out 3).trans rfl;have hcz22_4 : w21.cell? ⟨gb374,4,none⟩ = some (.string (⟨#[]⟩ : ByteArray)):=(blk_cell BK374.out 4).trans rfl;have hfz22_0:=blk_frozen BK374.out 0;have hfz22_1:=blk_frozen BK374.out 1;have hfz22_2:=blk_frozen BK374.out 2;have hfz22_3:=blk_frozen BK374.out 3;have hfz22_4:=blk_frozen BK374.out 4))
        go_loopg [6,7,8] k (fun kq v6 v7 v8 w' => ∃ (x6_1 : ByteArray) (x7_1 : Int) (x8_1 : Int),v6 = .string x6_1 ∧ v7 = .int .i64 x7_1 ∧ v8 = .int .i64 x8_1 ∧ Aside0 (racewayref25_written.l0 kq l0 x6_1 x7_1 x8_1 ((rd_T46 l0 a1).f0) ((rd_T46 l0 a1).f1) ((rd_T46 l0 a1).f2) ((rd_T46 l0 a1).f3) ((rd_T46 l0 a1).f4) = some r) ∧ Aside0 (kq ≤ k) ∧ Aside0 (w'.heap[gb374]? = some (.cells #[.int .i64 ((rd_T46 l0 a1).f0),.int .i64 ((rd_T46 l0 a1).f1),.int .i64 ((rd_T46 l0 a1).f2),.string ((rd_T46 l0 a1).f3),.string ((rd_T46 l0 a1).f4)] 46 (0,0))) ∧ Aside0 (Below w.heap.size w w'))
        case atStart => exact ⟨((⟨#[]⟩ : ByteArray)),(wrap64 (a1 + 1)),(0),(by first|rfl|(simp;done)|(simp;decide +kernel)|(simp [*];done)),(by first|rfl|(simp;done)|(simp;decide +kernel)|(simp [*];done)),(by first|rfl|(simp;done)|(simp;decide +kernel)|(simp [*];done)),(by first|exact H'|(subst_vars;exact H')),⟨Nat.le_refl _⟩,⟨by (with_reducible repeat (first|refine blk_drewN ?_ _|refine blk_drew ?_|refine blk_alloc ?_ _));refine blk_put (cs:=#[.int .i64 ((rd_T46 l0 a1).f0),.int .i64 ((rd_T46 l0 a1).f1),.int .i64 ((rd_T46 l0 a1).f2),.string ((rd_T46 l0 a1).f3),.string (⟨#[]⟩ : ByteArray)]) ?_ 4 _ rfl;(with_reducible repeat (first|refine blk_drewN ?_ _|refine blk_drew ?_|refine blk_alloc ?_ _));refine blk_put (cs:=#[.int .i64 ((rd_T46 l0 a1).f0),.int .i64 ((rd_T46 l0 a1).f1),.int .i64 ((rd_T46 l0 a1).f2),.string (⟨#[]⟩ : ByteArray),.string (⟨#[]⟩ : ByteArray)]) ?_ 3 _ rfl;(with_reducible repeat (first|refine blk_drewN ?_ _|refine blk_drew ?_|refine blk_alloc ?_ _));refine blk_put (cs:=#[.int .i64 ((rd_T46 l0 a1).f0),.int .i64 ((rd_T46 l0 a1).f1),.int .i64 0,.string (⟨#[]⟩ : ByteArray),.string (⟨#[]⟩ : ByteArray)]) ?_ 2 _ rfl;(with_reducible repeat (first|refine blk_drewN ?_ _|refine blk_drew ?_|refine blk_alloc ?_ _));refine blk_put (cs:=#[.int .i64 ((rd_T46 l0 a1).f0),.int .i64 0,.int .i64 0,.string (⟨#[]⟩ : ByteArray),.string (⟨#[]⟩ : ByteArray)]) ?_ 1 _ rfl;(with_reducible repeat (first|refine blk_drewN ?_ _|refine blk_drew ?_|refine blk_alloc ?_ _));refine blk_put (cs:=#[.int .i64 0,.int .i64 0,.int .i64 0,.string (⟨#[]⟩ : ByteArray),.string (⟨#[]⟩ : ByteArray)]) ?_ 0 _ rfl;(with_reducible repeat (first|refine blk_drewN ?_ _|refine blk_drew ?_|refine blk_alloc ?_ _));exact BK374.out⟩,⟨by repeat (first|(with_reducible first|exact HB.out|apply below_alloc|apply pw_below_drewN|apply below_drew1|refine below_set ?_ GE374.out)|exact HB.out)⟩⟩
        case round =>
         clear H'
         try clear c1
         try clear p2
         try clear c3
         try clear c3b0
         try clear p3
         try clear q3
         try clear hx3
         try clear c4
         try clear c4b0
         try clear c5
         try clear c5b0
         try clear c5b1
         try clear c6
         try clear p6
         try clear c8
         try clear c8b0
         try clear c8b1
         try clear c11
         try clear c11b0
         try clear c11b1
         try clear c14
         try clear c14b0
         try clear c14b1
         try clear c17
         try clear c17b0
         try clear c17b1
         try clear hcz10_0
         try clear hcz10_1
         try clear hcz10_2
         try clear hcz10_3
         try clear hcz10_4
         try clear hcz13_0
         try clear hcz13_1
         try clear hcz13_2
         try clear hcz13_3
         try clear hcz13_4
         try clear hcz16_0
         try clear hcz16_1
         try clear hcz16_2
         try clear hcz16_3
         try clear hcz16_4
         try clear hcz20_0
         try clear hcz20_1
         try clear hcz20_2
         try clear hcz20_3
         try clear hcz20_4
         try clear hcz22_0
         try clear hcz22_1
         try clear hcz22_2
         try clear hcz22_3
         try clear hcz22_4
         try clear hcz7_0
         try clear hcz7_1
         try clear hcz7_2
         try clear hcz7_3
         try clear hcz7_4
         try clear hfz10_0
         try clear hfz10_1
         try clear hfz10_2
         try clear hfz10_3
         try clear hfz10_4
         try clear hfz13_0
         try clear hfz13_1
         try clear hfz13_2
         try clear hfz13_3
         try clear hfz13_4
         try clear hfz16_0
         try clear hfz16_1
         try clear hfz16_2
         try clear hfz16_3
         try clear hfz16_4
         try clear hfz20_0
         try clear hfz20_1
         try clear hfz20_2
         try clear hfz20_3
         try clear hfz20_4
         try clear hfz22_0
         try clear hfz22_1
         try clear hfz22_2
         try clear hfz22_3
         try clear hfz22_4
         try clear hfz7_0
         try clear hfz7_1
         try clear hfz7_2
         try clear hfz7_3
         try clear hfz7_4
         try clear hx373_0
         try clear hx373_1
         try clear hx373_2
         try clear hx373_3
         try clear hx373_4
         try clear p373
         try clear q373
         obtain ⟨x6_1,x7_1,x8_1,rfl,rfl,rfl,HA,HK1,BK374,HB⟩:=hrel
         cases gk with
         | zero => exact absurd HA.out (by simp [racewayref25_written.l0])
         | succ k1 =>
          have H:=HA.out
          clear HA
          simp only [racewayref25_written.l0] at H
          by_cases c23 : x8_1 < ((rd_T46 l0 a1).f2)
          ·rw [if_pos c23] at H
           have c23b0 : decide (x8_1 < ((rd_T46 l0 a1).f2)) = true:=decide_eq_true c23
           clear c23
           have HC24:=Aside0.mk H
           clear H
           have hcz25_0 : wr.cell? ⟨gb374,0,none⟩ = some (.int .i64 ((rd_T46 l0 a1).f0)):=(blk_cell BK374.out 0).trans rfl
           have hcz25_1 : wr.cell? ⟨gb374,1,none⟩ = some (.int .i64 ((rd_T46 l0 a1).f1)):=(blk_cell BK374.out 1).trans rfl
           have hcz25_2 : wr.cell? ⟨gb374,2,none⟩ = some (.int .i64 ((rd_T46 l0 a1).f2)):=(blk_cell BK374.out 2).trans rfl
           have hcz25_3 : wr.cell? ⟨gb374,3,none⟩ = some (.string ((rd_T46 l0 a1).f3)):=(blk_cell BK374.out 3).trans rfl
           have hcz25_4 : wr.cell? ⟨gb374,4,none⟩ = some (.string ((rd_T46 l0 a1).f4)):=(blk_cell BK374.out 4).trans rfl
           have hfz25_0:=blk_frozen BK374.out 0
           have hfz25_1:=blk_frozen BK374.out 1
           have hfz25_2:=blk_frozen BK374.out 2
           have hfz25_3:=blk_frozen BK374.out 3
           have hfz25_4:=blk_frozen BK374.out 4
           go_upto_if 39 with (fail)
           go_cut [6] (fun v6 wc => ∃ (kq : Nat) (x6_23 : ByteArray),v6 = .string x6_23 ∧ Aside0 (racewayref25_written.j1 kq l0 x6_23 x7_1 x8_1 ((rd_T46 l0 a1).f0) ((rd_T46 l0 a1).f1) ((rd_T46 l0 a1).f2) ((rd_T46 l0 a1).f3) ((rd_T46 l0 a1).f4) = some r) ∧ Aside0 (kq ≤ k1) ∧ Aside0 (wc.heap[gb374]? = some (.cells #[.int .i64 ((rd_T46 l0 a1).f0),.int .i64 ((rd_T46 l0 a1).f1),.int .i64 ((rd_T46 l0 a1).f2),.string ((rd_T46 l0 a1).f3),.string ((rd_T46 l0 a1).f4)] 46 (0,0))) ∧ Aside0 (Below w.heap.size w wc))
           case first =>
            have H:=HC24.out
            clear HC24
            by_cases c26 : x8_1 > 0
            ·rw [if_pos c26] at H
             have c26b0 : decide (0 < x8_1) = true:=decide_eq_true c26
             clear c26
             (first|rw [c26b0]|(simp only [i64_w,i32_w];rw [c26b0])|skip)
             by_cases c27 : x6_1.size + 1 ≤ 9223372036854775807
             ·rw [if_pos c27] at H
              have c27b0:=eq_true c27
              have c27b1 : decide (x6_1.size + 1 ≤ 9223372036854775807) = true:=decide_eq_true c27
              try have c27b2 : (9223372036854775807 < x6_1.size + 1) = False:=eq_false (Nat.not_lt.2 c27)
              have H':=Aside0.mk H
              clear H
              go_wp2
              go_meet
              case rel => exact ⟨_,(x6_1 ++ (⟨#[44]⟩ : ByteArray)),(by first|rfl|(simp;done)|(simp;decide +kernel)|(simp [*];done)),(by first|exact H'|(subst_vars;exact H')),⟨by have:=HK1.out;first|omega|exact Nat.le_refl _⟩,⟨by (with_reducible repeat (first|refine blk_drewN ?_ _|refine blk_drew ?_|refine blk_alloc ?_ _));exact BK374.out⟩,⟨by repeat (first|(with_reducible first|exact HB.out|apply below_alloc|apply pw_below_drewN|apply below_drew1|refine below_set ?_ GE374.out)|exact HB.out)⟩⟩
             ·rw [if_neg c27] at H
              exact absurd H (by simp)
            ·rw [if_neg c26] at H
             have c26b0 : decide (0 < x8_1) = false:=decide_eq_false c26
             clear c26
             (first|rw [c26b0]|(simp only [i64_w,i32_w];rw [c26b0])|skip)
             have H':=Aside0.mk H
             clear H
             go_wp2
             go_meet
             case rel => exact ⟨_,(x6_1),(by first|rfl|(simp;done)|(simp;decide +kernel)|(simp [*];done)),(by first|exact H'|(subst_vars;exact H')),⟨by have:=HK1.out;first|omega|exact Nat.le_refl _⟩,⟨by (with_reducible repeat (first|refine blk_drewN ?_ _|refine blk_drew ?_|refine blk_alloc ?_ _));exact BK374.out⟩,⟨by repeat (first|(with_reducible first|exact HB.out|apply below_alloc|apply pw_below_drewN|apply below_drew1|refine below_set ?_ GE374.out)|exact HB.out)⟩⟩
           case rest =>
            clear HC24
            try clear c1
            try clear c2
            try clear p2
            try clear c3
            try clear c3b0
            try clear p3
            try clear q3
            try clear hx3
            try clear c4
            try clear c4b0
            try clear c5
            try clear c5b0
            try clear c5b1
            try clear c6
            try clear p6
            try clear c8
            try clear c8b0
            try clear c8b1
            try clear c11
            try clear c11b0
            try clear c11b1
            try clear c14
            try clear c14b0
            try clear c14b1
            try clear c17
            try clear c17b0
            try clear c17b1
            try clear c23
            try clear c23b0
            try clear c26
            try clear c26b0
            try clear c27
            try clear c27b0
            try clear c27b1
            try clear c27b2
            try clear hcz10_0
            try clear hcz10_1
            try clear hcz10_2
            try clear hcz10_3
            try clear hcz10_4
            try clear hcz13_0
            try clear hcz13_1
            try clear hcz13_2
            try clear hcz13_3
            try clear hcz13_4
            try clear hcz16_0
            try clear hcz16_1
            try clear hcz16_2
            try clear hcz16_3
            try clear hcz16_4
            try clear hcz20_0
            try clear hcz20_1
            try clear hcz20_2
            try clear hcz20_3
            try clear hcz20_4
            try clear hcz22_0
            try clear hcz22_1
            try clear hcz22_2
            try clear hcz22_3
            try clear hcz22_4
            try clear hcz25_0
            try clear hcz25_1
            try clear hcz25_2
            try clear hcz25_3
            try clear hcz25_4
            try clear hcz7_0
            try clear hcz7_1
            try clear hcz7_2
            try clear hcz7_3
            try clear hcz7_4
            try clear hfz10_0
            try clear hfz10_1
            try clear hfz10_2
            try clear hfz10_3
            try clear hfz10_4
            try clear hfz13_0
            try clear hfz13_1
            try clear hfz13_2
            try clear hfz13_3
            try clear hfz13_4
            try clear hfz16_0
            try clear hfz16_1
            try clear hfz16_2
            try clear hfz16_3
            try clear hfz16_4
            try clear hfz20_0
            try clear hfz20_1
            try clear hfz20_2
            try clear hfz20_3
            try clear hfz20_4
            try clear hfz22_0
            try clear hfz22_1
            try clear hfz22_2
            try clear hfz22_3
            try clear hfz22_4
            try clear hfz25_0
            try clear hfz25_1
            try clear hfz25_2
            try clear hfz25_3
            try clear hfz25_4
            try clear hfz7_0
            try clear hfz7_1
            try clear hfz7_2
            try clear hfz7_3
            try clear hfz7_4
            try clear hx373_0
            try clear hx373_1
            try clear hx373_2
            try clear hx373_3
            try clear hx373_4
            try clear p2
            try clear p3
            try clear p373
            try clear p6
            try clear q3
            try clear q373
            obtain ⟨kq,x6_23,rfl,HA,HJ23,BK374,HB⟩:=hcut
            cases kq with
            | zero => exact absurd HA.out (by simp [racewayref25_written.j1])
            | succ kj23 =>
             have H:=HA.out
             clear HA
             simp only [racewayref25_written.j1] at H
             by_cases c28 : ((rd_T46 l0 a1).f0) = 7
             ·rw [if_pos c28] at H
              have c28b0 : (((rd_T46 l0 a1).f0) == 7) = true:=beq_iff_eq.mpr c28
              have c28b1 : (((rd_T46 l0 a1).f0) != 7) = false:=bne_eq_false_iff_eq.mpr c28
              clear c28
              by_cases c29 : 0 ≤ x7_1
              ·rw [if_pos c29] at H
               have c29b0 : decide (0 ≤ x7_1) = true:=decide_eq_true c29
               clear c29
               by_cases c30 : x7_1 < (l0.length : Int)
               ·rw [if_pos c30] at H
                have c30b0 : decide (x7_1 < (l0.length : Int)) = true:=decide_eq_true c30
                clear c30
                replace H:=Option.bind_eq_some_iff.mp H
                obtain ⟨t377,A310,H⟩:=H
                replace H : (if x6_23.size + t377.size ≤ 9223372036854775807 then (if x6_23.size + t377.size + 1 ≤ 9223372036854775807 then ((racewayref25_written.f kj23 l0 x7_1).bind fun t378 => (if x6_23.size + t377.size + 1 + t378.size ≤ 9223372036854775807 then (racewayref25_written.l0 kj23 l0 (((x6_23 ++ t377) ++ (⟨#[58]⟩ : ByteArray)) ++ t378) (wrap64 (x7_1 + ((rd_T46 l0 x7_1).f1))) (wrap64 (x8_1 + 1)) ((rd_T46 l0 a1).f0) ((rd_T46 l0 a1).f1) ((rd_T46 l0 a1).f2) ((rd_T46 l0 a1).f3) ((rd_T46 l0 a1).f4)) else (none))) else (none)) else (none)) = some r:=H
                have A31:=Aside0.mk A310
                clear A310
                by_cases c32 : x6_23.size + t377.size ≤ 9223372036854775807
                ·rw [if_pos c32] at H
                 have c32b0:=eq_true c32
                 have c32b1 : decide (x6_23.size + t377.size ≤ 9223372036854775807) = true:=decide_eq_true c32
                 try have c32b2 : (9223372036854775807 < x6_23.size + t377.size) = False:=eq_false (Nat.not_lt.2 c32)
                 by_cases c33 : x6_23.size + t377.size + 1 ≤ 9223372036854775807
                 ·rw [if_pos c33] at H
                  have c33b0:=eq_true c33
                  have c33b1 : decide (x6_23.size + t377.size + 1 ≤ 9223372036854775807) = true:=decide_eq_true c33
                  try have c33b2 : (9223372036854775807 < x6_23.size + t377.size + 1) = False:=eq_false (Nat.not_lt.2 c33)
                  replace H:=Option.bind_eq_some_iff.mp H
                  obtain ⟨t378,A340,H⟩:=H
                  replace H : (if x6_23.size + t377.size + 1 + t378.size ≤ 9223372036854775807 then (racewayref25_written.l0 kj23 l0 (((x6_23 ++ t377) ++ (⟨#[58]⟩ : ByteArray)) ++ t378) (wrap64 (x7_1 + ((rd_T46 l0 x7_1).f1))) (wrap64 (x8_1 + 1)) ((rd_T46 l0 a1).f0) ((rd_T46 l0 a1).f1) ((rd_T46 l0 a1).f2) ((rd_T46 l0 a1).f3) ((rd_T46 l0 a1).f4)) else (none)) = some r:=H
                  have A34:=Aside0.mk A340
                  clear A340
                  by_cases c35 : x6_23.size + t377.size + 1 + t378.size ≤ 9223372036854775807
                  ·rw [if_pos c35] at H
                   have c35b0:=eq_true c35
                   have c35b1 : decide (x6_23.size + t377.size + 1 + t378.size ≤ 9223372036854775807) = true:=decide_eq_true c35
                   try have c35b2 : (9223372036854775807 < x6_23.size + t377.size + 1 + t378.size) = False:=eq_false (Nat.not_lt.2 c35)
                   have H':=Aside0.mk H
                   clear H
                   have hcz36_0 : wc.cell? ⟨gb374,0,none⟩ = some (.int .i64 ((rd_T46 l0 a1).f0)):=(blk_cell BK374.out 0).trans rfl
                   have hcz36_1 : wc.cell? ⟨gb374,1,none⟩ = some (.int .i64 ((rd_T46 l0 a1).f1)):=(blk_cell BK374.out 1).trans rfl
                   have hcz36_2 : wc.cell? ⟨gb374,2,none⟩ = some (.int .i64 ((rd_T46 l0 a1).f2)):=(blk_cell BK374.out 2).trans rfl
                   have hcz36_3 : wc.cell? ⟨gb374,3,none⟩ = some (.string ((rd_T46 l0 a1).f3)):=(blk_cell BK374.out 3).trans rfl
                   have hcz36_4 : wc.cell? ⟨gb374,4,none⟩ = some (.string ((rd_T46 l0 a1).f4)):=(blk_cell BK374.out 4).trans rfl
                   have hfz36_0:=blk_frozen BK374.out 0
                   have hfz36_1:=blk_frozen BK374.out 1
                   have hfz36_2:=blk_frozen BK374.out 2
                   have hfz36_3:=blk_frozen BK374.out 3
                   have hfz36_4:=blk_frozen BK374.out 4
                   have p376 : 0 ≤ (x7_1 : Int):=of_decide_eq_true (by first|(with_reducible assumption)|assumption)
                   have q376 : x7_1 < (l0.length : Int):=of_decide_eq_true (by first|(with_reducible assumption)|assumption)
                   obtain ⟨ad376,e376,hx376_0,hx376_1,hx376_2,hx376_3,hx376_4⟩:=at_T46 HR0.out x7_1 p376 q376
                   obtain rfl : ad373 = ad376:=(by injection e376)
                   replace hx376_0:=(HB.out.cell (World.block_lt_of_cell? w _ hx376_0)).trans hx376_0
                   replace hx376_1:=(HB.out.cell (World.block_lt_of_cell? w _ hx376_1)).trans hx376_1
                   replace hx376_2:=(HB.out.cell (World.block_lt_of_cell? w _ hx376_2)).trans hx376_2
                   replace hx376_3:=(HB.out.cell (World.block_lt_of_cell? w _ hx376_3)).trans hx376_3
                   replace hx376_4:=(HB.out.cell (World.block_lt_of_cell? w _ hx376_4)).trans hx376_4
                   replace p376:=eq_true p376
                   replace q376:=eq_true q376
                   go_wp2_with (first|((with_reducible refine gate_callee (f:=65) rfl ?_);refine goesL_ (some 51) rfl rfl Tryd.func65 (by kernel_rfl) rfl #[.string ((rd_T46 l0 x7_1).f3)] rfl (by (try simp only [List.map_toArray,List.map_cons,List.map_nil]);first|done|rfl|(simp only [List.length_drop,List.length_take];rfl)) ?_;(with_reducible refine (racewayref25_quote.calls kj23 ((rd_T46 l0 x7_1).f3) t377 _ A31.out).mono ?_);rintro e w' ⟨rfl,⟨nd,rfl⟩⟩;refine ⟨_,rfl,?_⟩)|((with_reducible refine gate_callee (f:=42) rfl ?_);refine goesL_ (some 57) rfl rfl Tryd.func42 (by kernel_rfl) rfl #[.slice (some ad373) l0.length c0,.int .i64 x7_1] rfl (by (try simp only [List.map_toArray,List.map_cons,List.map_nil]);first|done|rfl|(simp only [List.length_drop,List.length_take];rfl)) ?_;(with_reducible refine (ih kj23 (by have:=HK1.out;have:=HJ23.out;omega) _ _ l0 x7_1 t378 _ ?side1 ?side2 A34.out).mono ?_);(case side1 => repeat (first|exact (Kd.C_below HR0.out (by repeat (first|(with_reducible first|exact HB.out|apply below_alloc|apply pw_below_drewN|apply below_drew1|refine below_set ?_ GE374.out)|exact HB.out)))|(with_reducible refine Kd.C_alloc ?_ _)|(with_reducible refine Kd.C_drewN ?_ _)|(with_reducible refine Kd.C_drew ?_)));(case side2 => exact HC0.out);rintro e w37 ⟨rfl,hb⟩;refine ⟨_,rfl,?_⟩;have n0_:=Aside0.mk (blk_below (g:=gb374) (o:=.cells #[.int .i64 ((rd_T46 l0 a1).f0),.int .i64 ((rd_T46 l0 a1).f1),.int .i64 ((rd_T46 l0 a1).f2),.string ((rd_T46 l0 a1).f3),.string ((rd_T46 l0 a1).f4)] 46 (0,0)) (by (with_reducible repeat (first|refine blk_drewN ?_ _|refine blk_drew ?_|refine blk_alloc ?_ _));exact BK374.out) hb);have n1_:=Aside0.mk (below_step (by repeat (first|(with_reducible first|exact HB.out|apply below_alloc|apply pw_below_drewN|apply below_drew1|refine below_set ?_ GE374.out)|exact HB.out)) hb);clear BK374;clear HB;have BK374:=n0_;have HB:=n1_;clear n0_ n1_;(try clear hb);(try clear hb2);(try clear hk);(try clear hi);have p379 : 0 ≤ (x7_1 : Int):=of_decide_eq_true (by first|(with_reducible assumption)|assumption);have q379 : x7_1 < (l0.length : Int):=of_decide_eq_true (by first|(with_reducible assumption)|assumption);obtain ⟨ad379,e379,hx379_0,hx379_1,hx379_2,hx379_3,hx379_4⟩:=at_T46 HR0.out x7_1 p379 q379;obtain rfl : ad373 = ad379:=(by injection e379);replace hx379_0:=(HB.out.cell (World.block_lt_of_cell? w _ hx379_0)).trans hx379_0;replace hx379_1:=(HB.out.cell (World.block_lt_of_cell? w _ hx379_1)).trans hx379_1;replace hx379_2:=(HB.out.cell (World.block_lt_of_cell? w _ hx379_2)).trans hx379_2;replace hx379_3:=(HB.out.cell (World.block_lt_of_cell? w _ hx379_3)).trans hx379_3;replace hx379_4:=(HB.out.cell (World.block_lt_of_cell? w _ hx379_4)).trans hx379_4;replace p379:=eq_true p379;replace q379:=eq_true q379))
                   go_roundg kj23
                   case measure => have:=HK1.out;have:=HJ23.out;omega
                   case rel => exact ⟨(((x6_23 ++ t377) ++ (⟨#[58]⟩ : ByteArray)) ++ t378),(wrap64 (x7_1 + ((rd_T46 l0 x7_1).f1))),(wrap64 (x8_1 + 1)),(by first|rfl|(simp;done)|(simp;decide +kernel)|(simp [*];done)),(by first|rfl|(simp;done)|(simp;decide +kernel)|(simp [*];done)),(by first|rfl|(simp;done)|(simp;decide +kernel)|(simp [*];done)),(by first|exact H'|(subst_vars;exact H')),⟨by have:=HK1.out;have:=HJ23.out;omega⟩,⟨by (with_reducible repeat (first|refine blk_drewN ?_ _|refine blk_drew ?_|refine blk_alloc ?_ _));exact BK374.out⟩,⟨by repeat (first|(with_reducible first|exact HB.out|apply below_alloc|apply pw_below_drewN|apply below_drew1|refine below_set ?_ GE374.out)|exact HB.out)⟩⟩
                  ·rw [if_neg c35] at H
                   exact absurd H (by simp)
                 ·rw [if_neg c33] at H
                  exact absurd H (by simp)
                ·rw [if_neg c32] at H
                 exact absurd H (by simp)
               ·rw [if_neg c30] at H
                exact absurd H (by simp)
              ·rw [if_neg c29] at H
               exact absurd H (by simp)
             ·rw [if_neg c28] at H
              have c28b0 : (((rd_T46 l0 a1).f0) == 7) = false:=beq_eq_false_iff_ne.mpr c28
              have c28b1 : (((rd_T46 l0 a1).f0) != 7) = true:=bne_iff_ne.mpr c28
              replace H:=Option.bind_eq_some_iff.mp H
              obtain ⟨t380,A380,H⟩:=H
              replace H : (if x6_23.size + t380.size ≤ 9223372036854775807 then (if 0 ≤ x7_1 then (if x7_1 < (l0.length : Int) then (racewayref25_written.l0 kj23 l0 (x6_23 ++ t380) (wrap64 (x7_1 + ((rd_T46 l0 x7_1).f1))) (wrap64 (x8_1 + 1)) ((rd_T46 l0 a1).f0) ((rd_T46 l0 a1).f1) ((rd_T46 l0 a1).f2) ((rd_T46 l0 a1).f3) ((rd_T46 l0 a1).f4)) else (none)) else (none)) else (none)) = some r:=H
              have A38:=Aside0.mk A380
              clear A380
              by_cases c39 : x6_23.size + t380.size ≤ 9223372036854775807
              ·rw [if_pos c39] at H
               have c39b0:=eq_true c39
               have c39b1 : decide (x6_23.size + t380.size ≤ 9223372036854775807) = true:=decide_eq_true c39
               try have c39b2 : (9223372036854775807 < x6_23.size + t380.size) = False:=eq_false (Nat.not_lt.2 c39)
               by_cases c40 : 0 ≤ x7_1
               ·rw [if_pos c40] at H
                have c40b0 : decide (0 ≤ x7_1) = true:=decide_eq_true c40
                clear c40
                by_cases c41 : x7_1 < (l0.length : Int)
                ·rw [if_pos c41] at H
                 have c41b0 : decide (x7_1 < (l0.length : Int)) = true:=decide_eq_true c41
                 clear c41
                 have H':=Aside0.mk H
                 clear H
                 have hcz42_0 : wc.cell? ⟨gb374,0,none⟩ = some (.int .i64 ((rd_T46 l0 a1).f0)):=(blk_cell BK374.out 0).trans rfl
                 have hcz42_1 : wc.cell? ⟨gb374,1,none⟩ = some (.int .i64 ((rd_T46 l0 a1).f1)):=(blk_cell BK374.out 1).trans rfl
                 have hcz42_2 : wc.cell? ⟨gb374,2,none⟩ = some (.int .i64 ((rd_T46 l0 a1).f2)):=(blk_cell BK374.out 2).trans rfl
                 have hcz42_3 : wc.cell? ⟨gb374,3,none⟩ = some (.string ((rd_T46 l0 a1).f3)):=(blk_cell BK374.out 3).trans rfl
                 have hcz42_4 : wc.cell? ⟨gb374,4,none⟩ = some (.string ((rd_T46 l0 a1).f4)):=(blk_cell BK374.out 4).trans rfl
                 have hfz42_0:=blk_frozen BK374.out 0
                 have hfz42_1:=blk_frozen BK374.out 1
                 have hfz42_2:=blk_frozen BK374.out 2
                 have hfz42_3:=blk_frozen BK374.out 3
                 have hfz42_4:=blk_frozen BK374.out 4
                 go_wp2_with (first|((with_reducible refine gate_callee (f:=42) rfl ?_);refine goesL_ (some 57) rfl rfl Tryd.func42 (by kernel_rfl) rfl #[.slice (some ad373) l0.length c0,.int .i64 x7_1] rfl (by (try simp only [List.map_toArray,List.map_cons,List.map_nil]);first|done|rfl|(simp only [List.length_drop,List.length_take];rfl)) ?_;(with_reducible refine (ih kj23 (by have:=HK1.out;have:=HJ23.out;omega) _ _ l0 x7_1 t380 _ ?side1 ?side2 A38.out).mono ?_);(case side1 => repeat (first|exact (Kd.C_below HR0.out HB.out)|(with_reducible refine Kd.C_alloc ?_ _)|(with_reducible refine Kd.C_drewN ?_ _)|(with_reducible refine Kd.C_drew ?_)));(case side2 => exact HC0.out);rintro e w43 ⟨rfl,hb⟩;refine ⟨_,rfl,?_⟩;have n0_:=Aside0.mk (blk_below (g:=gb374) (o:=.cells #[.int .i64 ((rd_T46 l0 a1).f0),.int .i64 ((rd_T46 l0 a1).f1),.int .i64 ((rd_T46 l0 a1).f2),.string ((rd_T46 l0 a1).f3),.string ((rd_T46 l0 a1).f4)] 46 (0,0)) (by (with_reducible repeat (first|refine blk_drewN ?_ _|refine blk_drew ?_|refine blk_alloc ?_ _));exact BK374.out) hb);have n1_:=Aside0.mk (below_step (by repeat (first|(with_reducible first|exact HB.out|apply below_alloc|apply pw_below_drewN|apply below_drew1|refine below_set ?_ GE374.out)|exact HB.out)) hb);clear BK374;clear HB;have BK374:=n0_;have HB:=n1_;clear n0_ n1_;(try clear hb);(try clear hb2);(try clear hk);(try clear hi);have p381 : 0 ≤ (x7_1 : Int):=of_decide_eq_true (by first|(with_reducible assumption)|assumption);have q381 : x7_1 < (l0.length : Int):=of_decide_eq_true (by first|(with_reducible assumption)|assumption);obtain ⟨ad381,e381,hx381_0,hx381_1,hx381_2,hx381_3,hx381_4⟩:=at_T46 HR0.out x7_1 p381 q381;obtain rfl : ad373 = ad381:=(by injection e381);replace hx381_0:=(HB.out.cell (World.block_lt_of_cell? w _ hx381_0)).trans hx381_0;replace hx381_1:=(HB.out.cell (World.block_lt_of_cell? w _ hx381_1)).trans hx381_1;replace hx381_2:=(HB.out.cell (World.block_lt_of_cell? w _ hx381_2)).trans hx381_2;replace hx381_3:=(HB.out.cell (World.block_lt_of_cell? w _ hx381_3)).trans hx381_3;replace hx381_4:=(HB.out.cell (World.block_lt_of_cell? w _ hx381_4)).trans hx381_4;replace p381:=eq_true p381;replace q381:=eq_true q381))
                 go_roundg kj23
                 case measure => have:=HK1.out;have:=HJ23.out;omega
                 case rel => exact ⟨(x6_23 ++ t380),(wrap64 (x7_1 + ((rd_T46 l0 x7_1).f1))),(wrap64 (x8_1 + 1)),(by first|rfl|(simp;done)|(simp;decide +kernel)|(simp [*];done)),(by first|rfl|(simp;done)|(simp;decide +kernel)|(simp [*];done)),(by first|rfl|(simp;done)|(simp;decide +kernel)|(simp [*];done)),(by first|exact H'|(subst_vars;exact H')),⟨by have:=HK1.out;have:=HJ23.out;omega⟩,⟨by (with_reducible repeat (first|refine blk_drewN ?_ _|refine blk_drew ?_|refine blk_alloc ?_ _));exact BK374.out⟩,⟨by repeat (first|(with_reducible first|exact HB.out|apply below_alloc|apply pw_below_drewN|apply below_drew1|refine below_set ?_ GE374.out)|exact HB.out)⟩⟩
                ·rw [if_neg c41] at H
                 exact absurd H (by simp)
               ·rw [if_neg c40] at H
                exact absurd H (by simp)
              ·rw [if_neg c39] at H
               exact absurd H (by simp)
          ·rw [if_neg c23] at H
           have c23b0 : decide (x8_1 < ((rd_T46 l0 a1).f2)) = false:=decide_eq_false c23
           clear c23
           by_cases c44 : ((rd_T46 l0 a1).f0) = 7
           ·rw [if_pos c44] at H
            have c44b0 : (((rd_T46 l0 a1).f0) == 7) = true:=beq_iff_eq.mpr c44
            have c44b1 : (((rd_T46 l0 a1).f0) != 7) = false:=bne_eq_false_iff_eq.mpr c44
            clear c44
            by_cases c45 : 1 + x6_1.size ≤ 9223372036854775807
            ·rw [if_pos c45] at H
             have c45b0:=eq_true c45
             have c45b1 : decide (1 + x6_1.size ≤ 9223372036854775807) = true:=decide_eq_true c45
             try have c45b2 : (9223372036854775807 < 1 + x6_1.size) = False:=eq_false (Nat.not_lt.2 c45)
             by_cases c46 : 1 + x6_1.size + 1 ≤ 9223372036854775807
             ·rw [if_pos c46] at H
              have c46b0:=eq_true c46
              have c46b1 : decide (1 + x6_1.size + 1 ≤ 9223372036854775807) = true:=decide_eq_true c46
              try have c46b2 : (9223372036854775807 < 1 + x6_1.size + 1) = False:=eq_false (Nat.not_lt.2 c46)
              obtain rfl:=Option.some.inj H
              have hcz47_0 : wr.cell? ⟨gb374,0,none⟩ = some (.int .i64 ((rd_T46 l0 a1).f0)):=(blk_cell BK374.out 0).trans rfl
              have hcz47_1 : wr.cell? ⟨gb374,1,none⟩ = some (.int .i64 ((rd_T46 l0 a1).f1)):=(blk_cell BK374.out 1).trans rfl
              have hcz47_2 : wr.cell? ⟨gb374,2,none⟩ = some (.int .i64 ((rd_T46 l0 a1).f2)):=(blk_cell BK374.out 2).trans rfl
              have hcz47_3 : wr.cell? ⟨gb374,3,none⟩ = some (.string ((rd_T46 l0 a1).f3)):=(blk_cell BK374.out 3).trans rfl
              have hcz47_4 : wr.cell? ⟨gb374,4,none⟩ = some (.string ((rd_T46 l0 a1).f4)):=(blk_cell BK374.out 4).trans rfl
              have hfz47_0:=blk_frozen BK374.out 0
              have hfz47_1:=blk_frozen BK374.out 1
              have hfz47_2:=blk_frozen BK374.out 2
              have hfz47_3:=blk_frozen BK374.out 3
              have hfz47_4:=blk_frozen BK374.out 4
              go_wp2
              go_ret
              exact ⟨by first|rfl|(simp [errW_none,errW_some] <;> rfl)|(simp [*,errW_none,errW_some] <;> rfl),by repeat (first|(with_reducible first|exact HB.out|apply below_alloc|apply pw_below_drewN|apply below_drew1|refine below_set ?_ GE374.out)|exact HB.out)⟩
             ·rw [if_neg c46] at H
              exact absurd H (by simp)
            ·rw [if_neg c45] at H
             exact absurd H (by simp)
           ·rw [if_neg c44] at H
            have c44b0 : (((rd_T46 l0 a1).f0) == 7) = false:=beq_eq_false_iff_ne.mpr c44
            have c44b1 : (((rd_T46 l0 a1).f0) != 7) = true:=bne_iff_ne.mpr c44
            by_cases c48 : 1 + x6_1.size ≤ 9223372036854775807
            ·rw [if_pos c48] at H
             have c48b0:=eq_true c48
             have c48b1 : decide (1 + x6_1.size ≤ 9223372036854775807) = true:=decide_eq_true c48
             try have c48b2 : (9223372036854775807 < 1 + x6_1.size) = False:=eq_false (Nat.not_lt.2 c48)
             by_cases c49 : 1 + x6_1.size + 1 ≤ 9223372036854775807
             ·rw [if_pos c49] at H
              have c49b0:=eq_true c49
              have c49b1 : decide (1 + x6_1.size + 1 ≤ 9223372036854775807) = true:=decide_eq_true c49
              try have c49b2 : (9223372036854775807 < 1 + x6_1.size + 1) = False:=eq_false (Nat.not_lt.2 c49)
              obtain rfl:=Option.some.inj H
              have hcz50_0 : wr.cell? ⟨gb374,0,none⟩ = some (.int .i64 ((rd_T46 l0 a1).f0)):=(blk_cell BK374.out 0).trans rfl
              have hcz50_1 : wr.cell? ⟨gb374,1,none⟩ = some (.int .i64 ((rd_T46 l0 a1).f1)):=(blk_cell BK374.out 1).trans rfl
              have hcz50_2 : wr.cell? ⟨gb374,2,none⟩ = some (.int .i64 ((rd_T46 l0 a1).f2)):=(blk_cell BK374.out 2).trans rfl
              have hcz50_3 : wr.cell? ⟨gb374,3,none⟩ = some (.string ((rd_T46 l0 a1).f3)):=(blk_cell BK374.out 3).trans rfl
              have hcz50_4 : wr.cell? ⟨gb374,4,none⟩ = some (.string ((rd_T46 l0 a1).f4)):=(blk_cell BK374.out 4).trans rfl
              have hfz50_0:=blk_frozen BK374.out 0
              have hfz50_1:=blk_frozen BK374.out 1
              have hfz50_2:=blk_frozen BK374.out 2
              have hfz50_3:=blk_frozen BK374.out 3
              have hfz50_4:=blk_frozen BK374.out 4
              go_wp2
              go_ret
              exact ⟨by first|rfl|(simp [errW_none,errW_some] <;> rfl)|(simp [*,errW_none,errW_some] <;> rfl),by repeat (first|(with_reducible first|exact HB.out|apply below_alloc|apply pw_below_drewN|apply below_drew1|refine below_set ?_ GE374.out)|exact HB.out)⟩
             ·rw [if_neg c49] at H
              exact absurd H (by simp)
            ·rw [if_neg c48] at H
             exact absurd H (by simp)
  ·rw [if_neg c4] at H
   exact absurd H (by simp)
 ·rw [if_neg c3] at H
  exact absurd H (by simp)
end Go.Proofs.YtadfkeipcebmfaaDoor.X
namespace Go.Proofs.YtadfkeipcebmfaaDoor.X
open Go.RowKit Go.Proofs.YtadfkeipcebmfaaDoorW.PrintWords Go.Proofs.YtadfkeipcebmfaaDoorW.PrintLast Go.Proofs.YtadfkeipcebmfaaDoorW.PrintMore
attribute [local go_sem] max2_int min2_int max_two min_two max_three min_three max_four min_four
set_option linter.unusedVariables false
set_option linter.unusedSimpArgs false
def racewayref25_Print.f (k : Nat) (l0 : List (S46)) : Option (ByteArray × Int):=(racewayref25_Check.f k l0).bind fun t382 => (if t382 = 0 then ((racewayref25_written.f k l0 0).bind fun t383 => (some (t383,0))) else (some ((⟨#[]⟩ : ByteArray),t382)))
set_option maxHeartbeats 8000000 in
set_option maxRecDepth 100000 in
theorem racewayref25_Print.calls (k : Nat) (A0 : Option Addr) (c0 : Nat) (l0 : List (S46)) (r1 : ByteArray) (r2 : Int) (w : World) (hr0 : Kd.C k46 w A0 l0.length l0) (hc0 : l0.length ≤ c0) (h : racewayref25_Print.f k l0 = some (r1,r2)) :
  Calls Tryd.prog 22 #[.slice A0 l0.length c0] w fun e w' => e = .returned (.tuple #[.string r1,.int .i64 r2]) ∧ Below w.heap.size w w':=by
 have HR0:=Aside0.mk hr0
 have HC0:=Aside0.mk hc0
 clear hr0 hc0
 have HB:=Aside0.mk (Below.refl w.heap.size w)
 have H : ((racewayref25_Check.f k l0).bind fun t382 => (if t382 = 0 then ((racewayref25_written.f k l0 0).bind fun t383 => (some (t383,0))) else (some ((⟨#[]⟩ : ByteArray),t382)))) = some (r1,r2):=h
 clear h
 replace H:=Option.bind_eq_some_iff.mp H
 obtain ⟨t382,A20,H⟩:=H
 replace H : (if t382 = 0 then ((racewayref25_written.f k l0 0).bind fun t383 => (some (t383,0))) else (some ((⟨#[]⟩ : ByteArray),t382))) = some (r1,r2):=H
 have A2:=Aside0.mk A20
 clear A20
 by_cases c3 : t382 = 0
 ·rw [if_pos c3] at H
  have c3b0 : (t382 == 0) = true:=beq_iff_eq.mpr c3
  have c3b1 : (t382 != 0) = false:=bne_eq_false_iff_eq.mpr c3
  clear c3
  replace H:=Option.bind_eq_some_iff.mp H
  obtain ⟨t383,A40,H⟩:=H
  replace H : (some (t383,0)) = some (r1,r2):=H
  have A4:=Aside0.mk A40
  clear A40
  simp only [Option.some.injEq,Prod.mk.injEq] at H
  obtain ⟨rfl,rfl⟩:=H
  go_enter Tryd.func22,Tryd.ntmps22
  go_wp2_with (first|((with_reducible refine gate_callee (f:=21) rfl ?_);refine goesL_ (some 6) rfl rfl Tryd.func21 (by kernel_rfl) rfl #[.slice A0 l0.length c0] rfl (by (try simp only [List.map_toArray,List.map_cons,List.map_nil]);first|done|rfl|(simp only [List.length_drop,List.length_take];rfl)) ?_;(with_reducible refine (racewayref25_Check.calls k _ _ l0 t382 _ ?side1 ?side2 A2.out).mono ?_);(case side1 => repeat (first|exact HR0.out|(with_reducible refine Kd.C_alloc ?_ _)|(with_reducible refine Kd.C_drewN ?_ _)|(with_reducible refine Kd.C_drew ?_)));(case side2 => exact HC0.out);rintro e w5 ⟨rfl,hb⟩;refine ⟨_,rfl,?_⟩;have n0_:=Aside0.mk (below_step (by repeat (first|(with_reducible first|exact HB.out|apply below_alloc|apply pw_below_drewN|apply below_drew1)|exact HB.out)) hb);clear HB;have HB:=n0_;clear n0_;(try clear hb);(try clear hb2);(try clear hk);(try clear hi))|((with_reducible refine gate_callee (f:=42) rfl ?_);refine goesL_ (some 11) rfl rfl Tryd.func42 (by kernel_rfl) rfl #[.slice A0 l0.length c0,.int .i64 0] rfl (by (try simp only [List.map_toArray,List.map_cons,List.map_nil]);first|done|rfl|(simp only [List.length_drop,List.length_take];rfl)) ?_;(with_reducible refine (racewayref25_written.calls k _ _ l0 0 t383 _ ?side1 ?side2 A4.out).mono ?_);(case side1 => repeat (first|exact (Kd.C_below HR0.out HB.out)|(with_reducible refine Kd.C_alloc ?_ _)|(with_reducible refine Kd.C_drewN ?_ _)|(with_reducible refine Kd.C_drew ?_)));(case side2 => exact HC0.out);rintro e w6 ⟨rfl,hb⟩;refine ⟨_,rfl,?_⟩;have n0_:=Aside0.mk (below_step (by repeat (first|(with_reducible first|exact HB.out|apply below_alloc|apply pw_below_drewN|apply below_drew1)|exact HB.out)) hb);clear HB;have HB:=n0_;clear n0_;(try clear hb);(try clear hb2);(try clear hk);(try clear hi)))
  go_ret2
  exact ⟨by first|rfl|(simp [errW_none,errW_some] <;> rfl)|(simp [*,errW_none,errW_some] <;> rfl),by repeat (first|(with_reducible first|exact HB.out|apply below_alloc|apply pw_below_drewN|apply below_drew1)|exact HB.out)⟩
 ·rw [if_neg c3] at H
  have c3b0 : (t382 == 0) = false:=beq_eq_false_iff_ne.mpr c3
  have c3b1 : (t382 != 0) = true:=bne_iff_ne.mpr c3
  simp only [Option.some.injEq,Prod.mk.injEq] at H
  obtain ⟨rfl,rfl⟩:=H
  go_enter Tryd.func22,Tryd.ntmps22
  go_wp2_with (first|((with_reducible refine gate_callee (f:=21) rfl ?_);refine goesL_ (some 6) rfl rfl Tryd.func21 (by kernel_rfl) rfl #[.slice A0 l0.length c0] rfl (by (try simp only [List.map_toArray,List.map_cons,List.map_nil]);first|done|rfl|(simp only [List.length_drop,List.length_take];rfl)) ?_;(with_reducible refine (racewayref25_Check.calls k _ _ l0 t382 _ ?side1 ?side2 A2.out).mono ?_);(case side1 => repeat (first|exact HR0.out|(with_reducible refine Kd.C_alloc ?_ _)|(with_reducible refine Kd.C_drewN ?_ _)|(with_reducible refine Kd.C_drew ?_)));(case side2 => exact HC0.out);rintro e w7 ⟨rfl,hb⟩;refine ⟨_,rfl,?_⟩;have n0_:=Aside0.mk (below_step (by repeat (first|(with_reducible first|exact HB.out|apply below_alloc|apply pw_below_drewN|apply below_drew1)|exact HB.out)) hb);clear HB;have HB:=n0_;clear n0_;(try clear hb);(try clear hb2);(try clear hk);(try clear hi)))
  go_ret2
  exact ⟨by first|rfl|(simp [errW_none,errW_some] <;> rfl)|(simp [*,errW_none,errW_some] <;> rfl),by repeat (first|(with_reducible first|exact HB.out|apply below_alloc|apply pw_below_drewN|apply below_drew1)|exact HB.out)⟩
end Go.Proofs.YtadfkeipcebmfaaDoor.X
namespace Go.Proofs.YtadfkeipcebmfaaDoor.X
open Go.RowKit Go.Proofs.YtadfkeipcebmfaaDoorW.PrintWords Go.Proofs.YtadfkeipcebmfaaDoorW.PrintLast Go.Proofs.YtadfkeipcebmfaaDoorW.PrintMore
attribute [local go_sem] max2_int min2_int max_two min_two max_three min_three max_four min_four
set_option linter.unusedVariables false
set_option linter.unusedSimpArgs false
def racewayref01_SameNums.l0 : Nat → List Int → List Int → Int → Option (Bool)
 | 0,_,_,_ => none
 | k + 1,x0,x1,x5 => if x5 < (x0.length : Int) then (if 0 ≤ x5 then (if x5 < (x1.length : Int) then (if (rd x0 x5) = (rd x1 x5) then (racewayref01_SameNums.l0 k x0 x1 (wrap64 (x5 + 1))) else (some false)) else (none)) else (none)) else (some true)
def racewayref01_SameNums.f (k : Nat) (l0 : List Int) (l1 : List Int) : Option (Bool):=if (l0.length : Int) = (l1.length : Int) then (racewayref01_SameNums.l0 k l0 l1 0) else (some false)
set_option maxHeartbeats 8000000 in
set_option maxRecDepth 100000 in
theorem racewayref01_SameNums.calls (k : Nat) (A0 : Option Addr) (c0 : Nat) (l0 : List Int) (A1 : Option Addr) (c1 : Nat) (l1 : List Int) (r : Bool) (w : World) (hr0 : Kd.C (Kd.int .i64) w A0 l0.length l0) (hc0 : l0.length ≤ c0) (hr1 : Kd.C (Kd.int .i64) w A1 l1.length l1) (hc1 : l1.length ≤ c1) (h : racewayref01_SameNums.f k l0 l1 = some r) :
  Calls Tryd.prog 23 #[.slice A0 l0.length c0,.slice A1 l1.length c1] w fun e w' => e = .returned (.bool r) ∧ Drawn0 w w':=by
 have HR0:=Aside0.mk hr0
 have HC0:=Aside0.mk hc0
 clear hr0 hc0
 have HR1:=Aside0.mk hr1
 have HC1:=Aside0.mk hc1
 clear hr1 hc1
 have H : (if (l0.length : Int) = (l1.length : Int) then (racewayref01_SameNums.l0 k l0 l1 0) else (some false)) = some r:=h
 clear h
 by_cases c3 : (l0.length : Int) = (l1.length : Int)
 ·rw [if_pos c3] at H
  have c3b0 : ((l0.length : Int) == (l1.length : Int)) = true:=beq_iff_eq.mpr c3
  have c3b1 : ((l0.length : Int) != (l1.length : Int)) = false:=bne_eq_false_iff_eq.mpr c3
  have c3b2 : (l0.length == l1.length) = true:=by first|simpa using c3|(simp at c3 ⊢;omega)
  clear c3
  have H':=Aside0.mk H
  clear H
  go_enter Tryd.func23,Tryd.ntmps23
  go_wp2
  repeat (go_quiet (fail);try go_wp2)
  go_loopg [5] k (fun kq v5 w' => ∃ (x5_1 : Int),v5 = .int .i64 x5_1 ∧ Aside0 (racewayref01_SameNums.l0 kq l0 l1 x5_1 = some r) ∧ Aside0 (kq ≤ k) ∧ Drawn0 w w')
  case atStart => exact ⟨(0),(by first|rfl|(simp;done)|(simp;decide +kernel)|(simp [*];done)),(by first|exact H'|(subst_vars;exact H')),⟨Nat.le_refl _⟩,by repeat (first|exact Drawn0.refl _|apply Drawn0.step)⟩
  case round =>
   clear H'
   try clear c1
   try clear c2
   try clear p2
   try clear c3
   try clear c3b0
   try clear c3b1
   try clear c3b2
   obtain ⟨x5_1,rfl,HA,HK1,⟨m1,rfl⟩⟩:=hrel
   cases gk with
   | zero => exact absurd HA.out (by simp [racewayref01_SameNums.l0])
   | succ k1 =>
    have H:=HA.out
    clear HA
    simp only [racewayref01_SameNums.l0] at H
    by_cases c4 : x5_1 < (l0.length : Int)
    ·rw [if_pos c4] at H
     have c4b0 : decide (x5_1 < (l0.length : Int)) = true:=decide_eq_true c4
     clear c4
     by_cases c5 : 0 ≤ x5_1
     ·rw [if_pos c5] at H
      have c5b0 : decide (0 ≤ x5_1) = true:=decide_eq_true c5
      clear c5
      by_cases c6 : x5_1 < (l1.length : Int)
      ·rw [if_pos c6] at H
       have c6b0 : decide (x5_1 < (l1.length : Int)) = true:=decide_eq_true c6
       clear c6
       by_cases c7 : (rd l0 x5_1) = (rd l1 x5_1)
       ·rw [if_pos c7] at H
        have c7b0 : ((rd l0 x5_1) == (rd l1 x5_1)) = true:=beq_iff_eq.mpr c7
        have c7b1 : ((rd l0 x5_1) != (rd l1 x5_1)) = false:=bne_eq_false_iff_eq.mpr c7
        clear c7
        have H':=Aside0.mk H
        clear H
        have p384 : 0 ≤ (x5_1 : Int):=of_decide_eq_true (by first|(with_reducible assumption)|assumption)
        have q384 : x5_1 < (l0.length : Int):=of_decide_eq_true (by first|(with_reducible assumption)|assumption)
        obtain ⟨ad384,e384,hx384_0⟩:=Kd.at_int HR0.out x5_1 p384 q384
        cases e384
        replace p384:=eq_true p384
        replace q384:=eq_true q384
        have p385 : 0 ≤ (x5_1 : Int):=of_decide_eq_true (by first|(with_reducible assumption)|assumption)
        have q385 : x5_1 < (l1.length : Int):=of_decide_eq_true (by first|(with_reducible assumption)|assumption)
        obtain ⟨ad385,e385,hx385_0⟩:=Kd.at_int HR1.out x5_1 p385 q385
        cases e385
        replace p385:=eq_true p385
        replace q385:=eq_true q385
        go_wp2
        repeat (go_quiet (fail);try go_wp2)
        go_roundg k1
        case measure => have:=HK1.out;omega
        case rel => exact ⟨(wrap64 (x5_1 + 1)),(by first|rfl|(simp;done)|(simp;decide +kernel)|(simp [*];done)),(by first|exact H'|(subst_vars;exact H')),⟨by have:=HK1.out;omega⟩,by repeat (first|exact Drawn0.refl _|apply Drawn0.step)⟩
       ·rw [if_neg c7] at H
        have c7b0 : ((rd l0 x5_1) == (rd l1 x5_1)) = false:=beq_eq_false_iff_ne.mpr c7
        have c7b1 : ((rd l0 x5_1) != (rd l1 x5_1)) = true:=bne_iff_ne.mpr c7
        obtain rfl:=Option.some.inj H
        have p384 : 0 ≤ (x5_1 : Int):=of_decide_eq_true (by first|(with_reducible assumption)|assumption)
        have q384 : x5_1 < (l0.length : Int):=of_decide_eq_true (by first|(with_reducible assumption)|assumption)
        obtain ⟨ad384,e384,hx384_0⟩:=Kd.at_int HR0.out x5_1 p384 q384
        cases e384
        replace p384:=eq_true p384
        replace q384:=eq_true q384
        have p385 : 0 ≤ (x5_1 : Int):=of_decide_eq_true (by first|(with_reducible assumption)|assumption)
        have q385 : x5_1 < (l1.length : Int):=of_decide_eq_true (by first|(with_reducible assumption)|assumption)
        obtain ⟨ad385,e385,hx385_0⟩:=Kd.at_int HR1.out x5_1 p385 q385
        cases e385
        replace p385:=eq_true p385
        replace q385:=eq_true q385
        go_wp2
        repeat (go_quiet (fail);try go_wp2)
        go_ret
        exact ⟨by first|rfl|(simp;done)|(simp;decide +kernel)|(simp [*];done),by repeat (first|exact Drawn0.refl _|apply Drawn0.step)⟩
      ·rw [if_neg c6] at H
       exact absurd H (by simp)
     ·rw [if_neg c5] at H
      exact absurd H (by simp)
    ·rw [if_neg c4] at H
     have c4b0 : decide (x5_1 < (l0.length : Int)) = false:=decide_eq_false c4
     clear c4
     obtain rfl:=Option.some.inj H
     go_wp2
     repeat (go_quiet (fail);try go_wp2)
     go_ret
     exact ⟨by first|rfl|(simp;done)|(simp;decide +kernel)|(simp [*];done),by repeat (first|exact Drawn0.refl _|apply Drawn0.step)⟩
 ·rw [if_neg c3] at H
  have c3b0 : ((l0.length : Int) == (l1.length : Int)) = false:=beq_eq_false_iff_ne.mpr c3
  have c3b1 : ((l0.length : Int) != (l1.length : Int)) = true:=bne_iff_ne.mpr c3
  have c3b2 : (l0.length == l1.length) = false:=by first|simpa using c3|(simp at c3 ⊢;omega)
  obtain rfl:=Option.some.inj H
  go_enter Tryd.func23,Tryd.ntmps23
  go_wp2
  repeat (go_quiet (fail);try go_wp2)
  go_ret
  exact ⟨by first|rfl|(simp;done)|(simp;decide +kernel)|(simp [*];done),by repeat (first|exact Drawn0.refl _|apply Drawn0.step)⟩
end Go.Proofs.YtadfkeipcebmfaaDoor.X
namespace Go.Proofs.YtadfkeipcebmfaaDoor.X
open Go.RowKit Go.Proofs.YtadfkeipcebmfaaDoorW.PrintWords Go.Proofs.YtadfkeipcebmfaaDoorW.PrintLast Go.Proofs.YtadfkeipcebmfaaDoorW.PrintMore
attribute [local go_sem] max2_int min2_int max_two min_two max_three min_three max_four min_four
set_option linter.unusedVariables false
set_option linter.unusedSimpArgs false
mutual
def jsontext_Kids.j0 : Nat → List (S46) → Int → Bool → Option (List Int)
 | 0,_,_,_ => none
 | k + 1,x0,x1,x19 => if x19 = true then (some ([] : List Int)) else (if 0 ≤ x1 then (if x1 < (x0.length : Int) then (jsontext_Kids.l0 k x0 ([] : List Int) (wrap64 (x1 + 1)) ((rd_T46 x0 x1).f2) 0) else (none)) else (none))
def jsontext_Kids.l0 : Nat → List (S46) → List Int → Int → Int → Int → Option (List Int)
 | 0,_,_,_,_,_ => none
 | k + 1,x0,x5,x6,x26,x27 => if x27 < x26 then (if x5.length < 17592186044416 then (if 0 ≤ x6 then (if x6 < (x0.length : Int) then (jsontext_Kids.l0 k x0 (x5 ++ [x6]) (wrap64 (x6 + ((rd_T46 x0 x6).f1))) x26 (wrap64 (x27 + 1))) else (none)) else (none)) else (none)) else (some x5)
end
def jsontext_Kids.f (k : Nat) (l0 : List (S46)) (a1 : Int) : Option (List Int):=(jsontext_Check.f k l0).bind fun t386 => (if t386 = 0 then (if a1 < 0 then (jsontext_Kids.j0 k l0 a1 true) else (jsontext_Kids.j0 k l0 a1 (decide (a1 ≥ (l0.length : Int))))) else (jsontext_Kids.j0 k l0 a1 true))
set_option maxHeartbeats 8000000 in
set_option maxRecDepth 100000 in
theorem jsontext_Kids.calls (k : Nat) (A0 : Option Addr) (c0 : Nat) (l0 : List (S46)) (a1 : Int) (r : List Int) (w : World) (hGU8 : GlobU8 w) (hr0 : Kd.C k46 w A0 l0.length l0) (hc0 : l0.length ≤ c0) (h : jsontext_Kids.f k l0 a1 = some r) :
  Calls Tryd.prog 24 #[.slice A0 l0.length c0,.int .i64 a1] w fun e w' => ∃ v0_ : Value,e = .returned (v0_) ∧ Kd.R (Kd.int .i64) 3 w' w.heap.size (fun _ => True) v0_ r ∧ Below w.heap.size w w':=by
 have HGU8:=Aside0.mk hGU8
 clear hGU8
 have HR0:=Aside0.mk hr0
 have HC0:=Aside0.mk hc0
 clear hr0 hc0
 have HB:=Aside0.mk (Below.refl w.heap.size w)
 have H : ((jsontext_Check.f k l0).bind fun t386 => (if t386 = 0 then (if a1 < 0 then (jsontext_Kids.j0 k l0 a1 true) else (jsontext_Kids.j0 k l0 a1 (decide (a1 ≥ (l0.length : Int))))) else (jsontext_Kids.j0 k l0 a1 true))) = some r:=h
 clear h
 have HC3:=Aside0.mk H
 clear H
 go_enter Tryd.func24,Tryd.ntmps24
 go_upto_region 1 with (fail)
 go_cut [19] (fun v19 wc => ∃ (kq : Nat) (x19_2 : Bool),v19 = .bool x19_2 ∧ Aside0 (jsontext_Kids.j0 kq l0 a1 x19_2 = some r) ∧ Aside0 (kq ≤ k) ∧ Aside0 (Below w.heap.size w wc))
 case first =>
  have H:=HC3.out
  clear HC3
  replace H:=Option.bind_eq_some_iff.mp H
  obtain ⟨t386,A40,H⟩:=H
  replace H : (if t386 = 0 then (if a1 < 0 then (jsontext_Kids.j0 k l0 a1 true) else (jsontext_Kids.j0 k l0 a1 (decide (a1 ≥ (l0.length : Int))))) else (jsontext_Kids.j0 k l0 a1 true)) = some r:=H
  have A4:=Aside0.mk A40
  clear A40
  by_cases c5 : t386 = 0
  ·rw [if_pos c5] at H
   have c5b0 : (t386 == 0) = true:=beq_iff_eq.mpr c5
   have c5b1 : (t386 != 0) = false:=bne_eq_false_iff_eq.mpr c5
   clear c5
   (first|rw [c5b0]|(simp only [i64_w,i32_w];rw [c5b0])|skip)
   by_cases c6 : a1 < 0
   ·rw [if_pos c6] at H
    have c6b0 : decide (a1 < 0) = true:=decide_eq_true c6
    clear c6
    have H':=Aside0.mk H
    clear H
    go_wp2_with (first|((with_reducible refine gate_callee (f:=16) rfl ?_);refine goesL_ (some 8) rfl rfl Tryd.func16 (by kernel_rfl) rfl #[.slice A0 l0.length c0] rfl (by (try simp only [List.map_toArray,List.map_cons,List.map_nil]);first|done|rfl|(simp only [List.length_drop,List.length_take];rfl)) ?_;(with_reducible refine (jsontext_Check.calls k _ _ l0 t386 _ ?side3 ?side1 ?side2 A4.out).mono ?_);(case side1 => repeat (first|exact (Kd.C_below HR0.out HB.out)|(with_reducible refine Kd.C_alloc ?_ _)|(with_reducible refine Kd.C_drewN ?_ _)|(with_reducible refine Kd.C_drew ?_)));(case side2 => exact HC0.out);(case side3 => first|exact HGU8.out|exact GlobU8.below HGU8.out (by repeat (first|(with_reducible first|exact HB.out|apply below_alloc|apply pw_below_drewN|apply below_drew1)|exact HB.out))|exact GlobU8.drawn HGU8.out (by repeat (first|exact Drawn0.refl _|apply Drawn0.step)));rintro e w7 ⟨rfl,hb⟩;refine ⟨_,rfl,?_⟩;have n0_:=Aside0.mk (below_step (by repeat (first|(with_reducible first|exact HB.out|apply below_alloc|apply pw_below_drewN|apply below_drew1)|exact HB.out)) hb);clear HB;have HB:=n0_;clear n0_;(try clear hb);(try clear hb2);(try clear hk);(try clear hi)))
    go_meet
    case rel => exact ⟨_,(true),(by first|rfl|(simp;done)|(simp;decide +kernel)|(simp [*];done)),(by first|exact H'|(subst_vars;exact H')),⟨by first|omega|exact Nat.le_refl _⟩,⟨by repeat (first|(with_reducible first|exact HB.out|apply below_alloc|apply pw_below_drewN|apply below_drew1)|exact HB.out)⟩⟩
   ·rw [if_neg c6] at H
    have c6b0 : decide (a1 < 0) = false:=decide_eq_false c6
    clear c6
    have H':=Aside0.mk H
    clear H
    go_wp2_with (first|((with_reducible refine gate_callee (f:=16) rfl ?_);refine goesL_ (some 8) rfl rfl Tryd.func16 (by kernel_rfl) rfl #[.slice A0 l0.length c0] rfl (by (try simp only [List.map_toArray,List.map_cons,List.map_nil]);first|done|rfl|(simp only [List.length_drop,List.length_take];rfl)) ?_;(with_reducible refine (jsontext_Check.calls k _ _ l0 t386 _ ?side3 ?side1 ?side2 A4.out).mono ?_);(case side1 => repeat (first|exact (Kd.C_below HR0.out HB.out)|(with_reducible refine Kd.C_alloc ?_ _)|(with_reducible refine Kd.C_drewN ?_ _)|(with_reducible refine Kd.C_drew ?_)));(case side2 => exact HC0.out);(case side3 => first|exact HGU8.out|exact GlobU8.below HGU8.out (by repeat (first|(with_reducible first|exact HB.out|apply below_alloc|apply pw_below_drewN|apply below_drew1)|exact HB.out))|exact GlobU8.drawn HGU8.out (by repeat (first|exact Drawn0.refl _|apply Drawn0.step)));rintro e w8 ⟨rfl,hb⟩;refine ⟨_,rfl,?_⟩;have n0_:=Aside0.mk (below_step (by repeat (first|(with_reducible first|exact HB.out|apply below_alloc|apply pw_below_drewN|apply below_drew1)|exact HB.out)) hb);clear HB;have HB:=n0_;clear n0_;(try clear hb);(try clear hb2);(try clear hk);(try clear hi)))
    go_meet
    case rel => exact ⟨_,(decide (a1 ≥ (l0.length : Int))),(by first|rfl|(simp;done)|(simp;decide +kernel)|(simp [*];done)),(by first|exact H'|(subst_vars;exact H')),⟨by first|omega|exact Nat.le_refl _⟩,⟨by repeat (first|(with_reducible first|exact HB.out|apply below_alloc|apply pw_below_drewN|apply below_drew1)|exact HB.out)⟩⟩
  ·rw [if_neg c5] at H
   have c5b0 : (t386 == 0) = false:=beq_eq_false_iff_ne.mpr c5
   have c5b1 : (t386 != 0) = true:=bne_iff_ne.mpr c5
   (first|rw [c5b0]|(simp only [i64_w,i32_w];rw [c5b0])|skip)
   have H':=Aside0.mk H
   clear H
   go_wp2_with (first|((with_reducible refine gate_callee (f:=16) rfl ?_);refine goesL_ (some 8) rfl rfl Tryd.func16 (by kernel_rfl) rfl #[.slice A0 l0.length c0] rfl (by (try simp only [List.map_toArray,List.map_cons,List.map_nil]);first|done|rfl|(simp only [List.length_drop,List.length_take];rfl)) ?_;(with_reducible refine (jsontext_Check.calls k _ _ l0 t386 _ ?side3 ?side1 ?side2 A4.out).mono ?_);(case side1 => repeat (first|exact (Kd.C_below HR0.out HB.out)|(with_reducible refine Kd.C_alloc ?_ _)|(with_reducible refine Kd.C_drewN ?_ _)|(with_reducible refine Kd.C_drew ?_)));(case side2 => exact HC0.out);(case side3 => first|exact HGU8.out|exact GlobU8.below HGU8.out (by repeat (first|(with_reducible first|exact HB.out|apply below_alloc|apply pw_below_drewN|apply below_drew1)|exact HB.out))|exact GlobU8.drawn HGU8.out (by repeat (first|exact Drawn0.refl _|apply Drawn0.step)));rintro e w9 ⟨rfl,hb⟩;refine ⟨_,rfl,?_⟩;have n0_:=Aside0.mk (below_step (by repeat (first|(with_reducible first|exact HB.out|apply below_alloc|apply pw_below_drewN|apply below_drew1)|exact HB.out)) hb);clear HB;have HB:=n0_;clear n0_;(try clear hb);(try clear hb2);(try clear hk);(try clear hi)))
   go_meet
   case rel => exact ⟨_,(true),(by first|rfl|(simp;done)|(simp;decide +kernel)|(simp [*];done)),(by first|exact H'|(subst_vars;exact H')),⟨by first|omega|exact Nat.le_refl _⟩,⟨by repeat (first|(with_reducible first|exact HB.out|apply below_alloc|apply pw_below_drewN|apply below_drew1)|exact HB.out)⟩⟩
 case rest =>
  clear HC3
  try clear c1
  try clear c2
  try clear p2
  try clear c5
  try clear c5b0
  try clear c5b1
  try clear c6
  try clear c6b0
  obtain ⟨kq,x19_2,rfl,HA,HJ2,HB⟩:=hcut
  cases kq with
  | zero => exact absurd HA.out (by simp [jsontext_Kids.j0])
  | succ kj2 =>
   have H:=HA.out
   clear HA
   simp only [jsontext_Kids.j0] at H
   by_cases c10 : x19_2 = true
   ·subst c10
    have H1 : (some ([] : List Int)) = some r:=by rw [if_pos rfl] at H;exact H
    clear H
    have H:=H1
    clear H1
    obtain rfl:=Option.some.inj H
    go_wp2
    go_ret
    exact ⟨_,by first|rfl|(simp [errW_none,errW_some] <;> rfl)|(simp [*,errW_none,errW_some] <;> rfl),by first|exact Kd.R_nil _ _ _ _ _|exact Kd.N_nil _ _ _ _ _|exact Kd.V_nil _ _ _ _ _|exact Kd.Q_nil _ _ _ _ _|exact Kd.S_nil _ _ _ _ _,by repeat (first|(with_reducible first|exact HB.out|apply below_alloc|apply pw_below_drewN|apply below_drew1)|exact HB.out)⟩
   ·replace c10:=Bool.eq_false_iff.mpr c10
    subst c10
    have H1 : (if 0 ≤ a1 then (if a1 < (l0.length : Int) then (jsontext_Kids.l0 kj2 l0 ([] : List Int) (wrap64 (a1 + 1)) ((rd_T46 l0 a1).f2) 0) else (none)) else (none)) = some r:=by rw [if_neg (show ¬ (false = true) by decide)] at H;exact H
    clear H
    have H:=H1
    clear H1
    by_cases c11 : 0 ≤ a1
    ·rw [if_pos c11] at H
     have c11b0 : decide (0 ≤ a1) = true:=decide_eq_true c11
     clear c11
     by_cases c12 : a1 < (l0.length : Int)
     ·rw [if_pos c12] at H
      have c12b0 : decide (a1 < (l0.length : Int)) = true:=decide_eq_true c12
      clear c12
      have H':=Aside0.mk H
      clear H
      have p387 : 0 ≤ (a1 : Int):=of_decide_eq_true (by first|(with_reducible assumption)|assumption)
      have q387 : a1 < (l0.length : Int):=of_decide_eq_true (by first|(with_reducible assumption)|assumption)
      obtain ⟨ad387,e387,hx387_0,hx387_1,hx387_2,hx387_3,hx387_4⟩:=at_T46 HR0.out a1 p387 q387
      cases e387
      replace hx387_0:=(HB.out.cell (World.block_lt_of_cell? w _ hx387_0)).trans hx387_0
      replace hx387_1:=(HB.out.cell (World.block_lt_of_cell? w _ hx387_1)).trans hx387_1
      replace hx387_2:=(HB.out.cell (World.block_lt_of_cell? w _ hx387_2)).trans hx387_2
      replace hx387_3:=(HB.out.cell (World.block_lt_of_cell? w _ hx387_3)).trans hx387_3
      replace hx387_4:=(HB.out.cell (World.block_lt_of_cell? w _ hx387_4)).trans hx387_4
      replace p387:=eq_true p387
      replace q387:=eq_true q387
      go_wp2
      go_loopg [5,6,27] kj2 (fun kq v5 v6 v27 w' => ∃ (x5_2 : List Int) (x6_2 : Int) (x27_2 : Int),v6 = .int .i64 x6_2 ∧ v27 = .int .i64 x27_2 ∧ Aside0 (jsontext_Kids.l0 kq l0 x5_2 x6_2 ((rd_T46 l0 a1).f2) x27_2 = some r) ∧ Aside0 (kq ≤ kj2) ∧ Aside0 (Kd.R (Kd.int .i64) 3 w' w.heap.size (fun _ => True) v5 x5_2) ∧ Aside0 (Below w.heap.size w w'))
      case atStart => exact ⟨(([] : List Int)),(wrap64 (a1 + 1)),(0),(by first|rfl|(simp;done)|(simp;decide +kernel)|(simp [*];done)),(by first|rfl|(simp;done)|(simp;decide +kernel)|(simp [*];done)),(by first|exact H'|(subst_vars;exact H')),⟨Nat.le_refl _⟩,⟨by first|exact Kd.R_nil _ _ _ _ _|exact Kd.N_nil _ _ _ _ _|exact Kd.V_nil _ _ _ _ _|exact Kd.Q_nil _ _ _ _ _|exact Kd.S_nil _ _ _ _ _⟩,⟨by repeat (first|(with_reducible first|exact HB.out|apply below_alloc|apply pw_below_drewN|apply below_drew1)|exact HB.out)⟩⟩
      case round =>
       clear H'
       try clear c1
       try clear c2
       try clear p2
       try clear p3
       try clear q3
       try clear hx3
       try clear c5
       try clear c5b0
       try clear c5b1
       try clear c6
       try clear c6b0
       try clear p6
       try clear c10
       try clear c11
       try clear c11b0
       try clear c12
       try clear c12b0
       try clear hx387_0
       try clear hx387_1
       try clear hx387_2
       try clear hx387_3
       try clear hx387_4
       try clear p2
       try clear p387
       try clear q387
       obtain ⟨x5_2,x6_2,x27_2,rfl,rfl,HA,HK2,HO_5,HB⟩:=hrel
       cases gk with
       | zero => exact absurd HA.out (by simp [jsontext_Kids.l0])
       | succ k2 =>
        have H:=HA.out
        clear HA
        simp only [jsontext_Kids.l0] at H
        by_cases c13 : x27_2 < ((rd_T46 l0 a1).f2)
        ·rw [if_pos c13] at H
         have c13b0 : decide (x27_2 < ((rd_T46 l0 a1).f2)) = true:=decide_eq_true c13
         clear c13
         by_cases c14 : x5_2.length < 17592186044416
         ·rw [if_pos c14] at H
          have LMc14:=Aside0.mk c14
          clear c14
          obtain ⟨y388,hy388⟩ : ∃ y_ : List Int,y_ = (x5_2 ++ [x6_2]):=⟨_,rfl⟩
          replace H : (if 0 ≤ x6_2 then (if x6_2 < (l0.length : Int) then (jsontext_Kids.l0 k2 l0 y388 (wrap64 (x6_2 + ((rd_T46 l0 x6_2).f1))) ((rd_T46 l0 a1).f2) (wrap64 (x27_2 + 1))) else (none)) else (none)) = some r:=by first|(rw [hy388];with_reducible exact H)|(have H2_:=(Option.bind_some _ _).symm.trans H;rw [hy388];with_reducible exact H2_)|(have H2_:=(Option.bind_some _ _).symm.trans H;with_reducible exact H2_)|with_reducible exact H|(rw [hy388];exact H)|exact H
          have Ny388:=Aside0.mk hy388
          clear hy388
          by_cases c15 : 0 ≤ x6_2
          ·rw [if_pos c15] at H
           have c15b0 : decide (0 ≤ x6_2) = true:=decide_eq_true c15
           clear c15
           by_cases c16 : x6_2 < (l0.length : Int)
           ·rw [if_pos c16] at H
            have c16b0 : decide (x6_2 < (l0.length : Int)) = true:=decide_eq_true c16
            clear c16
            have H':=Aside0.mk H
            clear H
            go_wp2_with (first|((with_reducible refine gate_builtin (b:=.append) (xs:=#[.tmp 29,.tmp 31]) rfl ?_);(try (refine gate_guard (by rfl) ?_;dsimp only));at_builtin;refine Kd.R_append (Kd.int .i64) (w0:=w) w.heap.size rfl (.tmp 29) (.tmp 31) 52 3 (.int .i64 0) 8 rfl Tryd.underlying52 info3 rfl (by decide) (by omega) u5 x5_2 x6_2 [.int .i64 x6_2] (fun _ => True) (fun _ => False) rfl rfl ?aP (fun _ hk => hk.elim) ?aF ?aO ?aB ?aS ?aL ?_;(case aP => exact rfl);(case aB => exact (by repeat (first|(with_reducible first|exact HB.out|apply below_alloc|apply pw_below_drewN|apply below_drew1)|exact HB.out)));(case aF => exact (fun _ _ => trivial));(case aO => exact (by (with_reducible repeat (first|apply Kd.R_alloc|apply Kd.R_drewN|apply Kd.R_drew));exact HO_5.out));(case aS => exact (below_size (by repeat (first|(with_reducible first|exact HB.out|apply below_alloc|apply pw_below_drewN|apply below_drew1)|exact HB.out))));(case aL => have:=LMc14.out;omega);intro v389 w17 ho hb hg hat;rw [← Ny388.out] at ho;have n0_:=Aside0.mk (hb);have n1_:=Aside0.mk (ho);clear HB;clear HO_5;have HB:=n0_;have HO390:=n1_;clear n0_ n1_;clear ho hb hg hat;have p391 : 0 ≤ (x6_2 : Int):=of_decide_eq_true (by first|(with_reducible assumption)|assumption);have q391 : x6_2 < (l0.length : Int):=of_decide_eq_true (by first|(with_reducible assumption)|assumption);obtain ⟨ad391,e391,hx391_0,hx391_1,hx391_2,hx391_3,hx391_4⟩:=at_T46 HR0.out x6_2 p391 q391;obtain rfl : ad387 = ad391:=(by injection e391);replace hx391_0:=(HB.out.cell (World.block_lt_of_cell? w _ hx391_0)).trans hx391_0;replace hx391_1:=(HB.out.cell (World.block_lt_of_cell? w _ hx391_1)).trans hx391_1;replace hx391_2:=(HB.out.cell (World.block_lt_of_cell? w _ hx391_2)).trans hx391_2;replace hx391_3:=(HB.out.cell (World.block_lt_of_cell? w _ hx391_3)).trans hx391_3;replace hx391_4:=(HB.out.cell (World.block_lt_of_cell? w _ hx391_4)).trans hx391_4;replace p391:=eq_true p391;replace q391:=eq_true q391))
            go_roundg k2
            case measure => have:=HJ2.out;have:=HK2.out;omega
            case rel => exact ⟨(y388),(wrap64 (x6_2 + ((rd_T46 l0 x6_2).f1))),(wrap64 (x27_2 + 1)),(by first|rfl|(simp;done)|(simp;decide +kernel)|(simp [*];done)),(by first|rfl|(simp;done)|(simp;decide +kernel)|(simp [*];done)),(by first|exact H'|(subst_vars;exact H')),⟨by have:=HJ2.out;have:=HK2.out;omega⟩,⟨by (with_reducible repeat (first|apply Kd.R_alloc|apply Kd.R_drewN|apply Kd.R_drew));exact HO390.out⟩,⟨by repeat (first|(with_reducible first|exact HB.out|apply below_alloc|apply pw_below_drewN|apply below_drew1)|exact HB.out)⟩⟩
           ·rw [if_neg c16] at H
            exact absurd H (by simp)
          ·rw [if_neg c15] at H
           exact absurd H (by simp)
         ·rw [if_neg c14] at H
          exact absurd H (by simp)
        ·rw [if_neg c13] at H
         have c13b0 : decide (x27_2 < ((rd_T46 l0 a1).f2)) = false:=decide_eq_false c13
         clear c13
         obtain rfl:=Option.some.inj H
         go_wp2
         go_ret
         exact ⟨_,by first|rfl|(simp [errW_none,errW_some] <;> rfl)|(simp [*,errW_none,errW_some] <;> rfl),by (with_reducible repeat (first|apply Kd.R_alloc|apply Kd.R_drewN|apply Kd.R_drew));exact HO_5.out,by repeat (first|(with_reducible first|exact HB.out|apply below_alloc|apply pw_below_drewN|apply below_drew1)|exact HB.out)⟩
     ·rw [if_neg c12] at H
      exact absurd H (by simp)
    ·rw [if_neg c11] at H
     exact absurd H (by simp)
end Go.Proofs.YtadfkeipcebmfaaDoor.X
namespace Go.Proofs.YtadfkeipcebmfaaDoor.X
open Go.RowKit Go.Proofs.YtadfkeipcebmfaaDoorW.PrintWords Go.Proofs.YtadfkeipcebmfaaDoorW.PrintLast Go.Proofs.YtadfkeipcebmfaaDoorW.PrintMore
attribute [local go_sem] max2_int min2_int max_two min_two max_three min_three max_four min_four
set_option linter.unusedVariables false
set_option linter.unusedSimpArgs false
mutual
def racewayref25_Kids.j0 : Nat → List (S46) → Int → Bool → Option (List Int)
 | 0,_,_,_ => none
 | k + 1,x0,x1,x20 => if x20 = true then (some ([] : List Int)) else (racewayref25_Kids.l0 k x0 x1 ([] : List Int) (wrap64 (x1 + 1)) 0)
def racewayref25_Kids.l0 : Nat → List (S46) → Int → List Int → Int → Int → Option (List Int)
 | 0,_,_,_,_,_ => none
 | k + 1,x0,x1,x5,x6,x7 => if 0 ≤ x1 then (if x1 < (x0.length : Int) then (if x7 < ((rd_T46 x0 x1).f2) then (if x5.length < 17592186044416 then (if 0 ≤ x6 then (if x6 < (x0.length : Int) then (racewayref25_Kids.l0 k x0 x1 (x5 ++ [x6]) (wrap64 (x6 + ((rd_T46 x0 x6).f1))) (wrap64 (x7 + 1))) else (none)) else (none)) else (none)) else (some x5)) else (none)) else (none)
end
def racewayref25_Kids.f (k : Nat) (l0 : List (S46)) (a1 : Int) : Option (List Int):=(racewayref25_Check.f k l0).bind fun t392 => (if t392 = 0 then (if a1 < 0 then (racewayref25_Kids.j0 k l0 a1 true) else (racewayref25_Kids.j0 k l0 a1 (decide (a1 ≥ (l0.length : Int))))) else (racewayref25_Kids.j0 k l0 a1 true))
set_option maxHeartbeats 8000000 in
set_option maxRecDepth 100000 in
theorem racewayref25_Kids.calls (k : Nat) (A0 : Option Addr) (c0 : Nat) (l0 : List (S46)) (a1 : Int) (r : List Int) (w : World) (hr0 : Kd.C k46 w A0 l0.length l0) (hc0 : l0.length ≤ c0) (h : racewayref25_Kids.f k l0 a1 = some r) :
  Calls Tryd.prog 25 #[.slice A0 l0.length c0,.int .i64 a1] w fun e w' => ∃ v0_ : Value,e = .returned (v0_) ∧ Kd.R (Kd.int .i64) 3 w' w.heap.size (fun _ => True) v0_ r ∧ Below w.heap.size w w':=by
 have HR0:=Aside0.mk hr0
 have HC0:=Aside0.mk hc0
 clear hr0 hc0
 have HB:=Aside0.mk (Below.refl w.heap.size w)
 have H : ((racewayref25_Check.f k l0).bind fun t392 => (if t392 = 0 then (if a1 < 0 then (racewayref25_Kids.j0 k l0 a1 true) else (racewayref25_Kids.j0 k l0 a1 (decide (a1 ≥ (l0.length : Int))))) else (racewayref25_Kids.j0 k l0 a1 true))) = some r:=h
 clear h
 have HC3:=Aside0.mk H
 clear H
 go_enter Tryd.func25,Tryd.ntmps25
 go_upto_region 1 with (fail)
 go_cut [20] (fun v20 wc => ∃ (kq : Nat) (x20_2 : Bool),v20 = .bool x20_2 ∧ Aside0 (racewayref25_Kids.j0 kq l0 a1 x20_2 = some r) ∧ Aside0 (kq ≤ k) ∧ Aside0 (Below w.heap.size w wc))
 case first =>
  have H:=HC3.out
  clear HC3
  replace H:=Option.bind_eq_some_iff.mp H
  obtain ⟨t392,A40,H⟩:=H
  replace H : (if t392 = 0 then (if a1 < 0 then (racewayref25_Kids.j0 k l0 a1 true) else (racewayref25_Kids.j0 k l0 a1 (decide (a1 ≥ (l0.length : Int))))) else (racewayref25_Kids.j0 k l0 a1 true)) = some r:=H
  have A4:=Aside0.mk A40
  clear A40
  by_cases c5 : t392 = 0
  ·rw [if_pos c5] at H
   have c5b0 : (t392 == 0) = true:=beq_iff_eq.mpr c5
   have c5b1 : (t392 != 0) = false:=bne_eq_false_iff_eq.mpr c5
   clear c5
   (first|rw [c5b0]|(simp only [i64_w,i32_w];rw [c5b0])|skip)
   by_cases c6 : a1 < 0
   ·rw [if_pos c6] at H
    have c6b0 : decide (a1 < 0) = true:=decide_eq_true c6
    clear c6
    have H':=Aside0.mk H
    clear H
    go_wp2_with (first|((with_reducible refine gate_callee (f:=21) rfl ?_);refine goesL_ (some 9) rfl rfl Tryd.func21 (by kernel_rfl) rfl #[.slice A0 l0.length c0] rfl (by (try simp only [List.map_toArray,List.map_cons,List.map_nil]);first|done|rfl|(simp only [List.length_drop,List.length_take];rfl)) ?_;(with_reducible refine (racewayref25_Check.calls k _ _ l0 t392 _ ?side1 ?side2 A4.out).mono ?_);(case side1 => repeat (first|exact (Kd.C_below HR0.out HB.out)|(with_reducible refine Kd.C_alloc ?_ _)|(with_reducible refine Kd.C_drewN ?_ _)|(with_reducible refine Kd.C_drew ?_)));(case side2 => exact HC0.out);rintro e w7 ⟨rfl,hb⟩;refine ⟨_,rfl,?_⟩;have n0_:=Aside0.mk (below_step (by repeat (first|(with_reducible first|exact HB.out|apply below_alloc|apply pw_below_drewN|apply below_drew1)|exact HB.out)) hb);clear HB;have HB:=n0_;clear n0_;(try clear hb);(try clear hb2);(try clear hk);(try clear hi)))
    go_meet
    case rel => exact ⟨_,(true),(by first|rfl|(simp;done)|(simp;decide +kernel)|(simp [*];done)),(by first|exact H'|(subst_vars;exact H')),⟨by first|omega|exact Nat.le_refl _⟩,⟨by repeat (first|(with_reducible first|exact HB.out|apply below_alloc|apply pw_below_drewN|apply below_drew1)|exact HB.out)⟩⟩
   ·rw [if_neg c6] at H
    have c6b0 : decide (a1 < 0) = false:=decide_eq_false c6
    clear c6
    have H':=Aside0.mk H
    clear H
    go_wp2_with (first|((with_reducible refine gate_callee (f:=21) rfl ?_);refine goesL_ (some 9) rfl rfl Tryd.func21 (by kernel_rfl) rfl #[.slice A0 l0.length c0] rfl (by (try simp only [List.map_toArray,List.map_cons,List.map_nil]);first|done|rfl|(simp only [List.length_drop,List.length_take];rfl)) ?_;(with_reducible refine (racewayref25_Check.calls k _ _ l0 t392 _ ?side1 ?side2 A4.out).mono ?_);(case side1 => repeat (first|exact (Kd.C_below HR0.out HB.out)|(with_reducible refine Kd.C_alloc ?_ _)|(with_reducible refine Kd.C_drewN ?_ _)|(with_reducible refine Kd.C_drew ?_)));(case side2 => exact HC0.out);rintro e w8 ⟨rfl,hb⟩;refine ⟨_,rfl,?_⟩;have n0_:=Aside0.mk (below_step (by repeat (first|(with_reducible first|exact HB.out|apply below_alloc|apply pw_below_drewN|apply below_drew1)|exact HB.out)) hb);clear HB;have HB:=n0_;clear n0_;(try clear hb);(try clear hb2);(try clear hk);(try clear hi)))
    go_meet
    case rel => exact ⟨_,(decide (a1 ≥ (l0.length : Int))),(by first|rfl|(simp;done)|(simp;decide +kernel)|(simp [*];done)),(by first|exact H'|(subst_vars;exact H')),⟨by first|omega|exact Nat.le_refl _⟩,⟨by repeat (first|(with_reducible first|exact HB.out|apply below_alloc|apply pw_below_drewN|apply below_drew1)|exact HB.out)⟩⟩
  ·rw [if_neg c5] at H
   have c5b0 : (t392 == 0) = false:=beq_eq_false_iff_ne.mpr c5
   have c5b1 : (t392 != 0) = true:=bne_iff_ne.mpr c5
   (first|rw [c5b0]|(simp only [i64_w,i32_w];rw [c5b0])|skip)
   have H':=Aside0.mk H
   clear H
   go_wp2_with (first|((with_reducible refine gate_callee (f:=21) rfl ?_);refine goesL_ (some 9) rfl rfl Tryd.func21 (by kernel_rfl) rfl #[.slice A0 l0.length c0] rfl (by (try simp only [List.map_toArray,List.map_cons,List.map_nil]);first|done|rfl|(simp only [List.length_drop,List.length_take];rfl)) ?_;(with_reducible refine (racewayref25_Check.calls k _ _ l0 t392 _ ?side1 ?side2 A4.out).mono ?_);(case side1 => repeat (first|exact (Kd.C_below HR0.out HB.out)|(with_reducible refine Kd.C_alloc ?_ _)|(with_reducible refine Kd.C_drewN ?_ _)|(with_reducible refine Kd.C_drew ?_)));(case side2 => exact HC0.out);rintro e w9 ⟨rfl,hb⟩;refine ⟨_,rfl,?_⟩;have n0_:=Aside0.mk (below_step (by repeat (first|(with_reducible first|exact HB.out|apply below_alloc|apply pw_below_drewN|apply below_drew1)|exact HB.out)) hb);clear HB;have HB:=n0_;clear n0_;(try clear hb);(try clear hb2);(try clear hk);(try clear hi)))
   go_meet
   case rel => exact ⟨_,(true),(by first|rfl|(simp;done)|(simp;decide +kernel)|(simp [*];done)),(by first|exact H'|(subst_vars;exact H')),⟨by first|omega|exact Nat.le_refl _⟩,⟨by repeat (first|(with_reducible first|exact HB.out|apply below_alloc|apply pw_below_drewN|apply below_drew1)|exact HB.out)⟩⟩
 case rest =>
  clear HC3
  try clear c2
  try clear p2
  try clear c5
  try clear c5b0
  try clear c5b1
  try clear c6
  try clear c6b0
  obtain ⟨kq,x20_2,rfl,HA,HJ2,HB⟩:=hcut
  cases kq with
  | zero => exact absurd HA.out (by simp [racewayref25_Kids.j0])
  | succ kj2 =>
   have H:=HA.out
   clear HA
   simp only [racewayref25_Kids.j0] at H
   by_cases c10 : x20_2 = true
   ·subst c10
    have H1 : (some ([] : List Int)) = some r:=by rw [if_pos rfl] at H;exact H
    clear H
    have H:=H1
    clear H1
    obtain rfl:=Option.some.inj H
    go_wp2
    go_ret
    exact ⟨_,by first|rfl|(simp [errW_none,errW_some] <;> rfl)|(simp [*,errW_none,errW_some] <;> rfl),by first|exact Kd.R_nil _ _ _ _ _|exact Kd.N_nil _ _ _ _ _|exact Kd.V_nil _ _ _ _ _|exact Kd.Q_nil _ _ _ _ _|exact Kd.S_nil _ _ _ _ _,by repeat (first|(with_reducible first|exact HB.out|apply below_alloc|apply pw_below_drewN|apply below_drew1)|exact HB.out)⟩
   ·replace c10:=Bool.eq_false_iff.mpr c10
    subst c10
    have H1 : (racewayref25_Kids.l0 kj2 l0 a1 ([] : List Int) (wrap64 (a1 + 1)) 0) = some r:=by rw [if_neg (show ¬ (false = true) by decide)] at H;exact H
    clear H
    have H:=H1
    clear H1
    have H':=Aside0.mk H
    clear H
    go_wp2
    go_loopg [5,6,7] kj2 (fun kq v5 v6 v7 w' => ∃ (x5_2 : List Int) (x6_2 : Int) (x7_2 : Int),v6 = .int .i64 x6_2 ∧ v7 = .int .i64 x7_2 ∧ Aside0 (racewayref25_Kids.l0 kq l0 a1 x5_2 x6_2 x7_2 = some r) ∧ Aside0 (kq ≤ kj2) ∧ Aside0 (Kd.R (Kd.int .i64) 3 w' w.heap.size (fun _ => True) v5 x5_2) ∧ Aside0 (Below w.heap.size w w'))
    case atStart => exact ⟨(([] : List Int)),(wrap64 (a1 + 1)),(0),(by first|rfl|(simp;done)|(simp;decide +kernel)|(simp [*];done)),(by first|rfl|(simp;done)|(simp;decide +kernel)|(simp [*];done)),(by first|exact H'|(subst_vars;exact H')),⟨Nat.le_refl _⟩,⟨by first|exact Kd.R_nil _ _ _ _ _|exact Kd.N_nil _ _ _ _ _|exact Kd.V_nil _ _ _ _ _|exact Kd.Q_nil _ _ _ _ _|exact Kd.S_nil _ _ _ _ _⟩,⟨by repeat (first|(with_reducible first|exact HB.out|apply below_alloc|apply pw_below_drewN|apply below_drew1)|exact HB.out)⟩⟩
    case round =>
     clear H'
     try clear c1
     try clear c2
     try clear p2
     try clear c5
     try clear c5b0
     try clear c5b1
     try clear c6
     try clear c6b0
     try clear p6
     try clear c10
     try clear p2
     obtain ⟨x5_2,x6_2,x7_2,rfl,rfl,HA,HK2,HO_5,HB⟩:=hrel
     cases gk with
     | zero => exact absurd HA.out (by simp [racewayref25_Kids.l0])
     | succ k2 =>
      have H:=HA.out
      clear HA
      simp only [racewayref25_Kids.l0] at H
      by_cases c11 : 0 ≤ a1
      ·rw [if_pos c11] at H
       have c11b0 : decide (0 ≤ a1) = true:=decide_eq_true c11
       clear c11
       by_cases c12 : a1 < (l0.length : Int)
       ·rw [if_pos c12] at H
        have c12b0 : decide (a1 < (l0.length : Int)) = true:=decide_eq_true c12
        clear c12
        by_cases c13 : x7_2 < ((rd_T46 l0 a1).f2)
        ·rw [if_pos c13] at H
         have c13b0 : decide (x7_2 < ((rd_T46 l0 a1).f2)) = true:=decide_eq_true c13
         clear c13
         by_cases c14 : x5_2.length < 17592186044416
         ·rw [if_pos c14] at H
          have LMc14:=Aside0.mk c14
          clear c14
          obtain ⟨y394,hy394⟩ : ∃ y_ : List Int,y_ = (x5_2 ++ [x6_2]):=⟨_,rfl⟩
          replace H : (if 0 ≤ x6_2 then (if x6_2 < (l0.length : Int) then (racewayref25_Kids.l0 k2 l0 a1 y394 (wrap64 (x6_2 + ((rd_T46 l0 x6_2).f1))) (wrap64 (x7_2 + 1))) else (none)) else (none)) = some r:=by first|(rw [hy394];with_reducible exact H)|(have H2_:=(Option.bind_some _ _).symm.trans H;rw [hy394];with_reducible exact H2_)|(have H2_:=(Option.bind_some _ _).symm.trans H;with_reducible exact H2_)|with_reducible exact H|(rw [hy394];exact H)|exact H
          have Ny394:=Aside0.mk hy394
          clear hy394
          by_cases c15 : 0 ≤ x6_2
          ·rw [if_pos c15] at H
           have c15b0 : decide (0 ≤ x6_2) = true:=decide_eq_true c15
           clear c15
           by_cases c16 : x6_2 < (l0.length : Int)
           ·rw [if_pos c16] at H
            have c16b0 : decide (x6_2 < (l0.length : Int)) = true:=decide_eq_true c16
            clear c16
            have H':=Aside0.mk H
            clear H
            have p393 : 0 ≤ (a1 : Int):=of_decide_eq_true (by first|(with_reducible assumption)|assumption)
            have q393 : a1 < (l0.length : Int):=of_decide_eq_true (by first|(with_reducible assumption)|assumption)
            obtain ⟨ad393,e393,hx393_0,hx393_1,hx393_2,hx393_3,hx393_4⟩:=at_T46 HR0.out a1 p393 q393
            cases e393
            replace hx393_0:=(HB.out.cell (World.block_lt_of_cell? w _ hx393_0)).trans hx393_0
            replace hx393_1:=(HB.out.cell (World.block_lt_of_cell? w _ hx393_1)).trans hx393_1
            replace hx393_2:=(HB.out.cell (World.block_lt_of_cell? w _ hx393_2)).trans hx393_2
            replace hx393_3:=(HB.out.cell (World.block_lt_of_cell? w _ hx393_3)).trans hx393_3
            replace hx393_4:=(HB.out.cell (World.block_lt_of_cell? w _ hx393_4)).trans hx393_4
            replace p393:=eq_true p393
            replace q393:=eq_true q393
            go_wp2_with (first|((with_reducible refine gate_builtin (b:=.append) (xs:=#[.tmp 32,.tmp 34]) rfl ?_);(try (refine gate_guard (by rfl) ?_;dsimp only));at_builtin;refine Kd.R_append (Kd.int .i64) (w0:=w) w.heap.size rfl (.tmp 32) (.tmp 34) 52 3 (.int .i64 0) 8 rfl Tryd.underlying52 info3 rfl (by decide) (by omega) u5 x5_2 x6_2 [.int .i64 x6_2] (fun _ => True) (fun _ => False) rfl rfl ?aP (fun _ hk => hk.elim) ?aF ?aO ?aB ?aS ?aL ?_;(case aP => exact rfl);(case aB => exact (by repeat (first|(with_reducible first|exact HB.out|apply below_alloc|apply pw_below_drewN|apply below_drew1)|exact HB.out)));(case aF => exact (fun _ _ => trivial));(case aO => exact (by (with_reducible repeat (first|apply Kd.R_alloc|apply Kd.R_drewN|apply Kd.R_drew));exact HO_5.out));(case aS => exact (below_size (by repeat (first|(with_reducible first|exact HB.out|apply below_alloc|apply pw_below_drewN|apply below_drew1)|exact HB.out))));(case aL => have:=LMc14.out;omega);intro v395 w17 ho hb hg hat;rw [← Ny394.out] at ho;have n0_:=Aside0.mk (hb);have n1_:=Aside0.mk (ho);clear HB;clear HO_5;have HB:=n0_;have HO396:=n1_;clear n0_ n1_;clear ho hb hg hat;have p397 : 0 ≤ (x6_2 : Int):=of_decide_eq_true (by first|(with_reducible assumption)|assumption);have q397 : x6_2 < (l0.length : Int):=of_decide_eq_true (by first|(with_reducible assumption)|assumption);obtain ⟨ad397,e397,hx397_0,hx397_1,hx397_2,hx397_3,hx397_4⟩:=at_T46 HR0.out x6_2 p397 q397;obtain rfl : ad393 = ad397:=(by injection e397);replace hx397_0:=(HB.out.cell (World.block_lt_of_cell? w _ hx397_0)).trans hx397_0;replace hx397_1:=(HB.out.cell (World.block_lt_of_cell? w _ hx397_1)).trans hx397_1;replace hx397_2:=(HB.out.cell (World.block_lt_of_cell? w _ hx397_2)).trans hx397_2;replace hx397_3:=(HB.out.cell (World.block_lt_of_cell? w _ hx397_3)).trans hx397_3;replace hx397_4:=(HB.out.cell (World.block_lt_of_cell? w _ hx397_4)).trans hx397_4;replace p397:=eq_true p397;replace q397:=eq_true q397))
            go_roundg k2
            case measure => have:=HJ2.out;have:=HK2.out;omega
            case rel => exact ⟨(y394),(wrap64 (x6_2 + ((rd_T46 l0 x6_2).f1))),(wrap64 (x7_2 + 1)),(by first|rfl|(simp;done)|(simp;decide +kernel)|(simp [*];done)),(by first|rfl|(simp;done)|(simp;decide +kernel)|(simp [*];done)),(by first|exact H'|(subst_vars;exact H')),⟨by have:=HJ2.out;have:=HK2.out;omega⟩,⟨by (with_reducible repeat (first|apply Kd.R_alloc|apply Kd.R_drewN|apply Kd.R_drew));exact HO396.out⟩,⟨by repeat (first|(with_reducible first|exact HB.out|apply below_alloc|apply pw_below_drewN|apply below_drew1)|exact HB.out)⟩⟩
           ·rw [if_neg c16] at H
            exact absurd H (by simp)
          ·rw [if_neg c15] at H
           exact absurd H (by simp)
         ·rw [if_neg c14] at H
          exact absurd H (by simp)
        ·rw [if_neg c13] at H
         have c13b0 : decide (x7_2 < ((rd_T46 l0 a1).f2)) = false:=decide_eq_false c13
         clear c13
         obtain rfl:=Option.some.inj H
         have p393 : 0 ≤ (a1 : Int):=of_decide_eq_true (by first|(with_reducible assumption)|assumption)
         have q393 : a1 < (l0.length : Int):=of_decide_eq_true (by first|(with_reducible assumption)|assumption)
         obtain ⟨ad393,e393,hx393_0,hx393_1,hx393_2,hx393_3,hx393_4⟩:=at_T46 HR0.out a1 p393 q393
         cases e393
         replace hx393_0:=(HB.out.cell (World.block_lt_of_cell? w _ hx393_0)).trans hx393_0
         replace hx393_1:=(HB.out.cell (World.block_lt_of_cell? w _ hx393_1)).trans hx393_1
         replace hx393_2:=(HB.out.cell (World.block_lt_of_cell? w _ hx393_2)).trans hx393_2
         replace hx393_3:=(HB.out.cell (World.block_lt_of_cell? w _ hx393_3)).trans hx393_3
         replace hx393_4:=(HB.out.cell (World.block_lt_of_cell? w _ hx393_4)).trans hx393_4
         replace p393:=eq_true p393
         replace q393:=eq_true q393
         go_wp2
         go_ret
         exact ⟨_,by first|rfl|(simp [errW_none,errW_some] <;> rfl)|(simp [*,errW_none,errW_some] <;> rfl),by (with_reducible repeat (first|apply Kd.R_alloc|apply Kd.R_drewN|apply Kd.R_drew));exact HO_5.out,by repeat (first|(with_reducible first|exact HB.out|apply below_alloc|apply pw_below_drewN|apply below_drew1)|exact HB.out)⟩
       ·rw [if_neg c12] at H
        exact absurd H (by simp)
      ·rw [if_neg c11] at H
       exact absurd H (by simp)
end Go.Proofs.YtadfkeipcebmfaaDoor.X
namespace Go.Proofs.YtadfkeipcebmfaaDoor.X
open Go.RowKit Go.Proofs.YtadfkeipcebmfaaDoorW.PrintWords Go.Proofs.YtadfkeipcebmfaaDoorW.PrintLast Go.Proofs.YtadfkeipcebmfaaDoorW.PrintMore
attribute [local go_sem] max2_int min2_int max_two min_two max_three min_three max_four min_four
set_option linter.unusedVariables false
set_option linter.unusedSimpArgs false
def jsontext_Get.l0 : Nat → List (S46) → Int → ByteArray → List Int → Int → Int → Option (Int)
 | 0,_,_,_,_,_,_ => none
 | k + 1,x0,x1,x2,x11,x12,x13 => if x13 < x12 then (if 0 ≤ x13 then (if x13 < (x11.length : Int) then (if 0 ≤ x1 then (if x1 < (x0.length : Int) then (if ((rd_T46 x0 x1).f0) = 7 then (if 0 ≤ (rd x11 x13) then (if (rd x11 x13) < (x0.length : Int) then (if ((rd_T46 x0 (rd x11 x13)).f3).toList = x2.toList then (some (rd x11 x13)) else (jsontext_Get.l0 k x0 x1 x2 x11 x12 (wrap64 (x13 + 1)))) else (none)) else (none)) else (jsontext_Get.l0 k x0 x1 x2 x11 x12 (wrap64 (x13 + 1)))) else (none)) else (none)) else (none)) else (none)) else (some (-1))
def jsontext_Get.f (k : Nat) (l0 : List (S46)) (a1 : Int) (a2 : ByteArray) : Option (Int):=(jsontext_Kids.f k l0 a1).bind fun t398 => (jsontext_Get.l0 k l0 a1 a2 t398 (t398.length : Int) 0)
set_option maxHeartbeats 8000000 in
set_option maxRecDepth 100000 in
theorem jsontext_Get.calls (k : Nat) (A0 : Option Addr) (c0 : Nat) (l0 : List (S46)) (a1 : Int) (a2 : ByteArray) (r : Int) (w : World) (hGU8 : GlobU8 w) (hr0 : Kd.C k46 w A0 l0.length l0) (hc0 : l0.length ≤ c0) (h : jsontext_Get.f k l0 a1 a2 = some r) :
  Calls Tryd.prog 26 #[.slice A0 l0.length c0,.int .i64 a1,.string a2] w fun e w' => e = .returned (.int .i64 r) ∧ Below w.heap.size w w':=by
 have HGU8:=Aside0.mk hGU8
 clear hGU8
 have HR0:=Aside0.mk hr0
 have HC0:=Aside0.mk hc0
 clear hr0 hc0
 have HB:=Aside0.mk (Below.refl w.heap.size w)
 have H : ((jsontext_Kids.f k l0 a1).bind fun t398 => (jsontext_Get.l0 k l0 a1 a2 t398 (t398.length : Int) 0)) = some r:=h
 clear h
 replace H:=Option.bind_eq_some_iff.mp H
 obtain ⟨t398,A40,H⟩:=H
 replace H : (jsontext_Get.l0 k l0 a1 a2 t398 (t398.length : Int) 0) = some r:=H
 have A4:=Aside0.mk A40
 clear A40
 have H':=Aside0.mk H
 clear H
 go_enter Tryd.func26,Tryd.ntmps26
 go_wp2_with (first|((with_reducible refine gate_callee (f:=24) rfl ?_);refine goesL_ (some 11) rfl rfl Tryd.func24 (by kernel_rfl) rfl #[.slice A0 l0.length c0,.int .i64 a1] rfl (by (try simp only [List.map_toArray,List.map_cons,List.map_nil]);first|done|rfl|(simp only [List.length_drop,List.length_take];rfl)) ?_;(with_reducible refine (jsontext_Kids.calls k _ _ l0 a1 t398 _ ?side3 ?side1 ?side2 A4.out).mono ?_);(case side1 => repeat (first|exact HR0.out|(with_reducible refine Kd.C_alloc ?_ _)|(with_reducible refine Kd.C_drewN ?_ _)|(with_reducible refine Kd.C_drew ?_)));(case side2 => exact HC0.out);(case side3 => first|exact HGU8.out|exact GlobU8.below HGU8.out (by repeat (first|(with_reducible first|exact HB.out|apply below_alloc|apply pw_below_drewN|apply below_drew1)|exact HB.out))|exact GlobU8.drawn HGU8.out (by repeat (first|exact Drawn0.refl _|apply Drawn0.step)));rintro e w5 ⟨v399,rfl,ho0,hb⟩;refine ⟨_,rfl,?_⟩;have n0_:=Aside0.mk (Kd.R_lower ho0 (below_size (by repeat (first|(with_reducible first|exact HB.out|apply below_alloc|apply pw_below_drewN|apply below_drew1)|exact HB.out))));have n1_:=Aside0.mk (below_step (by repeat (first|(with_reducible first|exact HB.out|apply below_alloc|apply pw_below_drewN|apply below_drew1)|exact HB.out)) hb);clear HB;have HO400:=n0_;have HB:=n1_;clear n0_ n1_;(try clear hb);(try clear hb2);(try clear hk);(try clear hi);(try clear ho0);obtain ⟨Ao6,co6,eo6⟩:=Kd.R_slice HO400.out;subst eo6))
 go_loopg [13] k (fun kq v13 w' => ∃ (x13_1 : Int),v13 = .int .i64 x13_1 ∧ Aside0 (jsontext_Get.l0 kq l0 a1 a2 t398 (t398.length : Int) x13_1 = some r) ∧ Aside0 (kq ≤ k) ∧ Aside0 (Kd.R (Kd.int .i64) 3 w' w.heap.size (fun _ => True) (.slice Ao6 t398.length co6) t398) ∧ Aside0 (Below w.heap.size w w'))
 case atStart => exact ⟨(0),(by first|rfl|(simp;done)|(simp;decide +kernel)|(simp [*];done)),(by first|exact H'|(subst_vars;exact H')),⟨Nat.le_refl _⟩,⟨by (with_reducible repeat (first|apply Kd.R_alloc|apply Kd.R_drewN|apply Kd.R_drew));exact HO400.out⟩,⟨by repeat (first|(with_reducible first|exact HB.out|apply below_alloc|apply pw_below_drewN|apply below_drew1)|exact HB.out)⟩⟩
 case round =>
  clear H'
  try clear c2
  try clear p2
  obtain ⟨x13_1,rfl,HA,HK1,HO_11,HB⟩:=hrel
  cases gk with
  | zero => exact absurd HA.out (by simp [jsontext_Get.l0])
  | succ k1 =>
   have H:=HA.out
   clear HA
   simp only [jsontext_Get.l0] at H
   by_cases c7 : x13_1 < (t398.length : Int)
   ·rw [if_pos c7] at H
    have c7b0 : decide (x13_1 < (t398.length : Int)) = true:=decide_eq_true c7
    clear c7
    by_cases c8 : 0 ≤ x13_1
    ·rw [if_pos c8] at H
     have c8b0 : decide (0 ≤ x13_1) = true:=decide_eq_true c8
     clear c8
     by_cases c9 : x13_1 < (t398.length : Int)
     ·rw [if_pos c9] at H
      have c9b0 : decide (x13_1 < (t398.length : Int)) = true:=decide_eq_true c9
      clear c9
      by_cases c10 : 0 ≤ a1
      ·rw [if_pos c10] at H
       have c10b0 : decide (0 ≤ a1) = true:=decide_eq_true c10
       clear c10
       by_cases c11 : a1 < (l0.length : Int)
       ·rw [if_pos c11] at H
        have c11b0 : decide (a1 < (l0.length : Int)) = true:=decide_eq_true c11
        clear c11
        by_cases c12 : ((rd_T46 l0 a1).f0) = 7
        ·rw [if_pos c12] at H
         have c12b0 : (((rd_T46 l0 a1).f0) == 7) = true:=beq_iff_eq.mpr c12
         have c12b1 : (((rd_T46 l0 a1).f0) != 7) = false:=bne_eq_false_iff_eq.mpr c12
         clear c12
         by_cases c13 : 0 ≤ (rd t398 x13_1)
         ·rw [if_pos c13] at H
          have c13b0 : decide (0 ≤ (rd t398 x13_1)) = true:=decide_eq_true c13
          clear c13
          by_cases c14 : (rd t398 x13_1) < (l0.length : Int)
          ·rw [if_pos c14] at H
           have c14b0 : decide ((rd t398 x13_1) < (l0.length : Int)) = true:=decide_eq_true c14
           clear c14
           by_cases c15 : ((rd_T46 l0 (rd t398 x13_1)).f3).toList = a2.toList
           ·rw [if_pos c15] at H
            have c15b0 : (((rd_T46 l0 (rd t398 x13_1)).f3).toList == a2.toList) = true:=beq_iff_eq.mpr c15
            have c15b1 : (((rd_T46 l0 (rd t398 x13_1)).f3).toList != a2.toList) = false:=bne_eq_false_iff_eq.mpr c15
            clear c15
            obtain rfl:=Option.some.inj H
            have p401 : 0 ≤ (x13_1 : Int):=of_decide_eq_true (by first|(with_reducible assumption)|assumption)
            have q401 : x13_1 < (t398.length : Int):=of_decide_eq_true (by first|(with_reducible assumption)|assumption)
            obtain ⟨ad401,e401,hx401_0⟩:=Kd.at_int (Kd.R_reads' HO_11.out).2.2 x13_1 p401 q401
            cases e401
            replace p401:=eq_true p401
            replace q401:=eq_true q401
            have p402 : 0 ≤ (a1 : Int):=of_decide_eq_true (by first|(with_reducible assumption)|assumption)
            have q402 : a1 < (l0.length : Int):=of_decide_eq_true (by first|(with_reducible assumption)|assumption)
            obtain ⟨ad402,e402,hx402_0,hx402_1,hx402_2,hx402_3,hx402_4⟩:=at_T46 HR0.out a1 p402 q402
            cases e402
            replace hx402_0:=(HB.out.cell (World.block_lt_of_cell? w _ hx402_0)).trans hx402_0
            replace hx402_1:=(HB.out.cell (World.block_lt_of_cell? w _ hx402_1)).trans hx402_1
            replace hx402_2:=(HB.out.cell (World.block_lt_of_cell? w _ hx402_2)).trans hx402_2
            replace hx402_3:=(HB.out.cell (World.block_lt_of_cell? w _ hx402_3)).trans hx402_3
            replace hx402_4:=(HB.out.cell (World.block_lt_of_cell? w _ hx402_4)).trans hx402_4
            replace p402:=eq_true p402
            replace q402:=eq_true q402
            have p403 : 0 ≤ ((rd t398 x13_1) : Int):=of_decide_eq_true (by first|(with_reducible assumption)|assumption)
            have q403 : (rd t398 x13_1) < (l0.length : Int):=of_decide_eq_true (by first|(with_reducible assumption)|assumption)
            obtain ⟨ad403,e403,hx403_0,hx403_1,hx403_2,hx403_3,hx403_4⟩:=at_T46 HR0.out (rd t398 x13_1) p403 q403
            obtain rfl : ad402 = ad403:=(by injection e403)
            replace hx403_0:=(HB.out.cell (World.block_lt_of_cell? w _ hx403_0)).trans hx403_0
            replace hx403_1:=(HB.out.cell (World.block_lt_of_cell? w _ hx403_1)).trans hx403_1
            replace hx403_2:=(HB.out.cell (World.block_lt_of_cell? w _ hx403_2)).trans hx403_2
            replace hx403_3:=(HB.out.cell (World.block_lt_of_cell? w _ hx403_3)).trans hx403_3
            replace hx403_4:=(HB.out.cell (World.block_lt_of_cell? w _ hx403_4)).trans hx403_4
            replace p403:=eq_true p403
            replace q403:=eq_true q403
            go_wp2
            go_ret
            exact ⟨by first|rfl|(simp [errW_none,errW_some] <;> rfl)|(simp [*,errW_none,errW_some] <;> rfl),by repeat (first|(with_reducible first|exact HB.out|apply below_alloc|apply pw_below_drewN|apply below_drew1)|exact HB.out)⟩
           ·rw [if_neg c15] at H
            have c15b0 : (((rd_T46 l0 (rd t398 x13_1)).f3).toList == a2.toList) = false:=beq_eq_false_iff_ne.mpr c15
            have c15b1 : (((rd_T46 l0 (rd t398 x13_1)).f3).toList != a2.toList) = true:=bne_iff_ne.mpr c15
            have H':=Aside0.mk H
            clear H
            have p401 : 0 ≤ (x13_1 : Int):=of_decide_eq_true (by first|(with_reducible assumption)|assumption)
            have q401 : x13_1 < (t398.length : Int):=of_decide_eq_true (by first|(with_reducible assumption)|assumption)
            obtain ⟨ad401,e401,hx401_0⟩:=Kd.at_int (Kd.R_reads' HO_11.out).2.2 x13_1 p401 q401
            cases e401
            replace p401:=eq_true p401
            replace q401:=eq_true q401
            have p402 : 0 ≤ (a1 : Int):=of_decide_eq_true (by first|(with_reducible assumption)|assumption)
            have q402 : a1 < (l0.length : Int):=of_decide_eq_true (by first|(with_reducible assumption)|assumption)
            obtain ⟨ad402,e402,hx402_0,hx402_1,hx402_2,hx402_3,hx402_4⟩:=at_T46 HR0.out a1 p402 q402
            cases e402
            replace hx402_0:=(HB.out.cell (World.block_lt_of_cell? w _ hx402_0)).trans hx402_0
            replace hx402_1:=(HB.out.cell (World.block_lt_of_cell? w _ hx402_1)).trans hx402_1
            replace hx402_2:=(HB.out.cell (World.block_lt_of_cell? w _ hx402_2)).trans hx402_2
            replace hx402_3:=(HB.out.cell (World.block_lt_of_cell? w _ hx402_3)).trans hx402_3
            replace hx402_4:=(HB.out.cell (World.block_lt_of_cell? w _ hx402_4)).trans hx402_4
            replace p402:=eq_true p402
            replace q402:=eq_true q402
            have p403 : 0 ≤ ((rd t398 x13_1) : Int):=of_decide_eq_true (by first|(with_reducible assumption)|assumption)
            have q403 : (rd t398 x13_1) < (l0.length : Int):=of_decide_eq_true (by first|(with_reducible assumption)|assumption)
            obtain ⟨ad403,e403,hx403_0,hx403_1,hx403_2,hx403_3,hx403_4⟩:=at_T46 HR0.out (rd t398 x13_1) p403 q403
            obtain rfl : ad402 = ad403:=(by injection e403)
            replace hx403_0:=(HB.out.cell (World.block_lt_of_cell? w _ hx403_0)).trans hx403_0
            replace hx403_1:=(HB.out.cell (World.block_lt_of_cell? w _ hx403_1)).trans hx403_1
            replace hx403_2:=(HB.out.cell (World.block_lt_of_cell? w _ hx403_2)).trans hx403_2
            replace hx403_3:=(HB.out.cell (World.block_lt_of_cell? w _ hx403_3)).trans hx403_3
            replace hx403_4:=(HB.out.cell (World.block_lt_of_cell? w _ hx403_4)).trans hx403_4
            replace p403:=eq_true p403
            replace q403:=eq_true q403
            go_wp2
            go_roundg k1
            case measure => have:=HK1.out;omega
            case rel => exact ⟨(wrap64 (x13_1 + 1)),(by first|rfl|(simp;done)|(simp;decide +kernel)|(simp [*];done)),(by first|exact H'|(subst_vars;exact H')),⟨by have:=HK1.out;omega⟩,⟨by (with_reducible repeat (first|apply Kd.R_alloc|apply Kd.R_drewN|apply Kd.R_drew));exact HO_11.out⟩,⟨by repeat (first|(with_reducible first|exact HB.out|apply below_alloc|apply pw_below_drewN|apply below_drew1)|exact HB.out)⟩⟩
          ·rw [if_neg c14] at H
           exact absurd H (by simp)
         ·rw [if_neg c13] at H
          exact absurd H (by simp)
        ·rw [if_neg c12] at H
         have c12b0 : (((rd_T46 l0 a1).f0) == 7) = false:=beq_eq_false_iff_ne.mpr c12
         have c12b1 : (((rd_T46 l0 a1).f0) != 7) = true:=bne_iff_ne.mpr c12
         have H':=Aside0.mk H
         clear H
         have p401 : 0 ≤ (x13_1 : Int):=of_decide_eq_true (by first|(with_reducible assumption)|assumption)
         have q401 : x13_1 < (t398.length : Int):=of_decide_eq_true (by first|(with_reducible assumption)|assumption)
         obtain ⟨ad401,e401,hx401_0⟩:=Kd.at_int (Kd.R_reads' HO_11.out).2.2 x13_1 p401 q401
         cases e401
         replace p401:=eq_true p401
         replace q401:=eq_true q401
         have p402 : 0 ≤ (a1 : Int):=of_decide_eq_true (by first|(with_reducible assumption)|assumption)
         have q402 : a1 < (l0.length : Int):=of_decide_eq_true (by first|(with_reducible assumption)|assumption)
         obtain ⟨ad402,e402,hx402_0,hx402_1,hx402_2,hx402_3,hx402_4⟩:=at_T46 HR0.out a1 p402 q402
         cases e402
         replace hx402_0:=(HB.out.cell (World.block_lt_of_cell? w _ hx402_0)).trans hx402_0
         replace hx402_1:=(HB.out.cell (World.block_lt_of_cell? w _ hx402_1)).trans hx402_1
         replace hx402_2:=(HB.out.cell (World.block_lt_of_cell? w _ hx402_2)).trans hx402_2
         replace hx402_3:=(HB.out.cell (World.block_lt_of_cell? w _ hx402_3)).trans hx402_3
         replace hx402_4:=(HB.out.cell (World.block_lt_of_cell? w _ hx402_4)).trans hx402_4
         replace p402:=eq_true p402
         replace q402:=eq_true q402
         go_wp2
         go_roundg k1
         case measure => have:=HK1.out;omega
         case rel => exact ⟨(wrap64 (x13_1 + 1)),(by first|rfl|(simp;done)|(simp;decide +kernel)|(simp [*];done)),(by first|exact H'|(subst_vars;exact H')),⟨by have:=HK1.out;omega⟩,⟨by (with_reducible repeat (first|apply Kd.R_alloc|apply Kd.R_drewN|apply Kd.R_drew));exact HO_11.out⟩,⟨by repeat (first|(with_reducible first|exact HB.out|apply below_alloc|apply pw_below_drewN|apply below_drew1)|exact HB.out)⟩⟩
       ·rw [if_neg c11] at H
        exact absurd H (by simp)
      ·rw [if_neg c10] at H
       exact absurd H (by simp)
     ·rw [if_neg c9] at H
      exact absurd H (by simp)
    ·rw [if_neg c8] at H
     exact absurd H (by simp)
   ·rw [if_neg c7] at H
    have c7b0 : decide (x13_1 < (t398.length : Int)) = false:=decide_eq_false c7
    clear c7
    obtain rfl:=Option.some.inj H
    go_wp2
    go_ret
    exact ⟨by first|rfl|(simp [errW_none,errW_some] <;> rfl)|(simp [*,errW_none,errW_some] <;> rfl),by repeat (first|(with_reducible first|exact HB.out|apply below_alloc|apply pw_below_drewN|apply below_drew1)|exact HB.out)⟩
end Go.Proofs.YtadfkeipcebmfaaDoor.X
namespace Go.Proofs.YtadfkeipcebmfaaDoor.X
open Go.RowKit Go.Proofs.YtadfkeipcebmfaaDoorW.PrintWords Go.Proofs.YtadfkeipcebmfaaDoorW.PrintLast Go.Proofs.YtadfkeipcebmfaaDoorW.PrintMore
attribute [local go_sem] max2_int min2_int max_two min_two max_three min_three max_four min_four
set_option linter.unusedVariables false
set_option linter.unusedSimpArgs false
def racewayref25_Get.l0 : Nat → List (S46) → Int → ByteArray → List Int → Int → Option (Int)
 | 0,_,_,_,_,_ => none
 | k + 1,x0,x1,x2,x7,x8 => if x8 < (x7.length : Int) then (if 0 ≤ x1 then (if x1 < (x0.length : Int) then (if ((rd_T46 x0 x1).f0) = 7 then (if 0 ≤ x8 then (if 0 ≤ (rd x7 x8) then (if (rd x7 x8) < (x0.length : Int) then (if ((rd_T46 x0 (rd x7 x8)).f3).toList = x2.toList then (some (rd x7 x8)) else (racewayref25_Get.l0 k x0 x1 x2 x7 (wrap64 (x8 + 1)))) else (none)) else (none)) else (none)) else (racewayref25_Get.l0 k x0 x1 x2 x7 (wrap64 (x8 + 1)))) else (none)) else (none)) else (some (-1))
def racewayref25_Get.f (k : Nat) (l0 : List (S46)) (a1 : Int) (a2 : ByteArray) : Option (Int):=(racewayref25_Kids.f k l0 a1).bind fun t404 => (racewayref25_Get.l0 k l0 a1 a2 t404 0)
set_option maxHeartbeats 8000000 in
set_option maxRecDepth 100000 in
theorem racewayref25_Get.calls (k : Nat) (A0 : Option Addr) (c0 : Nat) (l0 : List (S46)) (a1 : Int) (a2 : ByteArray) (r : Int) (w : World) (hr0 : Kd.C k46 w A0 l0.length l0) (hc0 : l0.length ≤ c0) (h : racewayref25_Get.f k l0 a1 a2 = some r) :
  Calls Tryd.prog 27 #[.slice A0 l0.length c0,.int .i64 a1,.string a2] w fun e w' => e = .returned (.int .i64 r) ∧ Below w.heap.size w w':=by
 have HR0:=Aside0.mk hr0
 have HC0:=Aside0.mk hc0
 clear hr0 hc0
 have HB:=Aside0.mk (Below.refl w.heap.size w)
 have H : ((racewayref25_Kids.f k l0 a1).bind fun t404 => (racewayref25_Get.l0 k l0 a1 a2 t404 0)) = some r:=h
 clear h
 replace H:=Option.bind_eq_some_iff.mp H
 obtain ⟨t404,A40,H⟩:=H
 replace H : (racewayref25_Get.l0 k l0 a1 a2 t404 0) = some r:=H
 have A4:=Aside0.mk A40
 clear A40
 have H':=Aside0.mk H
 clear H
 go_enter Tryd.func27,Tryd.ntmps27
 go_wp2_with (first|((with_reducible refine gate_callee (f:=25) rfl ?_);refine goesL_ (some 11) rfl rfl Tryd.func25 (by kernel_rfl) rfl #[.slice A0 l0.length c0,.int .i64 a1] rfl (by (try simp only [List.map_toArray,List.map_cons,List.map_nil]);first|done|rfl|(simp only [List.length_drop,List.length_take];rfl)) ?_;(with_reducible refine (racewayref25_Kids.calls k _ _ l0 a1 t404 _ ?side1 ?side2 A4.out).mono ?_);(case side1 => repeat (first|exact HR0.out|(with_reducible refine Kd.C_alloc ?_ _)|(with_reducible refine Kd.C_drewN ?_ _)|(with_reducible refine Kd.C_drew ?_)));(case side2 => exact HC0.out);rintro e w5 ⟨v405,rfl,ho0,hb⟩;refine ⟨_,rfl,?_⟩;have n0_:=Aside0.mk (Kd.R_lower ho0 (below_size (by repeat (first|(with_reducible first|exact HB.out|apply below_alloc|apply pw_below_drewN|apply below_drew1)|exact HB.out))));have n1_:=Aside0.mk (below_step (by repeat (first|(with_reducible first|exact HB.out|apply below_alloc|apply pw_below_drewN|apply below_drew1)|exact HB.out)) hb);clear HB;have HO406:=n0_;have HB:=n1_;clear n0_ n1_;(try clear hb);(try clear hb2);(try clear hk);(try clear hi);(try clear ho0)))
 go_loopg [8] k (fun kq v8 w' => ∃ (x8_1 : Int),v8 = .int .i64 x8_1 ∧ Aside0 (racewayref25_Get.l0 kq l0 a1 a2 t404 x8_1 = some r) ∧ Aside0 (kq ≤ k) ∧ Aside0 (Kd.R (Kd.int .i64) 3 w' w.heap.size (fun _ => True) v405 t404) ∧ Aside0 (Below w.heap.size w w'))
 case atStart => exact ⟨(0),(by first|rfl|(simp;done)|(simp;decide +kernel)|(simp [*];done)),(by first|exact H'|(subst_vars;exact H')),⟨Nat.le_refl _⟩,⟨by (with_reducible repeat (first|apply Kd.R_alloc|apply Kd.R_drewN|apply Kd.R_drew));exact HO406.out⟩,⟨by repeat (first|(with_reducible first|exact HB.out|apply below_alloc|apply pw_below_drewN|apply below_drew1)|exact HB.out)⟩⟩
 case round =>
  clear H'
  try clear c2
  try clear p2
  obtain ⟨x8_1,rfl,HA,HK1,HO_7,HB⟩:=hrel
  cases gk with
  | zero => exact absurd HA.out (by simp [racewayref25_Get.l0])
  | succ k1 =>
   have H:=HA.out
   clear HA
   simp only [racewayref25_Get.l0] at H
   by_cases c6 : x8_1 < (t404.length : Int)
   ·rw [if_pos c6] at H
    have c6b0 : decide (x8_1 < (t404.length : Int)) = true:=decide_eq_true c6
    clear c6
    by_cases c7 : 0 ≤ a1
    ·rw [if_pos c7] at H
     have c7b0 : decide (0 ≤ a1) = true:=decide_eq_true c7
     clear c7
     by_cases c8 : a1 < (l0.length : Int)
     ·rw [if_pos c8] at H
      have c8b0 : decide (a1 < (l0.length : Int)) = true:=decide_eq_true c8
      clear c8
      by_cases c9 : ((rd_T46 l0 a1).f0) = 7
      ·rw [if_pos c9] at H
       have c9b0 : (((rd_T46 l0 a1).f0) == 7) = true:=beq_iff_eq.mpr c9
       have c9b1 : (((rd_T46 l0 a1).f0) != 7) = false:=bne_eq_false_iff_eq.mpr c9
       clear c9
       by_cases c10 : 0 ≤ x8_1
       ·rw [if_pos c10] at H
        have c10b0 : decide (0 ≤ x8_1) = true:=decide_eq_true c10
        clear c10
        by_cases c11 : 0 ≤ (rd t404 x8_1)
        ·rw [if_pos c11] at H
         have c11b0 : decide (0 ≤ (rd t404 x8_1)) = true:=decide_eq_true c11
         clear c11
         by_cases c12 : (rd t404 x8_1) < (l0.length : Int)
         ·rw [if_pos c12] at H
          have c12b0 : decide ((rd t404 x8_1) < (l0.length : Int)) = true:=decide_eq_true c12
          clear c12
          by_cases c13 : ((rd_T46 l0 (rd t404 x8_1)).f3).toList = a2.toList
          ·rw [if_pos c13] at H
           have c13b0 : (((rd_T46 l0 (rd t404 x8_1)).f3).toList == a2.toList) = true:=beq_iff_eq.mpr c13
           have c13b1 : (((rd_T46 l0 (rd t404 x8_1)).f3).toList != a2.toList) = false:=bne_eq_false_iff_eq.mpr c13
           clear c13
           obtain rfl:=Option.some.inj H
           obtain ⟨Ao14,co14,eo14⟩:=Kd.R_slice HO_7.out
           subst eo14
           have p407 : 0 ≤ (a1 : Int):=of_decide_eq_true (by first|(with_reducible assumption)|assumption)
           have q407 : a1 < (l0.length : Int):=of_decide_eq_true (by first|(with_reducible assumption)|assumption)
           obtain ⟨ad407,e407,hx407_0,hx407_1,hx407_2,hx407_3,hx407_4⟩:=at_T46 HR0.out a1 p407 q407
           cases e407
           replace hx407_0:=(HB.out.cell (World.block_lt_of_cell? w _ hx407_0)).trans hx407_0
           replace hx407_1:=(HB.out.cell (World.block_lt_of_cell? w _ hx407_1)).trans hx407_1
           replace hx407_2:=(HB.out.cell (World.block_lt_of_cell? w _ hx407_2)).trans hx407_2
           replace hx407_3:=(HB.out.cell (World.block_lt_of_cell? w _ hx407_3)).trans hx407_3
           replace hx407_4:=(HB.out.cell (World.block_lt_of_cell? w _ hx407_4)).trans hx407_4
           replace p407:=eq_true p407
           replace q407:=eq_true q407
           have p408 : 0 ≤ (x8_1 : Int):=of_decide_eq_true (by first|(with_reducible assumption)|assumption)
           have q408 : x8_1 < (t404.length : Int):=of_decide_eq_true (by first|(with_reducible assumption)|assumption)
           obtain ⟨ad408,e408,hx408_0⟩:=Kd.at_int (Kd.R_reads' HO_7.out).2.2 x8_1 p408 q408
           cases e408
           replace p408:=eq_true p408
           replace q408:=eq_true q408
           have p409 : 0 ≤ ((rd t404 x8_1) : Int):=of_decide_eq_true (by first|(with_reducible assumption)|assumption)
           have q409 : (rd t404 x8_1) < (l0.length : Int):=of_decide_eq_true (by first|(with_reducible assumption)|assumption)
           obtain ⟨ad409,e409,hx409_0,hx409_1,hx409_2,hx409_3,hx409_4⟩:=at_T46 HR0.out (rd t404 x8_1) p409 q409
           obtain rfl : ad407 = ad409:=(by injection e409)
           replace hx409_0:=(HB.out.cell (World.block_lt_of_cell? w _ hx409_0)).trans hx409_0
           replace hx409_1:=(HB.out.cell (World.block_lt_of_cell? w _ hx409_1)).trans hx409_1
           replace hx409_2:=(HB.out.cell (World.block_lt_of_cell? w _ hx409_2)).trans hx409_2
           replace hx409_3:=(HB.out.cell (World.block_lt_of_cell? w _ hx409_3)).trans hx409_3
           replace hx409_4:=(HB.out.cell (World.block_lt_of_cell? w _ hx409_4)).trans hx409_4
           replace p409:=eq_true p409
           replace q409:=eq_true q409
           have p410 : 0 ≤ (x8_1 : Int):=of_decide_eq_true (by first|(with_reducible assumption)|assumption)
           have q410 : x8_1 < (t404.length : Int):=of_decide_eq_true (by first|(with_reducible assumption)|assumption)
           obtain ⟨ad410,e410,hx410_0⟩:=Kd.at_int (Kd.R_reads' HO_7.out).2.2 x8_1 p410 q410
           obtain rfl : ad408 = ad410:=(by injection e410)
           replace p410:=eq_true p410
           replace q410:=eq_true q410
           go_wp2
           go_ret
           exact ⟨by first|rfl|(simp [errW_none,errW_some] <;> rfl)|(simp [*,errW_none,errW_some] <;> rfl),by repeat (first|(with_reducible first|exact HB.out|apply below_alloc|apply pw_below_drewN|apply below_drew1)|exact HB.out)⟩
          ·rw [if_neg c13] at H
           have c13b0 : (((rd_T46 l0 (rd t404 x8_1)).f3).toList == a2.toList) = false:=beq_eq_false_iff_ne.mpr c13
           have c13b1 : (((rd_T46 l0 (rd t404 x8_1)).f3).toList != a2.toList) = true:=bne_iff_ne.mpr c13
           have H':=Aside0.mk H
           clear H
           obtain ⟨Ao15,co15,eo15⟩:=Kd.R_slice HO_7.out
           subst eo15
           have p407 : 0 ≤ (a1 : Int):=of_decide_eq_true (by first|(with_reducible assumption)|assumption)
           have q407 : a1 < (l0.length : Int):=of_decide_eq_true (by first|(with_reducible assumption)|assumption)
           obtain ⟨ad407,e407,hx407_0,hx407_1,hx407_2,hx407_3,hx407_4⟩:=at_T46 HR0.out a1 p407 q407
           cases e407
           replace hx407_0:=(HB.out.cell (World.block_lt_of_cell? w _ hx407_0)).trans hx407_0
           replace hx407_1:=(HB.out.cell (World.block_lt_of_cell? w _ hx407_1)).trans hx407_1
           replace hx407_2:=(HB.out.cell (World.block_lt_of_cell? w _ hx407_2)).trans hx407_2
           replace hx407_3:=(HB.out.cell (World.block_lt_of_cell? w _ hx407_3)).trans hx407_3
           replace hx407_4:=(HB.out.cell (World.block_lt_of_cell? w _ hx407_4)).trans hx407_4
           replace p407:=eq_true p407
           replace q407:=eq_true q407
           have p408 : 0 ≤ (x8_1 : Int):=of_decide_eq_true (by first|(with_reducible assumption)|assumption)
           have q408 : x8_1 < (t404.length : Int):=of_decide_eq_true (by first|(with_reducible assumption)|assumption)
           obtain ⟨ad408,e408,hx408_0⟩:=Kd.at_int (Kd.R_reads' HO_7.out).2.2 x8_1 p408 q408
           cases e408
           replace p408:=eq_true p408
           replace q408:=eq_true q408
           have p409 : 0 ≤ ((rd t404 x8_1) : Int):=of_decide_eq_true (by first|(with_reducible assumption)|assumption)
           have q409 : (rd t404 x8_1) < (l0.length : Int):=of_decide_eq_true (by first|(with_reducible assumption)|assumption)
           obtain ⟨ad409,e409,hx409_0,hx409_1,hx409_2,hx409_3,hx409_4⟩:=at_T46 HR0.out (rd t404 x8_1) p409 q409
           obtain rfl : ad407 = ad409:=(by injection e409)
           replace hx409_0:=(HB.out.cell (World.block_lt_of_cell? w _ hx409_0)).trans hx409_0
           replace hx409_1:=(HB.out.cell (World.block_lt_of_cell? w _ hx409_1)).trans hx409_1
           replace hx409_2:=(HB.out.cell (World.block_lt_of_cell? w _ hx409_2)).trans hx409_2
           replace hx409_3:=(HB.out.cell (World.block_lt_of_cell? w _ hx409_3)).trans hx409_3
           replace hx409_4:=(HB.out.cell (World.block_lt_of_cell? w _ hx409_4)).trans hx409_4
           replace p409:=eq_true p409
           replace q409:=eq_true q409
           go_wp2
           go_roundg k1
           case measure => have:=HK1.out;omega
           case rel => exact ⟨(wrap64 (x8_1 + 1)),(by first|rfl|(simp;done)|(simp;decide +kernel)|(simp [*];done)),(by first|exact H'|(subst_vars;exact H')),⟨by have:=HK1.out;omega⟩,⟨by (with_reducible repeat (first|apply Kd.R_alloc|apply Kd.R_drewN|apply Kd.R_drew));exact HO_7.out⟩,⟨by repeat (first|(with_reducible first|exact HB.out|apply below_alloc|apply pw_below_drewN|apply below_drew1)|exact HB.out)⟩⟩
         ·rw [if_neg c12] at H
          exact absurd H (by simp)
        ·rw [if_neg c11] at H
         exact absurd H (by simp)
       ·rw [if_neg c10] at H
        exact absurd H (by simp)
      ·rw [if_neg c9] at H
       have c9b0 : (((rd_T46 l0 a1).f0) == 7) = false:=beq_eq_false_iff_ne.mpr c9
       have c9b1 : (((rd_T46 l0 a1).f0) != 7) = true:=bne_iff_ne.mpr c9
       have H':=Aside0.mk H
       clear H
       obtain ⟨Ao16,co16,eo16⟩:=Kd.R_slice HO_7.out
       subst eo16
       have p407 : 0 ≤ (a1 : Int):=of_decide_eq_true (by first|(with_reducible assumption)|assumption)
       have q407 : a1 < (l0.length : Int):=of_decide_eq_true (by first|(with_reducible assumption)|assumption)
       obtain ⟨ad407,e407,hx407_0,hx407_1,hx407_2,hx407_3,hx407_4⟩:=at_T46 HR0.out a1 p407 q407
       cases e407
       replace hx407_0:=(HB.out.cell (World.block_lt_of_cell? w _ hx407_0)).trans hx407_0
       replace hx407_1:=(HB.out.cell (World.block_lt_of_cell? w _ hx407_1)).trans hx407_1
       replace hx407_2:=(HB.out.cell (World.block_lt_of_cell? w _ hx407_2)).trans hx407_2
       replace hx407_3:=(HB.out.cell (World.block_lt_of_cell? w _ hx407_3)).trans hx407_3
       replace hx407_4:=(HB.out.cell (World.block_lt_of_cell? w _ hx407_4)).trans hx407_4
       replace p407:=eq_true p407
       replace q407:=eq_true q407
       go_wp2
       go_roundg k1
       case measure => have:=HK1.out;omega
       case rel => exact ⟨(wrap64 (x8_1 + 1)),(by first|rfl|(simp;done)|(simp;decide +kernel)|(simp [*];done)),(by first|exact H'|(subst_vars;exact H')),⟨by have:=HK1.out;omega⟩,⟨by (with_reducible repeat (first|apply Kd.R_alloc|apply Kd.R_drewN|apply Kd.R_drew));exact HO_7.out⟩,⟨by repeat (first|(with_reducible first|exact HB.out|apply below_alloc|apply pw_below_drewN|apply below_drew1)|exact HB.out)⟩⟩
     ·rw [if_neg c8] at H
      exact absurd H (by simp)
    ·rw [if_neg c7] at H
     exact absurd H (by simp)
   ·rw [if_neg c6] at H
    have c6b0 : decide (x8_1 < (t404.length : Int)) = false:=decide_eq_false c6
    clear c6
    obtain rfl:=Option.some.inj H
    obtain ⟨Ao17,co17,eo17⟩:=Kd.R_slice HO_7.out
    subst eo17
    go_wp2
    go_ret
    exact ⟨by first|rfl|(simp [errW_none,errW_some] <;> rfl)|(simp [*,errW_none,errW_some] <;> rfl),by repeat (first|(with_reducible first|exact HB.out|apply below_alloc|apply pw_below_drewN|apply below_drew1)|exact HB.out)⟩
end Go.Proofs.YtadfkeipcebmfaaDoor.X
namespace Go.Proofs.YtadfkeipcebmfaaDoor.X
open Go.RowKit Go.Proofs.YtadfkeipcebmfaaDoorW.PrintWords Go.Proofs.YtadfkeipcebmfaaDoorW.PrintLast Go.Proofs.YtadfkeipcebmfaaDoorW.PrintMore
set_option linter.unusedVariables false
set_option linter.unusedSimpArgs false
set_option maxHeartbeats 2000000 in
set_option maxRecDepth 100000 in
theorem clone_calls (A0 : Option Addr) (c0 : Nat) (l : List S46) (w : World) (hr : Kd.C k46 w A0 l.length l) (hc : l.length ≤ c0) (hl : l.length ≤ 100000) :
  Calls Tryd.prog 43 #[.slice A0 l.length c0] w fun e w' => ∃ v0_ : Value,e = .returned v0_ ∧ Kd.R k46 46 w' w.heap.size (fun _ => True) v0_ l ∧ Below w.heap.size w w':=by
 go_enter Tryd.func43,Tryd.ntmps43
 have he:=fun W => Lib.run_eql_slice_nil (P:=Tryd.prog) W 22 46 A0 l.length c0 0 0 Tryd.underlying22
 rcases A0 with _|ad
 ·have h0 : l = []:=by
   rcases l with _|⟨x,l⟩
   ·rfl
   ·obtain ⟨ad,h,_⟩:=hr.2.2 (by simp)
    cases h
  subst h0
  simp only [List.length_nil] at he
  go_wp2
  go_ret
  exact ⟨_,rfl,Kd.R_nil _ _ _ _ _,Below.refl _ _⟩
 ·go_upto_region 3 with (fail)
  have hnew:=heap_alloc_new w (.cells #[] 46 (0,0))
  have hbel : Below w.heap.size w (w.alloc (.cells #[] 46 (0,0))):=(Below.refl _ _).alloc (Nat.le_refl _) _
  have hown : Kd.R k46 46 (w.alloc (.cells #[] 46 (0,0))) w.heap.size (fun _ => True) (.slice (some ⟨w.heap.size,0,none⟩) 0 0) []:=by
   refine ⟨fun _ _ => trivial,[],⟨rfl,.inr ⟨w.heap.size,0,_,rfl,Nat.le_refl _,hnew,Nat.le_refl _,by unfold maxLen;omega,rfl,rfl⟩⟩,Reps.none _ _⟩
  refine wp_region_lit ?_
  refine wpList_step (fun K hK => ?_)
  go_simp
  refine hK _ _ ?_
  clear hK K
  refine wpList_step (fun K hK => ?_)
  go_simp
  refine hK _ _ ?_
  clear hK K
  refine Kd.R_append_rows k46 (Rr:=k46.K w) (w0:=w) w.heap.size rfl _ _ _ 46 _ 56 rfl Tryd.underlying22 info46 rfl (by decide) (by decide) (.slice (some ⟨w.heap.size,0,none⟩) 0 0) [] l (some ad) l.length c0 (fun _ => True) (fun _ => False) rfl rfl hown (Kd.C_below hr hbel) (fun x cs h => by rw [k46_open h];exact k46_mkM _ _ _ _) (fun _ h => h.elim) (fun _ _ => trivial) hbel (by rw [World.size_alloc];omega) (by simp;omega) ?_
  intro v1 w1 h1 hb1 hg1 hat
  refine wpList_step (fun K hK => ?_)
  go_simp
  refine hK _ _ ?_
  clear hK K
  refine wpList_nil ?_
  go_wp2
  go_ret
  exact ⟨_,rfl,h1,hb1⟩
def api_Jnode.f (l : List (S46)) : Option (List (S46)):=if l.length ≤ 100000 then some l else none
theorem api_Jnode.calls (A0 : Option Addr) (c0 : Nat) (l0 : List (S46)) (r : List (S46)) (w : World) (hr0 : Kd.C k46 w A0 l0.length l0) (hc0 : l0.length ≤ c0) (h : api_Jnode.f l0 = some r) :
  Calls Tryd.prog 43 #[.slice A0 l0.length c0] w fun e w' => ∃ v0_ : Value,e = .returned v0_ ∧ Kd.R k46 46 w' w.heap.size (fun _ => True) v0_ r ∧ Below w.heap.size w w':=by
 unfold api_Jnode.f at h
 split at h
 ·injection h with h
  subst h
  exact clone_calls A0 c0 l0 w hr0 hc0 (by assumption)
 ·cases h
end Go.Proofs.YtadfkeipcebmfaaDoor.X
namespace Go.Proofs.YtadfkeipcebmfaaDoor.X
open Go.RowKit Go.Proofs.YtadfkeipcebmfaaDoorW.PrintWords Go.Proofs.YtadfkeipcebmfaaDoorW.PrintLast Go.Proofs.YtadfkeipcebmfaaDoorW.PrintMore
attribute [local go_sem] max2_int min2_int max_two min_two max_three min_three max_four min_four
set_option linter.unusedVariables false
set_option linter.unusedSimpArgs false
def jsontext_Sub.f (k : Nat) (l0 : List (S46)) (a1 : Int) : Option ((List (S46))):=(jsontext_Check.f k l0).bind fun t411 => (if t411 = 0 then (if a1 < 0 then (some ([] : List (S46))) else (if a1 ≥ (l0.length : Int) then (some ([] : List (S46))) else (if 0 ≤ a1 then (if a1 < (l0.length : Int) then (if a1 ≤ (wrap64 (a1 + ((rd_T46 l0 a1).f1))) then (if (wrap64 (a1 + ((rd_T46 l0 a1).f1))) ≤ (l0.length : Int) then ((api_Jnode.f ((l0.take ((wrap64 (a1 + ((rd_T46 l0 a1).f1))) : Int).toNat).drop (a1 : Int).toNat)).bind fun t417 => (if 0 < (t417.length : Int) then (some (t417.set (0 : Int).toNat (⟨(rd_T46 t417 0).f0,(rd_T46 t417 0).f1,(rd_T46 t417 0).f2,(⟨#[]⟩ : ByteArray),(rd_T46 t417 0).f4⟩ : S46))) else (none))) else (none)) else (none)) else (none)) else (none)))) else (some ([] : List (S46))))
set_option maxHeartbeats 8000000 in
set_option maxRecDepth 100000 in
theorem jsontext_Sub.calls (k : Nat) (A0 : Option Addr) (c0 : Nat) (l0 : List (S46)) (a1 : Int) (r : List (S46)) (w : World) (hGU8 : GlobU8 w) (hr0 : Kd.C k46 w A0 l0.length l0) (hc0 : l0.length ≤ c0) (h : jsontext_Sub.f k l0 a1 = some r) :
  Calls Tryd.prog 28 #[.slice A0 l0.length c0,.int .i64 a1] w fun e w' => ∃ v0_ : Value,e = .returned (v0_) ∧ Kd.R k46 46 w' w.heap.size (fun _ => True) v0_ r ∧ Below w.heap.size w w':=by
 have HGU8:=Aside0.mk hGU8
 clear hGU8
 have HR0:=Aside0.mk hr0
 have HC0:=Aside0.mk hc0
 clear hr0 hc0
 have HB:=Aside0.mk (Below.refl w.heap.size w)
 have H : ((jsontext_Check.f k l0).bind fun t411 => (if t411 = 0 then (if a1 < 0 then (some ([] : List (S46))) else (if a1 ≥ (l0.length : Int) then (some ([] : List (S46))) else (if 0 ≤ a1 then (if a1 < (l0.length : Int) then (if a1 ≤ (wrap64 (a1 + ((rd_T46 l0 a1).f1))) then (if (wrap64 (a1 + ((rd_T46 l0 a1).f1))) ≤ (l0.length : Int) then ((api_Jnode.f ((l0.take ((wrap64 (a1 + ((rd_T46 l0 a1).f1))) : Int).toNat).drop (a1 : Int).toNat)).bind fun t417 => (if 0 < (t417.length : Int) then (some (t417.set (0 : Int).toNat (⟨(rd_T46 t417 0).f0,(rd_T46 t417 0).f1,(rd_T46 t417 0).f2,(⟨#[]⟩ : ByteArray),(rd_T46 t417 0).f4⟩ : S46))) else (none))) else (none)) else (none)) else (none)) else (none)))) else (some ([] : List (S46))))) = some r:=h
 clear h
 replace H:=Option.bind_eq_some_iff.mp H
 obtain ⟨t411,A30,H⟩:=H
 replace H : (if t411 = 0 then (if a1 < 0 then (some ([] : List (S46))) else (if a1 ≥ (l0.length : Int) then (some ([] : List (S46))) else (if 0 ≤ a1 then (if a1 < (l0.length : Int) then (if a1 ≤ (wrap64 (a1 + ((rd_T46 l0 a1).f1))) then (if (wrap64 (a1 + ((rd_T46 l0 a1).f1))) ≤ (l0.length : Int) then ((api_Jnode.f ((l0.take ((wrap64 (a1 + ((rd_T46 l0 a1).f1))) : Int).toNat).drop (a1 : Int).toNat)).bind fun t417 => (if 0 < (t417.length : Int) then (some (t417.set (0 : Int).toNat (⟨(rd_T46 t417 0).f0,(rd_T46 t417 0).f1,(rd_T46 t417 0).f2,(⟨#[]⟩ : ByteArray),(rd_T46 t417 0).f4⟩ : S46))) else (none))) else (none)) else (none)) else (none)) else (none)))) else (some ([] : List (S46)))) = some r:=H
 have A3:=Aside0.mk A30
 clear A30
 by_cases c4 : t411 = 0
 ·rw [if_pos c4] at H
  have c4b0 : (t411 == 0) = true:=beq_iff_eq.mpr c4
  have c4b1 : (t411 != 0) = false:=bne_eq_false_iff_eq.mpr c4
  clear c4
  by_cases c5 : a1 < 0
  ·rw [if_pos c5] at H
   have c5b0 : decide (a1 < 0) = true:=decide_eq_true c5
   clear c5
   obtain rfl:=Option.some.inj H
   go_enter Tryd.func28,Tryd.ntmps28
   go_wp2_with (first|((with_reducible refine gate_callee (f:=16) rfl ?_);refine goesL_ (some 7) rfl rfl Tryd.func16 (by kernel_rfl) rfl #[.slice A0 l0.length c0] rfl (by (try simp only [List.map_toArray,List.map_cons,List.map_nil]);first|done|rfl|(simp only [List.length_drop,List.length_take];rfl)) ?_;(with_reducible refine (jsontext_Check.calls k _ _ l0 t411 _ ?side3 ?side1 ?side2 A3.out).mono ?_);(case side1 => repeat (first|exact HR0.out|(with_reducible refine Kd.C_alloc ?_ _)|(with_reducible refine Kd.C_drewN ?_ _)|(with_reducible refine Kd.C_drew ?_)));(case side2 => exact HC0.out);(case side3 => first|exact HGU8.out|exact GlobU8.below HGU8.out (by repeat (first|(with_reducible first|exact HB.out|apply below_alloc|apply pw_below_drewN|apply below_drew1)|exact HB.out))|exact GlobU8.drawn HGU8.out (by repeat (first|exact Drawn0.refl _|apply Drawn0.step)));rintro e w6 ⟨rfl,hb⟩;refine ⟨_,rfl,?_⟩;have n0_:=Aside0.mk (below_step (by repeat (first|(with_reducible first|exact HB.out|apply below_alloc|apply pw_below_drewN|apply below_drew1)|exact HB.out)) hb);clear HB;have HB:=n0_;clear n0_;(try clear hb);(try clear hb2);(try clear hk);(try clear hi)))
   go_ret
   exact ⟨_,by first|rfl|(simp [errW_none,errW_some] <;> rfl)|(simp [*,errW_none,errW_some] <;> rfl),by first|exact Kd.R_nil _ _ _ _ _|exact Kd.N_nil _ _ _ _ _|exact Kd.V_nil _ _ _ _ _|exact Kd.Q_nil _ _ _ _ _|exact Kd.S_nil _ _ _ _ _,by repeat (first|(with_reducible first|exact HB.out|apply below_alloc|apply pw_below_drewN|apply below_drew1)|exact HB.out)⟩
  ·rw [if_neg c5] at H
   have c5b0 : decide (a1 < 0) = false:=decide_eq_false c5
   clear c5
   by_cases c7 : a1 ≥ (l0.length : Int)
   ·rw [if_pos c7] at H
    have c7b0 : decide ((l0.length : Int) ≤ a1) = true:=decide_eq_true c7
    clear c7
    obtain rfl:=Option.some.inj H
    go_enter Tryd.func28,Tryd.ntmps28
    go_wp2_with (first|((with_reducible refine gate_callee (f:=16) rfl ?_);refine goesL_ (some 7) rfl rfl Tryd.func16 (by kernel_rfl) rfl #[.slice A0 l0.length c0] rfl (by (try simp only [List.map_toArray,List.map_cons,List.map_nil]);first|done|rfl|(simp only [List.length_drop,List.length_take];rfl)) ?_;(with_reducible refine (jsontext_Check.calls k _ _ l0 t411 _ ?side3 ?side1 ?side2 A3.out).mono ?_);(case side1 => repeat (first|exact HR0.out|(with_reducible refine Kd.C_alloc ?_ _)|(with_reducible refine Kd.C_drewN ?_ _)|(with_reducible refine Kd.C_drew ?_)));(case side2 => exact HC0.out);(case side3 => first|exact HGU8.out|exact GlobU8.below HGU8.out (by repeat (first|(with_reducible first|exact HB.out|apply below_alloc|apply pw_below_drewN|apply below_drew1)|exact HB.out))|exact GlobU8.drawn HGU8.out (by repeat (first|exact Drawn0.refl _|apply Drawn0.step)));rintro e w8 ⟨rfl,hb⟩;refine ⟨_,rfl,?_⟩;have n0_:=Aside0.mk (below_step (by repeat (first|(with_reducible first|exact HB.out|apply below_alloc|apply pw_below_drewN|apply below_drew1)|exact HB.out)) hb);clear HB;have HB:=n0_;clear n0_;(try clear hb);(try clear hb2);(try clear hk);(try clear hi)))
    go_ret
    exact ⟨_,by first|rfl|(simp [errW_none,errW_some] <;> rfl)|(simp [*,errW_none,errW_some] <;> rfl),by first|exact Kd.R_nil _ _ _ _ _|exact Kd.N_nil _ _ _ _ _|exact Kd.V_nil _ _ _ _ _|exact Kd.Q_nil _ _ _ _ _|exact Kd.S_nil _ _ _ _ _,by repeat (first|(with_reducible first|exact HB.out|apply below_alloc|apply pw_below_drewN|apply below_drew1)|exact HB.out)⟩
   ·rw [if_neg c7] at H
    have c7b0 : decide ((l0.length : Int) ≤ a1) = false:=decide_eq_false c7
    clear c7
    by_cases c9 : 0 ≤ a1
    ·rw [if_pos c9] at H
     have c9b0 : decide (0 ≤ a1) = true:=decide_eq_true c9
     clear c9
     by_cases c10 : a1 < (l0.length : Int)
     ·rw [if_pos c10] at H
      have c10b0 : decide (a1 < (l0.length : Int)) = true:=decide_eq_true c10
      clear c10
      have c11b0:=eq_true (of_decide_eq_true (by first|(with_reducible assumption)|assumption) : 0 ≤ a1)
      by_cases c12 : a1 ≤ (wrap64 (a1 + ((rd_T46 l0 a1).f1)))
      ·rw [if_pos c12] at H
       have c12b0:=eq_true c12
       have c12b1 : decide (a1 ≤ (wrap64 (a1 + ((rd_T46 l0 a1).f1)))) = true:=decide_eq_true c12
       by_cases c13 : (wrap64 (a1 + ((rd_T46 l0 a1).f1))) ≤ (l0.length : Int)
       ·rw [if_pos c13] at H
        have c13b0:=eq_true c13
        have c13b1 : decide ((wrap64 (a1 + ((rd_T46 l0 a1).f1))) ≤ (l0.length : Int)) = true:=decide_eq_true c13
        obtain ⟨y413,hy413⟩ : ∃ y_ : List (S46),y_ = ((l0.take ((wrap64 (a1 + ((rd_T46 l0 a1).f1))) : Int).toNat).drop (a1 : Int).toNat):=⟨_,rfl⟩
        replace H : ((api_Jnode.f y413).bind fun t417 => (if 0 < (t417.length : Int) then (some (t417.set (0 : Int).toNat (⟨(rd_T46 t417 0).f0,(rd_T46 t417 0).f1,(rd_T46 t417 0).f2,(⟨#[]⟩ : ByteArray),(rd_T46 t417 0).f4⟩ : S46))) else (none))) = some r:=by first|(rw [hy413];with_reducible exact H)|(have H2_:=(Option.bind_some _ _).symm.trans H;rw [hy413];with_reducible exact H2_)|(have H2_:=(Option.bind_some _ _).symm.trans H;with_reducible exact H2_)|with_reducible exact H|(rw [hy413];exact H)|exact H
        have Ny413:=Aside0.mk hy413
        clear hy413
        replace H:=Option.bind_eq_some_iff.mp H
        obtain ⟨t417,A140,H⟩:=H
        replace H : (if 0 < (t417.length : Int) then (some (t417.set (0 : Int).toNat (⟨(rd_T46 t417 0).f0,(rd_T46 t417 0).f1,(rd_T46 t417 0).f2,(⟨#[]⟩ : ByteArray),(rd_T46 t417 0).f4⟩ : S46))) else (none)) = some r:=H
        have A14:=Aside0.mk A140
        clear A140
        by_cases c15 : 0 < (t417.length : Int)
        ·rw [if_pos c15] at H
         have c15b0 : decide (0 < (t417.length : Int)) = true:=decide_eq_true c15
         have c15b1 : decide (0 < t417.length) = true:=decide_eq_true (by omega)
         clear c15
         obtain ⟨y420,hy420⟩ : ∃ y_ : List (S46),y_ = (t417.set (0 : Int).toNat (⟨(rd_T46 t417 0).f0,(rd_T46 t417 0).f1,(rd_T46 t417 0).f2,(⟨#[]⟩ : ByteArray),(rd_T46 t417 0).f4⟩ : S46)):=⟨_,rfl⟩
         replace H : (some y420) = some r:=by first|(rw [hy420];with_reducible exact H)|(have H2_:=(Option.bind_some _ _).symm.trans H;rw [hy420];with_reducible exact H2_)|(have H2_:=(Option.bind_some _ _).symm.trans H;with_reducible exact H2_)|with_reducible exact H|(rw [hy420];exact H)|exact H
         have Ny420:=Aside0.mk hy420
         clear hy420
         obtain rfl:=Option.some.inj H
         go_enter Tryd.func28,Tryd.ntmps28
         go_wp2_with (first|((with_reducible refine gate_callee (f:=16) rfl ?_);refine goesL_ (some 7) rfl rfl Tryd.func16 (by kernel_rfl) rfl #[.slice A0 l0.length c0] rfl (by (try simp only [List.map_toArray,List.map_cons,List.map_nil]);first|done|rfl|(simp only [List.length_drop,List.length_take];rfl)) ?_;(with_reducible refine (jsontext_Check.calls k _ _ l0 t411 _ ?side3 ?side1 ?side2 A3.out).mono ?_);(case side1 => repeat (first|exact HR0.out|(with_reducible refine Kd.C_alloc ?_ _)|(with_reducible refine Kd.C_drewN ?_ _)|(with_reducible refine Kd.C_drew ?_)));(case side2 => exact HC0.out);(case side3 => first|exact HGU8.out|exact GlobU8.below HGU8.out (by repeat (first|(with_reducible first|exact HB.out|apply below_alloc|apply pw_below_drewN|apply below_drew1)|exact HB.out))|exact GlobU8.drawn HGU8.out (by repeat (first|exact Drawn0.refl _|apply Drawn0.step)));rintro e w17 ⟨rfl,hb⟩;refine ⟨_,rfl,?_⟩;have n0_:=Aside0.mk (below_step (by repeat (first|(with_reducible first|exact HB.out|apply below_alloc|apply pw_below_drewN|apply below_drew1)|exact HB.out)) hb);clear HB;have HB:=n0_;clear n0_;(try clear hb);(try clear hb2);(try clear hk);(try clear hi);have p412 : 0 ≤ (a1 : Int):=of_decide_eq_true (by first|(with_reducible assumption)|assumption);have q412 : a1 < (l0.length : Int):=of_decide_eq_true (by first|(with_reducible assumption)|assumption);obtain ⟨ad412,e412,hx412_0,hx412_1,hx412_2,hx412_3,hx412_4⟩:=at_T46 HR0.out a1 p412 q412;cases e412;replace hx412_0:=(HB.out.cell (World.block_lt_of_cell? w _ hx412_0)).trans hx412_0;replace hx412_1:=(HB.out.cell (World.block_lt_of_cell? w _ hx412_1)).trans hx412_1;replace hx412_2:=(HB.out.cell (World.block_lt_of_cell? w _ hx412_2)).trans hx412_2;replace hx412_3:=(HB.out.cell (World.block_lt_of_cell? w _ hx412_3)).trans hx412_3;replace hx412_4:=(HB.out.cell (World.block_lt_of_cell? w _ hx412_4)).trans hx412_4;replace p412:=eq_true p412;replace q412:=eq_true q412;have q18 : ((wrap64 (a1 + ((rd_T46 l0 a1).f1))) : Int) ≤ ((l0.length : Int) : Int):=of_decide_eq_true (by first|(with_reducible assumption)|assumption);obtain ⟨i018,hi018,_,hsz18,_⟩:=info_parts info46;have hroom18 : l0.length ≤ c0:=HC0.out;have hC18 : Kd.C k46 _ (some ad412) l0.length l0:=HR0.out;have ql18 : (a1 : Int) ≤ ((wrap64 (a1 + ((rd_T46 l0 a1).f1))) : Int):=of_decide_eq_true (by first|(with_reducible assumption)|assumption);have q018 : (0 : Int) ≤ (a1 : Int):=of_decide_eq_true (by first|(with_reducible assumption)|assumption);have hcut18:=cut_mid (P:=Tryd.prog) 22 46 .i64 .i64 Tryd.underlying22 hi018 5 hsz18 (some ad412) l0.length c0 a1 (wrap64 (a1 + ((rd_T46 l0 a1).f1))) q018 ql18 q18 hroom18;have hr18:=Kd.C_mid (lo:=(a1 : Int).toNat) (hi:=((wrap64 (a1 + ((rd_T46 l0 a1).f1))) : Int).toNat) (c:=c0) hC18 (by omega) (by omega) hroom18;obtain ⟨A18,hA18⟩ : ∃ A1,A1 = (if c0 = (a1 : Int).toNat then (some ad412) else ((some ad412) : Option Addr).map (·.add ((a1 : Int).toNat * 5))):=⟨_,rfl⟩;obtain ⟨c18,hc18⟩ : ∃ c1,c1 = c0 - (a1 : Int).toNat:=⟨_,rfl⟩;have hy18 : y413.length = ((wrap64 (a1 + ((rd_T46 l0 a1).f1))) : Int).toNat - (a1 : Int).toNat:=(by rw [Ny413.out,List.length_drop,List.length_take] <;> omega);rw [show ((l0).take ((wrap64 (a1 + ((rd_T46 l0 a1).f1))) : Int).toNat).drop (a1 : Int).toNat = y413 from Ny413.out.symm] at hr18;replace hr18 : Kd.C k46 _ A18 y413.length y413:=(by rw [hA18];exact hr18);rw [← hy18,← hA18,← hc18] at hcut18;have HR416:=Aside0.mk hr18;have HC416:=Aside0.mk (show y413.length ≤ c18 from by rw [hy18,hc18];exact Nat.sub_le_sub_right (Nat.le_trans (by omega) hroom18) _);clear hr18 hC18 hroom18 hi018 hsz18 hc18;have KY18:=Aside0.mk hy18;have KA18:=Aside0.mk hA18;clear hy18 hA18;replace q18:=eq_true q18)|((with_reducible refine gate_callee (f:=43) rfl ?_);refine goesL_ (some 29) rfl rfl Tryd.func43 (by kernel_rfl) rfl #[.slice A18 y413.length c18] rfl (by (try simp only [List.map_toArray,List.map_cons,List.map_nil]);first|done|rfl|(simp only [List.length_drop,List.length_take];rfl)) ?_;(with_reducible refine (api_Jnode.calls _ _ y413 t417 _ ?side1 ?side2 A14.out).mono ?_);(case side1 => repeat (first|exact (Kd.C_below HR416.out HB.out)|(with_reducible refine Kd.C_alloc ?_ _)|(with_reducible refine Kd.C_drewN ?_ _)|(with_reducible refine Kd.C_drew ?_)));(case side2 => exact HC416.out);rintro e w19 ⟨v418,rfl,ho0,hb⟩;refine ⟨_,rfl,?_⟩;have n0_:=Aside0.mk (Kd.R_lower ho0 (below_size (by repeat (first|(with_reducible first|exact HB.out|apply below_alloc|apply pw_below_drewN|apply below_drew1)|exact HB.out))));have n1_:=Aside0.mk (below_step (by repeat (first|(with_reducible first|exact HB.out|apply below_alloc|apply pw_below_drewN|apply below_drew1)|exact HB.out)) hb);clear HB;have HO419:=n0_;have HB:=n1_;clear n0_ n1_;(try clear hb);(try clear hb2);(try clear hk);(try clear hi);(try clear ho0);have p16 : 0 ≤ (0 : Int):=(by omega);have q16 : (0 : Int) < ((t417.length : Int) : Int):=of_decide_eq_true (by first|(with_reducible assumption)|assumption);have qi16 : (0 < t417.length) = True:=eq_true (by omega);obtain ⟨go16,co16,eo16,gb16,gl16,cl16,HG16⟩:=Kd.R_form HO419.out (by omega);(first|cases eo16|(injection eo16 with ea_ en_ ec_;(first|subst ea_|(injection ea_ with ea_;subst ea_));subst ec_;clear en_));have GB16:=Aside0.mk gb16;have GG16:=Aside0.mk HG16;clear gb16 gl16 HG16;obtain ⟨ce16,hcl16,hM16,hcc16,hfr16⟩:=Kd.R_elem HO419.out z46 (0 : Int) p16 q16;obtain rfl:=k46_openM hM16;have hx16_0 : w19.cell? ⟨go16,(0 : Int).toNat * 5,none⟩ = some (.int .i64 ((rd_T46 t417 0).f0)):=hcc16 0 _ rfl;have hx16_1 : w19.cell? ⟨go16,(0 : Int).toNat * 5 + 1,none⟩ = some (.int .i64 ((rd_T46 t417 0).f1)):=hcc16 1 _ rfl;have hx16_2 : w19.cell? ⟨go16,(0 : Int).toNat * 5 + 2,none⟩ = some (.int .i64 ((rd_T46 t417 0).f2)):=hcc16 2 _ rfl;have hx16_3 : w19.cell? ⟨go16,(0 : Int).toNat * 5 + 3,none⟩ = some (.string ((rd_T46 t417 0).f3)):=hcc16 3 _ rfl;have hx16_4 : w19.cell? ⟨go16,(0 : Int).toNat * 5 + 4,none⟩ = some (.string ((rd_T46 t417 0).f4)):=hcc16 4 _ rfl;have hf16_0 : w19.frozen? ⟨go16,(0 : Int).toNat * 5,none⟩ = false:=hfr16 0;have hf16_1 : w19.frozen? ⟨go16,(0 : Int).toNat * 5 + 1,none⟩ = false:=hfr16 1;have hf16_2 : w19.frozen? ⟨go16,(0 : Int).toNat * 5 + 2,none⟩ = false:=hfr16 2;have hf16_3 : w19.frozen? ⟨go16,(0 : Int).toNat * 5 + 3,none⟩ = false:=hfr16 3;have hf16_4 : w19.frozen? ⟨go16,(0 : Int).toNat * 5 + 4,none⟩ = false:=hfr16 4;clear hcl16 hcc16 hfr16 hM16;(try rw [show ((0 : Int)).toNat = 0 from rfl] at hx16_0);(try simp only [Nat.reduceMul,Nat.zero_mul,Nat.zero_add,Nat.reduceAdd] at hx16_0);(try rw [show ((0 : Int)).toNat = 0 from rfl] at hf16_0);(try simp only [Nat.reduceMul,Nat.zero_mul,Nat.zero_add,Nat.reduceAdd] at hf16_0);(try rw [show ((0 : Int)).toNat = 0 from rfl] at hx16_1);(try simp only [Nat.reduceMul,Nat.zero_mul,Nat.zero_add,Nat.reduceAdd] at hx16_1);(try rw [show ((0 : Int)).toNat = 0 from rfl] at hf16_1);(try simp only [Nat.reduceMul,Nat.zero_mul,Nat.zero_add,Nat.reduceAdd] at hf16_1);(try rw [show ((0 : Int)).toNat = 0 from rfl] at hx16_2);(try simp only [Nat.reduceMul,Nat.zero_mul,Nat.zero_add,Nat.reduceAdd] at hx16_2);(try rw [show ((0 : Int)).toNat = 0 from rfl] at hf16_2);(try simp only [Nat.reduceMul,Nat.zero_mul,Nat.zero_add,Nat.reduceAdd] at hf16_2);(try rw [show ((0 : Int)).toNat = 0 from rfl] at hx16_3);(try simp only [Nat.reduceMul,Nat.zero_mul,Nat.zero_add,Nat.reduceAdd] at hx16_3);(try rw [show ((0 : Int)).toNat = 0 from rfl] at hf16_3);(try simp only [Nat.reduceMul,Nat.zero_mul,Nat.zero_add,Nat.reduceAdd] at hf16_3);(try rw [show ((0 : Int)).toNat = 0 from rfl] at hx16_4);(try simp only [Nat.reduceMul,Nat.zero_mul,Nat.zero_add,Nat.reduceAdd] at hx16_4);(try rw [show ((0 : Int)).toNat = 0 from rfl] at hf16_4);(try simp only [Nat.reduceMul,Nat.zero_mul,Nat.zero_add,Nat.reduceAdd] at hf16_4);replace p16:=eq_true p16;replace q16:=eq_true q16;have HX20:=Aside0.mk (show Kd.R k46 46 w19 w.heap.size (fun _ => True) (.slice (some ⟨go16,0,none⟩) t417.length co16) t417 from (by (with_reducible repeat (first|apply Kd.R_alloc|apply Kd.R_drewN|apply Kd.R_drew));exact HO419.out));obtain ⟨ce20,hcl20,hM20,hcc20,hfr20⟩:=Kd.R_elem HX20.out z46 (0 : Int) (by omega) (by have h_ : (0 : Int) < ((t417.length : Int) : Int):=of_decide_eq_true (by first|(with_reducible assumption)|assumption);first|exact h_|(have e_:=(Kd.R_reads' HO419.out).1;omega)|simpa using h_);obtain rfl:=k46_openM hM20;have HP20:=Kd.R_seg HX20.out (0 : Int) (by omega) (by have h_ : (0 : Int) < ((t417.length : Int) : Int):=of_decide_eq_true (by first|(with_reducible assumption)|assumption);first|exact h_|(have e_:=(Kd.R_reads' HO419.out).1;omega)|simpa using h_) (seg:=[.string (⟨#[]⟩ : ByteArray)]) (j:=3) hcl20 hcc20 (show 4 ≤ 5 from by decide) (x':=(⟨(rd_T46 t417 0).f0,(rd_T46 t417 0).f1,(rd_T46 t417 0).f2,(⟨#[]⟩ : ByteArray),(rd_T46 t417 0).f4⟩ : S46)) (k46_mkM _ _ _ (⟨(rd_T46 t417 0).f0,(rd_T46 t417 0).f1,(rd_T46 t417 0).f2,(⟨#[]⟩ : ByteArray),(rd_T46 t417 0).f4⟩ : S46) ) (fun _ hk => hk);have hx20_3:=hcc20 3 _ rfl;(try simp only [show (k46).sz = 5 from rfl,Nat.mul_one,Nat.add_zero] at hx20_3);(try rw [show ((0 : Int)).toNat = 0 from rfl] at hx20_3);(try simp only [Nat.reduceMul,Nat.zero_mul,Nat.zero_add,Nat.reduceAdd] at hx20_3);have hf20_3:=hfr20 3;(try simp only [show (k46).sz = 5 from rfl,Nat.mul_one,Nat.add_zero] at hf20_3);(try rw [show ((0 : Int)).toNat = 0 from rfl] at hf20_3);(try simp only [Nat.reduceMul,Nat.zero_mul,Nat.zero_add,Nat.reduceAdd] at hf20_3);clear hcl20 hcc20 hfr20 hM20)|((with_reducible refine gate_store (t:=9) (p:=32) rfl ?_);refine store_event (t:=9) (p:=32) (v:=?vo_w21) (w1:=(w19.setCell ⟨go16,3,none⟩ (.string (⟨#[]⟩ : ByteArray)))) ?hg ?ho ?hn ?hr ?_;(case ho => rfl);(case hg => rfl);(case hn => rfl);(case hr => first|(go_simp;done)|(go_simp;rfl));intro w21 hw;have hg : w19.grownBy w21 (some go16):=(by rw [hw];exact HP20.2);have hp_ : Kd.R k46 46 w21 w.heap.size (fun _ => True) (.slice (some ⟨go16,0,none⟩) t417.length co16) y420:=(by rw [hw,Ny420.out];exact HP20.1);clear HP20;have n0_:=Aside0.mk (hp_);have n1_:=Aside0.mk ((by rw [hw];exact below_set (HB.out) GB16.out : Below w.heap.size w w21));clear HO419;clear HB;have HO419:=n0_;have HB:=n1_;clear n0_ n1_;clear hg hw hp_))
         go_ret
         exact ⟨_,by first|rfl|(simp [errW_none,errW_some] <;> rfl)|(simp [*,errW_none,errW_some] <;> rfl),by (with_reducible repeat (first|apply Kd.R_alloc|apply Kd.R_drewN|apply Kd.R_drew));exact HO419.out,by repeat (first|(with_reducible first|exact HB.out|apply below_alloc|apply pw_below_drewN|apply below_drew1)|exact HB.out)⟩
        ·rw [if_neg c15] at H
         exact absurd H (by simp)
       ·rw [if_neg c13] at H
        exact absurd H (by simp)
      ·rw [if_neg c12] at H
       exact absurd H (by simp)
     ·rw [if_neg c10] at H
      exact absurd H (by simp)
    ·rw [if_neg c9] at H
     exact absurd H (by simp)
 ·rw [if_neg c4] at H
  have c4b0 : (t411 == 0) = false:=beq_eq_false_iff_ne.mpr c4
  have c4b1 : (t411 != 0) = true:=bne_iff_ne.mpr c4
  obtain rfl:=Option.some.inj H
  go_enter Tryd.func28,Tryd.ntmps28
  go_wp2_with (first|((with_reducible refine gate_callee (f:=16) rfl ?_);refine goesL_ (some 7) rfl rfl Tryd.func16 (by kernel_rfl) rfl #[.slice A0 l0.length c0] rfl (by (try simp only [List.map_toArray,List.map_cons,List.map_nil]);first|done|rfl|(simp only [List.length_drop,List.length_take];rfl)) ?_;(with_reducible refine (jsontext_Check.calls k _ _ l0 t411 _ ?side3 ?side1 ?side2 A3.out).mono ?_);(case side1 => repeat (first|exact HR0.out|(with_reducible refine Kd.C_alloc ?_ _)|(with_reducible refine Kd.C_drewN ?_ _)|(with_reducible refine Kd.C_drew ?_)));(case side2 => exact HC0.out);(case side3 => first|exact HGU8.out|exact GlobU8.below HGU8.out (by repeat (first|(with_reducible first|exact HB.out|apply below_alloc|apply pw_below_drewN|apply below_drew1)|exact HB.out))|exact GlobU8.drawn HGU8.out (by repeat (first|exact Drawn0.refl _|apply Drawn0.step)));rintro e w22 ⟨rfl,hb⟩;refine ⟨_,rfl,?_⟩;have n0_:=Aside0.mk (below_step (by repeat (first|(with_reducible first|exact HB.out|apply below_alloc|apply pw_below_drewN|apply below_drew1)|exact HB.out)) hb);clear HB;have HB:=n0_;clear n0_;(try clear hb);(try clear hb2);(try clear hk);(try clear hi)))
  go_ret
  exact ⟨_,by first|rfl|(simp [errW_none,errW_some] <;> rfl)|(simp [*,errW_none,errW_some] <;> rfl),by first|exact Kd.R_nil _ _ _ _ _|exact Kd.N_nil _ _ _ _ _|exact Kd.V_nil _ _ _ _ _|exact Kd.Q_nil _ _ _ _ _|exact Kd.S_nil _ _ _ _ _,by repeat (first|(with_reducible first|exact HB.out|apply below_alloc|apply pw_below_drewN|apply below_drew1)|exact HB.out)⟩
end Go.Proofs.YtadfkeipcebmfaaDoor.X
namespace Go.Proofs.YtadfkeipcebmfaaDoor.X
open Go.RowKit Go.Proofs.YtadfkeipcebmfaaDoorW.PrintWords Go.Proofs.YtadfkeipcebmfaaDoorW.PrintLast Go.Proofs.YtadfkeipcebmfaaDoorW.PrintMore
attribute [local go_sem] max2_int min2_int max_two min_two max_three min_three max_four min_four
set_option linter.unusedVariables false
set_option linter.unusedSimpArgs false
def racewayref25_Sub.f (k : Nat) (l0 : List (S46)) (a1 : Int) : Option ((List (S46))):=(racewayref25_Check.f k l0).bind fun t421 => (if t421 = 0 then (if a1 < 0 then (some ([] : List (S46))) else (if a1 ≥ (l0.length : Int) then (some ([] : List (S46))) else ((some (([] : List (S46)) : List (S46))).bind fun y422 => (if 0 ≤ a1 then (if a1 < (l0.length : Int) then (if a1 ≤ (wrap64 (a1 + ((rd_T46 l0 a1).f1))) then (if (wrap64 (a1 + ((rd_T46 l0 a1).f1))) ≤ (l0.length : Int) then ((some ((l0.take ((wrap64 (a1 + ((rd_T46 l0 a1).f1))) : Int).toNat).drop (a1 : Int).toNat : List (S46))).bind fun y426 => (if y422.length + y426.length < 2513169434916 then ((some (y422 ++ y426 : List (S46))).bind fun y430 => (if 0 < (y430.length : Int) then (some (y430.set (0 : Int).toNat (⟨(rd_T46 y430 0).f0,(rd_T46 y430 0).f1,(rd_T46 y430 0).f2,(⟨#[]⟩ : ByteArray),(rd_T46 y430 0).f4⟩ : S46))) else (none))) else (none))) else (none)) else (none)) else (none)) else (none))))) else (some ([] : List (S46))))
set_option maxHeartbeats 8000000 in
set_option maxRecDepth 100000 in
theorem racewayref25_Sub.calls (k : Nat) (A0 : Option Addr) (c0 : Nat) (l0 : List (S46)) (a1 : Int) (r : List (S46)) (w : World) (hr0 : Kd.C k46 w A0 l0.length l0) (hc0 : l0.length ≤ c0) (h : racewayref25_Sub.f k l0 a1 = some r) :
  Calls Tryd.prog 29 #[.slice A0 l0.length c0,.int .i64 a1] w fun e w' => ∃ v0_ : Value,e = .returned (v0_) ∧ Kd.R k46 46 w' w.heap.size (fun _ => True) v0_ r ∧ Below w.heap.size w w':=by
 have HR0:=Aside0.mk hr0
 have HC0:=Aside0.mk hc0
 clear hr0 hc0
 have HB:=Aside0.mk (Below.refl w.heap.size w)
 have H : ((racewayref25_Check.f k l0).bind fun t421 => (if t421 = 0 then (if a1 < 0 then (some ([] : List (S46))) else (if a1 ≥ (l0.length : Int) then (some ([] : List (S46))) else ((some (([] : List (S46)) : List (S46))).bind fun y422 => (if 0 ≤ a1 then (if a1 < (l0.length : Int) then (if a1 ≤ (wrap64 (a1 + ((rd_T46 l0 a1).f1))) then (if (wrap64 (a1 + ((rd_T46 l0 a1).f1))) ≤ (l0.length : Int) then ((some ((l0.take ((wrap64 (a1 + ((rd_T46 l0 a1).f1))) : Int).toNat).drop (a1 : Int).toNat : List (S46))).bind fun y426 => (if y422.length + y426.length < 2513169434916 then ((some (y422 ++ y426 : List (S46))).bind fun y430 => (if 0 < (y430.length : Int) then (some (y430.set (0 : Int).toNat (⟨(rd_T46 y430 0).f0,(rd_T46 y430 0).f1,(rd_T46 y430 0).f2,(⟨#[]⟩ : ByteArray),(rd_T46 y430 0).f4⟩ : S46))) else (none))) else (none))) else (none)) else (none)) else (none)) else (none))))) else (some ([] : List (S46))))) = some r:=h
 clear h
 replace H:=Option.bind_eq_some_iff.mp H
 obtain ⟨t421,A30,H⟩:=H
 replace H : (if t421 = 0 then (if a1 < 0 then (some ([] : List (S46))) else (if a1 ≥ (l0.length : Int) then (some ([] : List (S46))) else ((some (([] : List (S46)) : List (S46))).bind fun y422 => (if 0 ≤ a1 then (if a1 < (l0.length : Int) then (if a1 ≤ (wrap64 (a1 + ((rd_T46 l0 a1).f1))) then (if (wrap64 (a1 + ((rd_T46 l0 a1).f1))) ≤ (l0.length : Int) then ((some ((l0.take ((wrap64 (a1 + ((rd_T46 l0 a1).f1))) : Int).toNat).drop (a1 : Int).toNat : List (S46))).bind fun y426 => (if y422.length + y426.length < 2513169434916 then ((some (y422 ++ y426 : List (S46))).bind fun y430 => (if 0 < (y430.length : Int) then (some (y430.set (0 : Int).toNat (⟨(rd_T46 y430 0).f0,(rd_T46 y430 0).f1,(rd_T46 y430 0).f2,(⟨#[]⟩ : ByteArray),(rd_T46 y430 0).f4⟩ : S46))) else (none))) else (none))) else (none)) else (none)) else (none)) else (none))))) else (some ([] : List (S46)))) = some r:=H
 have A3:=Aside0.mk A30
 clear A30
 by_cases c4 : t421 = 0
 ·rw [if_pos c4] at H
  have c4b0 : (t421 == 0) = true:=beq_iff_eq.mpr c4
  have c4b1 : (t421 != 0) = false:=bne_eq_false_iff_eq.mpr c4
  clear c4
  by_cases c5 : a1 < 0
  ·rw [if_pos c5] at H
   have c5b0 : decide (a1 < 0) = true:=decide_eq_true c5
   clear c5
   obtain rfl:=Option.some.inj H
   go_enter Tryd.func29,Tryd.ntmps29
   go_wp2_with (first|((with_reducible refine gate_callee (f:=21) rfl ?_);refine goesL_ (some 7) rfl rfl Tryd.func21 (by kernel_rfl) rfl #[.slice A0 l0.length c0] rfl (by (try simp only [List.map_toArray,List.map_cons,List.map_nil]);first|done|rfl|(simp only [List.length_drop,List.length_take];rfl)) ?_;(with_reducible refine (racewayref25_Check.calls k _ _ l0 t421 _ ?side1 ?side2 A3.out).mono ?_);(case side1 => repeat (first|exact HR0.out|(with_reducible refine Kd.C_alloc ?_ _)|(with_reducible refine Kd.C_drewN ?_ _)|(with_reducible refine Kd.C_drew ?_)));(case side2 => exact HC0.out);rintro e w6 ⟨rfl,hb⟩;refine ⟨_,rfl,?_⟩;have n0_:=Aside0.mk (below_step (by repeat (first|(with_reducible first|exact HB.out|apply below_alloc|apply pw_below_drewN|apply below_drew1)|exact HB.out)) hb);clear HB;have HB:=n0_;clear n0_;(try clear hb);(try clear hb2);(try clear hk);(try clear hi)))
   go_ret
   exact ⟨_,by first|rfl|(simp [errW_none,errW_some] <;> rfl)|(simp [*,errW_none,errW_some] <;> rfl),by first|exact Kd.R_nil _ _ _ _ _|exact Kd.N_nil _ _ _ _ _|exact Kd.V_nil _ _ _ _ _|exact Kd.Q_nil _ _ _ _ _|exact Kd.S_nil _ _ _ _ _,by repeat (first|(with_reducible first|exact HB.out|apply below_alloc|apply pw_below_drewN|apply below_drew1)|exact HB.out)⟩
  ·rw [if_neg c5] at H
   have c5b0 : decide (a1 < 0) = false:=decide_eq_false c5
   clear c5
   by_cases c7 : a1 ≥ (l0.length : Int)
   ·rw [if_pos c7] at H
    have c7b0 : decide ((l0.length : Int) ≤ a1) = true:=decide_eq_true c7
    clear c7
    obtain rfl:=Option.some.inj H
    go_enter Tryd.func29,Tryd.ntmps29
    go_wp2_with (first|((with_reducible refine gate_callee (f:=21) rfl ?_);refine goesL_ (some 7) rfl rfl Tryd.func21 (by kernel_rfl) rfl #[.slice A0 l0.length c0] rfl (by (try simp only [List.map_toArray,List.map_cons,List.map_nil]);first|done|rfl|(simp only [List.length_drop,List.length_take];rfl)) ?_;(with_reducible refine (racewayref25_Check.calls k _ _ l0 t421 _ ?side1 ?side2 A3.out).mono ?_);(case side1 => repeat (first|exact HR0.out|(with_reducible refine Kd.C_alloc ?_ _)|(with_reducible refine Kd.C_drewN ?_ _)|(with_reducible refine Kd.C_drew ?_)));(case side2 => exact HC0.out);rintro e w8 ⟨rfl,hb⟩;refine ⟨_,rfl,?_⟩;have n0_:=Aside0.mk (below_step (by repeat (first|(with_reducible first|exact HB.out|apply below_alloc|apply pw_below_drewN|apply below_drew1)|exact HB.out)) hb);clear HB;have HB:=n0_;clear n0_;(try clear hb);(try clear hb2);(try clear hk);(try clear hi)))
    go_ret
    exact ⟨_,by first|rfl|(simp [errW_none,errW_some] <;> rfl)|(simp [*,errW_none,errW_some] <;> rfl),by first|exact Kd.R_nil _ _ _ _ _|exact Kd.N_nil _ _ _ _ _|exact Kd.V_nil _ _ _ _ _|exact Kd.Q_nil _ _ _ _ _|exact Kd.S_nil _ _ _ _ _,by repeat (first|(with_reducible first|exact HB.out|apply below_alloc|apply pw_below_drewN|apply below_drew1)|exact HB.out)⟩
   ·rw [if_neg c7] at H
    have c7b0 : decide ((l0.length : Int) ≤ a1) = false:=decide_eq_false c7
    clear c7
    obtain ⟨y422,hy422⟩ : ∃ y_ : List (S46),y_ = (([] : List (S46))):=⟨_,rfl⟩
    replace H : (if 0 ≤ a1 then (if a1 < (l0.length : Int) then (if a1 ≤ (wrap64 (a1 + ((rd_T46 l0 a1).f1))) then (if (wrap64 (a1 + ((rd_T46 l0 a1).f1))) ≤ (l0.length : Int) then ((some ((l0.take ((wrap64 (a1 + ((rd_T46 l0 a1).f1))) : Int).toNat).drop (a1 : Int).toNat : List (S46))).bind fun y426 => (if y422.length + y426.length < 2513169434916 then ((some (y422 ++ y426 : List (S46))).bind fun y430 => (if 0 < (y430.length : Int) then (some (y430.set (0 : Int).toNat (⟨(rd_T46 y430 0).f0,(rd_T46 y430 0).f1,(rd_T46 y430 0).f2,(⟨#[]⟩ : ByteArray),(rd_T46 y430 0).f4⟩ : S46))) else (none))) else (none))) else (none)) else (none)) else (none)) else (none)) = some r:=by first|(rw [hy422];with_reducible exact H)|(have H2_:=(Option.bind_some _ _).symm.trans H;rw [hy422];with_reducible exact H2_)|(have H2_:=(Option.bind_some _ _).symm.trans H;with_reducible exact H2_)|with_reducible exact H|(rw [hy422];exact H)|exact H
    have Ny422:=Aside0.mk hy422
    clear hy422
    by_cases c9 : 0 ≤ a1
    ·rw [if_pos c9] at H
     have c9b0 : decide (0 ≤ a1) = true:=decide_eq_true c9
     clear c9
     by_cases c10 : a1 < (l0.length : Int)
     ·rw [if_pos c10] at H
      have c10b0 : decide (a1 < (l0.length : Int)) = true:=decide_eq_true c10
      clear c10
      have c11b0:=eq_true (of_decide_eq_true (by first|(with_reducible assumption)|assumption) : 0 ≤ a1)
      by_cases c12 : a1 ≤ (wrap64 (a1 + ((rd_T46 l0 a1).f1)))
      ·rw [if_pos c12] at H
       have c12b0:=eq_true c12
       have c12b1 : decide (a1 ≤ (wrap64 (a1 + ((rd_T46 l0 a1).f1)))) = true:=decide_eq_true c12
       by_cases c13 : (wrap64 (a1 + ((rd_T46 l0 a1).f1))) ≤ (l0.length : Int)
       ·rw [if_pos c13] at H
        have c13b0:=eq_true c13
        have c13b1 : decide ((wrap64 (a1 + ((rd_T46 l0 a1).f1))) ≤ (l0.length : Int)) = true:=decide_eq_true c13
        obtain ⟨y426,hy426⟩ : ∃ y_ : List (S46),y_ = ((l0.take ((wrap64 (a1 + ((rd_T46 l0 a1).f1))) : Int).toNat).drop (a1 : Int).toNat):=⟨_,rfl⟩
        replace H : (if y422.length + y426.length < 2513169434916 then ((some (y422 ++ y426 : List (S46))).bind fun y430 => (if 0 < (y430.length : Int) then (some (y430.set (0 : Int).toNat (⟨(rd_T46 y430 0).f0,(rd_T46 y430 0).f1,(rd_T46 y430 0).f2,(⟨#[]⟩ : ByteArray),(rd_T46 y430 0).f4⟩ : S46))) else (none))) else (none)) = some r:=by first|(rw [hy426];with_reducible exact H)|(have H2_:=(Option.bind_some _ _).symm.trans H;rw [hy426];with_reducible exact H2_)|(have H2_:=(Option.bind_some _ _).symm.trans H;with_reducible exact H2_)|with_reducible exact H|(rw [hy426];exact H)|exact H
        have Ny426:=Aside0.mk hy426
        clear hy426
        by_cases c14 : y422.length + y426.length < 2513169434916
        ·rw [if_pos c14] at H
         have LMc14:=Aside0.mk c14
         clear c14
         obtain ⟨y430,hy430⟩ : ∃ y_ : List (S46),y_ = (y422 ++ y426):=⟨_,rfl⟩
         replace H : (if 0 < (y430.length : Int) then (some (y430.set (0 : Int).toNat (⟨(rd_T46 y430 0).f0,(rd_T46 y430 0).f1,(rd_T46 y430 0).f2,(⟨#[]⟩ : ByteArray),(rd_T46 y430 0).f4⟩ : S46))) else (none)) = some r:=by first|(rw [hy430];with_reducible exact H)|(have H2_:=(Option.bind_some _ _).symm.trans H;rw [hy430];with_reducible exact H2_)|(have H2_:=(Option.bind_some _ _).symm.trans H;with_reducible exact H2_)|with_reducible exact H|(rw [hy430];exact H)|exact H
         have Ny430:=Aside0.mk hy430
         clear hy430
         by_cases c15 : 0 < (y430.length : Int)
         ·rw [if_pos c15] at H
          have c15b0 : decide (0 < (y430.length : Int)) = true:=decide_eq_true c15
          have c15b1 : decide (0 < y430.length) = true:=decide_eq_true (by omega)
          clear c15
          obtain ⟨y433,hy433⟩ : ∃ y_ : List (S46),y_ = (y430.set (0 : Int).toNat (⟨(rd_T46 y430 0).f0,(rd_T46 y430 0).f1,(rd_T46 y430 0).f2,(⟨#[]⟩ : ByteArray),(rd_T46 y430 0).f4⟩ : S46)):=⟨_,rfl⟩
          replace H : (some y433) = some r:=by first|(rw [hy433];with_reducible exact H)|(have H2_:=(Option.bind_some _ _).symm.trans H;rw [hy433];with_reducible exact H2_)|(have H2_:=(Option.bind_some _ _).symm.trans H;with_reducible exact H2_)|with_reducible exact H|(rw [hy433];exact H)|exact H
          have Ny433:=Aside0.mk hy433
          clear hy433
          obtain rfl:=Option.some.inj H
          go_enter Tryd.func29,Tryd.ntmps29
          go_wp2_with (first|((with_reducible refine gate_callee (f:=21) rfl ?_);refine goesL_ (some 7) rfl rfl Tryd.func21 (by kernel_rfl) rfl #[.slice A0 l0.length c0] rfl (by (try simp only [List.map_toArray,List.map_cons,List.map_nil]);first|done|rfl|(simp only [List.length_drop,List.length_take];rfl)) ?_;(with_reducible refine (racewayref25_Check.calls k _ _ l0 t421 _ ?side1 ?side2 A3.out).mono ?_);(case side1 => repeat (first|exact HR0.out|(with_reducible refine Kd.C_alloc ?_ _)|(with_reducible refine Kd.C_drewN ?_ _)|(with_reducible refine Kd.C_drew ?_)));(case side2 => exact HC0.out);rintro e w17 ⟨rfl,hb⟩;refine ⟨_,rfl,?_⟩;have n0_:=Aside0.mk (below_step (by repeat (first|(with_reducible first|exact HB.out|apply below_alloc|apply pw_below_drewN|apply below_drew1)|exact HB.out)) hb);clear HB;have HB:=n0_;clear n0_;(try clear hb);(try clear hb2);(try clear hk);(try clear hi))|((with_reducible refine gate_dst (N:=19) rfl ?_);(try (refine gate_guard (by rfl) ?_;dsimp only));refine Kd.R_lit k46 _ 46 ?hg (N:=19) ?hd (xs:=([] : List (S46))) (inner:=[]) (ok:=fun _ => True) (okp:=fun _ => True) ?hr ?hp (fun _ hk => hk) trivial (Below.refl _ _) (Nat.le_refl _) (by simp) ?_;(case hd => rfl);(case hg => rfl);(case hr => first|(go_simp;done)|(go_simp;rfl));(case hp => exact (Reps.none _ _));intro v423 w18 ho19 hb hg_ hnew_;clear hg_ hnew_;(first|rw [← Ny422.out] at ho19|(simp only [Int.reduceToNat] at ho19;rw [← Ny422.out] at ho19));have n0_:=Aside0.mk (Kd.R_lower ho19 (below_size (by repeat (first|(with_reducible first|exact HB.out|apply below_alloc|apply pw_below_drewN|apply below_drew1)|exact HB.out))));have n1_:=Aside0.mk (below_step (by repeat (first|(with_reducible first|exact HB.out|apply below_alloc|apply pw_below_drewN|apply below_drew1)|exact HB.out)) hb);clear HB;have HO424:=n0_;have HB:=n1_;clear n0_ n1_;clear hb ho19;have p425 : 0 ≤ (a1 : Int):=of_decide_eq_true (by first|(with_reducible assumption)|assumption);have q425 : a1 < (l0.length : Int):=of_decide_eq_true (by first|(with_reducible assumption)|assumption);obtain ⟨ad425,e425,hx425_0,hx425_1,hx425_2,hx425_3,hx425_4⟩:=at_T46 HR0.out a1 p425 q425;cases e425;replace hx425_0:=(HB.out.cell (World.block_lt_of_cell? w _ hx425_0)).trans hx425_0;replace hx425_1:=(HB.out.cell (World.block_lt_of_cell? w _ hx425_1)).trans hx425_1;replace hx425_2:=(HB.out.cell (World.block_lt_of_cell? w _ hx425_2)).trans hx425_2;replace hx425_3:=(HB.out.cell (World.block_lt_of_cell? w _ hx425_3)).trans hx425_3;replace hx425_4:=(HB.out.cell (World.block_lt_of_cell? w _ hx425_4)).trans hx425_4;replace p425:=eq_true p425;replace q425:=eq_true q425;have q20 : ((wrap64 (a1 + ((rd_T46 l0 a1).f1))) : Int) ≤ ((l0.length : Int) : Int):=of_decide_eq_true (by first|(with_reducible assumption)|assumption);obtain ⟨i020,hi020,_,hsz20,_⟩:=info_parts info46;have hroom20 : l0.length ≤ c0:=HC0.out;have hC20 : Kd.C k46 _ (some ad425) l0.length l0:=HR0.out;have ql20 : (a1 : Int) ≤ ((wrap64 (a1 + ((rd_T46 l0 a1).f1))) : Int):=of_decide_eq_true (by first|(with_reducible assumption)|assumption);have q020 : (0 : Int) ≤ (a1 : Int):=of_decide_eq_true (by first|(with_reducible assumption)|assumption);have hcut20:=cut_mid (P:=Tryd.prog) 22 46 .i64 .i64 Tryd.underlying22 hi020 5 hsz20 (some ad425) l0.length c0 a1 (wrap64 (a1 + ((rd_T46 l0 a1).f1))) q020 ql20 q20 hroom20;have hr20:=Kd.C_mid (lo:=(a1 : Int).toNat) (hi:=((wrap64 (a1 + ((rd_T46 l0 a1).f1))) : Int).toNat) (c:=c0) hC20 (by omega) (by omega) hroom20;obtain ⟨A20,hA20⟩ : ∃ A1,A1 = (if c0 = (a1 : Int).toNat then (some ad425) else ((some ad425) : Option Addr).map (·.add ((a1 : Int).toNat * 5))):=⟨_,rfl⟩;obtain ⟨c20,hc20⟩ : ∃ c1,c1 = c0 - (a1 : Int).toNat:=⟨_,rfl⟩;have hy20 : y426.length = ((wrap64 (a1 + ((rd_T46 l0 a1).f1))) : Int).toNat - (a1 : Int).toNat:=(by rw [Ny426.out,List.length_drop,List.length_take] <;> omega);rw [show ((l0).take ((wrap64 (a1 + ((rd_T46 l0 a1).f1))) : Int).toNat).drop (a1 : Int).toNat = y426 from Ny426.out.symm] at hr20;replace hr20 : Kd.C k46 _ A20 y426.length y426:=(by rw [hA20];exact hr20);rw [← hy20,← hA20,← hc20] at hcut20;have HR429:=Aside0.mk hr20;have HC429:=Aside0.mk (show y426.length ≤ c20 from by rw [hy20,hc20];exact Nat.sub_le_sub_right (Nat.le_trans (by omega) hroom20) _);clear hr20 hC20 hroom20 hi020 hsz20 hc20;have KY20:=Aside0.mk hy20;have KA20:=Aside0.mk hA20;clear hy20 hA20;replace q20:=eq_true q20)|((with_reducible refine gate_builtin (b:=.append) (xs:=#[.tmp 19,.tmp 29]) rfl ?_);(try (refine gate_guard (by rfl) ?_;dsimp only));at_builtin;refine Kd.R_append_rows k46 (w0:=w) w.heap.size rfl (.tmp 19) (.tmp 29) 22 46 (.agg #[(.int .i64 0),(.int .i64 0),(.int .i64 0),(.string ⟨#[]⟩),(.string ⟨#[]⟩)]) 56 rfl Tryd.underlying22 info46 rfl (by decide) (by omega) v423 y422 y426 _ _ _ (fun _ => True) (fun _ => False) rfl rfl ?aO ?aR (fun _ _ h => h) (fun _ h => h.elim) ?aF ?aB ?aS ?aL ?_;(case aR => repeat (first|exact (Kd.C_below HR429.out HB.out)|(with_reducible refine Kd.C_alloc ?_ _)|(with_reducible refine Kd.C_drewN ?_ _)|(with_reducible refine Kd.C_drew ?_)));(case aB => exact (by repeat (first|(with_reducible first|exact HB.out|apply below_alloc|apply pw_below_drewN|apply below_drew1)|exact HB.out)));(case aF => exact (fun _ _ => trivial));(case aO => exact (by (with_reducible repeat (first|apply Kd.R_alloc|apply Kd.R_drewN|apply Kd.R_drew));exact HO424.out));(case aS => exact (below_size (by repeat (first|(with_reducible first|exact HB.out|apply below_alloc|apply pw_below_drewN|apply below_drew1)|exact HB.out))));(case aL => have:=LMc14.out;omega);intro v431 w21 ho hb hg hat;rw [← Ny430.out] at ho;have n0_:=Aside0.mk (hb);have n1_:=Aside0.mk (ho);clear HB;clear HO424;have HB:=n0_;have HO432:=n1_;clear n0_ n1_;clear ho hb hg hat;have p16 : 0 ≤ (0 : Int):=(by omega);have q16 : (0 : Int) < ((y430.length : Int) : Int):=of_decide_eq_true (by first|(with_reducible assumption)|assumption);have qi16 : (0 < y430.length) = True:=eq_true (by omega);obtain ⟨go16,co16,eo16,gb16,gl16,cl16,HG16⟩:=Kd.R_form HO432.out (by omega);(first|cases eo16|(injection eo16 with ea_ en_ ec_;(first|subst ea_|(injection ea_ with ea_;subst ea_));subst ec_;clear en_));have GB16:=Aside0.mk gb16;have GG16:=Aside0.mk HG16;clear gb16 gl16 HG16;obtain ⟨ce16,hcl16,hM16,hcc16,hfr16⟩:=Kd.R_elem HO432.out z46 (0 : Int) p16 q16;obtain rfl:=k46_openM hM16;have hx16_0 : w21.cell? ⟨go16,(0 : Int).toNat * 5,none⟩ = some (.int .i64 ((rd_T46 y430 0).f0)):=hcc16 0 _ rfl;have hx16_1 : w21.cell? ⟨go16,(0 : Int).toNat * 5 + 1,none⟩ = some (.int .i64 ((rd_T46 y430 0).f1)):=hcc16 1 _ rfl;have hx16_2 : w21.cell? ⟨go16,(0 : Int).toNat * 5 + 2,none⟩ = some (.int .i64 ((rd_T46 y430 0).f2)):=hcc16 2 _ rfl;have hx16_3 : w21.cell? ⟨go16,(0 : Int).toNat * 5 + 3,none⟩ = some (.string ((rd_T46 y430 0).f3)):=hcc16 3 _ rfl;have hx16_4 : w21.cell? ⟨go16,(0 : Int).toNat * 5 + 4,none⟩ = some (.string ((rd_T46 y430 0).f4)):=hcc16 4 _ rfl;have hf16_0 : w21.frozen? ⟨go16,(0 : Int).toNat * 5,none⟩ = false:=hfr16 0;have hf16_1 : w21.frozen? ⟨go16,(0 : Int).toNat * 5 + 1,none⟩ = false:=hfr16 1;have hf16_2 : w21.frozen? ⟨go16,(0 : Int).toNat * 5 + 2,none⟩ = false:=hfr16 2;have hf16_3 : w21.frozen? ⟨go16,(0 : Int).toNat * 5 + 3,none⟩ = false:=hfr16 3;have hf16_4 : w21.frozen? ⟨go16,(0 : Int).toNat * 5 + 4,none⟩ = false:=hfr16 4;clear hcl16 hcc16 hfr16 hM16;(try rw [show ((0 : Int)).toNat = 0 from rfl] at hx16_0);(try simp only [Nat.reduceMul,Nat.zero_mul,Nat.zero_add,Nat.reduceAdd] at hx16_0);(try rw [show ((0 : Int)).toNat = 0 from rfl] at hf16_0);(try simp only [Nat.reduceMul,Nat.zero_mul,Nat.zero_add,Nat.reduceAdd] at hf16_0);(try rw [show ((0 : Int)).toNat = 0 from rfl] at hx16_1);(try simp only [Nat.reduceMul,Nat.zero_mul,Nat.zero_add,Nat.reduceAdd] at hx16_1);(try rw [show ((0 : Int)).toNat = 0 from rfl] at hf16_1);(try simp only [Nat.reduceMul,Nat.zero_mul,Nat.zero_add,Nat.reduceAdd] at hf16_1);(try rw [show ((0 : Int)).toNat = 0 from rfl] at hx16_2);(try simp only [Nat.reduceMul,Nat.zero_mul,Nat.zero_add,Nat.reduceAdd] at hx16_2);(try rw [show ((0 : Int)).toNat = 0 from rfl] at hf16_2);(try simp only [Nat.reduceMul,Nat.zero_mul,Nat.zero_add,Nat.reduceAdd] at hf16_2);(try rw [show ((0 : Int)).toNat = 0 from rfl] at hx16_3);(try simp only [Nat.reduceMul,Nat.zero_mul,Nat.zero_add,Nat.reduceAdd] at hx16_3);(try rw [show ((0 : Int)).toNat = 0 from rfl] at hf16_3);(try simp only [Nat.reduceMul,Nat.zero_mul,Nat.zero_add,Nat.reduceAdd] at hf16_3);(try rw [show ((0 : Int)).toNat = 0 from rfl] at hx16_4);(try simp only [Nat.reduceMul,Nat.zero_mul,Nat.zero_add,Nat.reduceAdd] at hx16_4);(try rw [show ((0 : Int)).toNat = 0 from rfl] at hf16_4);(try simp only [Nat.reduceMul,Nat.zero_mul,Nat.zero_add,Nat.reduceAdd] at hf16_4);replace p16:=eq_true p16;replace q16:=eq_true q16;have HX22:=Aside0.mk (show Kd.R k46 46 w21 w.heap.size (fun _ => True) (.slice (some ⟨go16,0,none⟩) y430.length co16) y430 from (by (with_reducible repeat (first|apply Kd.R_alloc|apply Kd.R_drewN|apply Kd.R_drew));exact HO432.out));obtain ⟨ce22,hcl22,hM22,hcc22,hfr22⟩:=Kd.R_elem HX22.out z46 (0 : Int) (by omega) (by have h_ : (0 : Int) < ((y430.length : Int) : Int):=of_decide_eq_true (by first|(with_reducible assumption)|assumption);first|exact h_|(have e_:=(Kd.R_reads' HO432.out).1;omega)|simpa using h_);obtain rfl:=k46_openM hM22;have HP22:=Kd.R_seg HX22.out (0 : Int) (by omega) (by have h_ : (0 : Int) < ((y430.length : Int) : Int):=of_decide_eq_true (by first|(with_reducible assumption)|assumption);first|exact h_|(have e_:=(Kd.R_reads' HO432.out).1;omega)|simpa using h_) (seg:=[.string (⟨#[]⟩ : ByteArray)]) (j:=3) hcl22 hcc22 (show 4 ≤ 5 from by decide) (x':=(⟨(rd_T46 y430 0).f0,(rd_T46 y430 0).f1,(rd_T46 y430 0).f2,(⟨#[]⟩ : ByteArray),(rd_T46 y430 0).f4⟩ : S46)) (k46_mkM _ _ _ (⟨(rd_T46 y430 0).f0,(rd_T46 y430 0).f1,(rd_T46 y430 0).f2,(⟨#[]⟩ : ByteArray),(rd_T46 y430 0).f4⟩ : S46) ) (fun _ hk => hk);have hx22_3:=hcc22 3 _ rfl;(try simp only [show (k46).sz = 5 from rfl,Nat.mul_one,Nat.add_zero] at hx22_3);(try rw [show ((0 : Int)).toNat = 0 from rfl] at hx22_3);(try simp only [Nat.reduceMul,Nat.zero_mul,Nat.zero_add,Nat.reduceAdd] at hx22_3);have hf22_3:=hfr22 3;(try simp only [show (k46).sz = 5 from rfl,Nat.mul_one,Nat.add_zero] at hf22_3);(try rw [show ((0 : Int)).toNat = 0 from rfl] at hf22_3);(try simp only [Nat.reduceMul,Nat.zero_mul,Nat.zero_add,Nat.reduceAdd] at hf22_3);clear hcl22 hcc22 hfr22 hM22)|((with_reducible refine gate_store (t:=9) (p:=33) rfl ?_);refine store_event (t:=9) (p:=33) (v:=?vo_w23) (w1:=(w21.setCell ⟨go16,3,none⟩ (.string (⟨#[]⟩ : ByteArray)))) ?hg ?ho ?hn ?hr ?_;(case ho => rfl);(case hg => rfl);(case hn => rfl);(case hr => first|(go_simp;done)|(go_simp;rfl));intro w23 hw;have hg : w21.grownBy w23 (some go16):=(by rw [hw];exact HP22.2);have hp_ : Kd.R k46 46 w23 w.heap.size (fun _ => True) (.slice (some ⟨go16,0,none⟩) y430.length co16) y433:=(by rw [hw,Ny433.out];exact HP22.1);clear HP22;have n0_:=Aside0.mk (hp_);have n1_:=Aside0.mk ((by rw [hw];exact below_set (HB.out) GB16.out : Below w.heap.size w w23));clear HO432;clear HB;have HO432:=n0_;have HB:=n1_;clear n0_ n1_;clear hg hw hp_))
          go_ret
          exact ⟨_,by first|rfl|(simp [errW_none,errW_some] <;> rfl)|(simp [*,errW_none,errW_some] <;> rfl),by (with_reducible repeat (first|apply Kd.R_alloc|apply Kd.R_drewN|apply Kd.R_drew));exact HO432.out,by repeat (first|(with_reducible first|exact HB.out|apply below_alloc|apply pw_below_drewN|apply below_drew1)|exact HB.out)⟩
         ·rw [if_neg c15] at H
          exact absurd H (by simp)
        ·rw [if_neg c14] at H
         exact absurd H (by simp)
       ·rw [if_neg c13] at H
        exact absurd H (by simp)
      ·rw [if_neg c12] at H
       exact absurd H (by simp)
     ·rw [if_neg c10] at H
      exact absurd H (by simp)
    ·rw [if_neg c9] at H
     exact absurd H (by simp)
 ·rw [if_neg c4] at H
  have c4b0 : (t421 == 0) = false:=beq_eq_false_iff_ne.mpr c4
  have c4b1 : (t421 != 0) = true:=bne_iff_ne.mpr c4
  obtain rfl:=Option.some.inj H
  go_enter Tryd.func29,Tryd.ntmps29
  go_wp2_with (first|((with_reducible refine gate_callee (f:=21) rfl ?_);refine goesL_ (some 7) rfl rfl Tryd.func21 (by kernel_rfl) rfl #[.slice A0 l0.length c0] rfl (by (try simp only [List.map_toArray,List.map_cons,List.map_nil]);first|done|rfl|(simp only [List.length_drop,List.length_take];rfl)) ?_;(with_reducible refine (racewayref25_Check.calls k _ _ l0 t421 _ ?side1 ?side2 A3.out).mono ?_);(case side1 => repeat (first|exact HR0.out|(with_reducible refine Kd.C_alloc ?_ _)|(with_reducible refine Kd.C_drewN ?_ _)|(with_reducible refine Kd.C_drew ?_)));(case side2 => exact HC0.out);rintro e w24 ⟨rfl,hb⟩;refine ⟨_,rfl,?_⟩;have n0_:=Aside0.mk (below_step (by repeat (first|(with_reducible first|exact HB.out|apply below_alloc|apply pw_below_drewN|apply below_drew1)|exact HB.out)) hb);clear HB;have HB:=n0_;clear n0_;(try clear hb);(try clear hb2);(try clear hk);(try clear hi)))
  go_ret
  exact ⟨_,by first|rfl|(simp [errW_none,errW_some] <;> rfl)|(simp [*,errW_none,errW_some] <;> rfl),by first|exact Kd.R_nil _ _ _ _ _|exact Kd.N_nil _ _ _ _ _|exact Kd.V_nil _ _ _ _ _|exact Kd.Q_nil _ _ _ _ _|exact Kd.S_nil _ _ _ _ _,by repeat (first|(with_reducible first|exact HB.out|apply below_alloc|apply pw_below_drewN|apply below_drew1)|exact HB.out)⟩
end Go.Proofs.YtadfkeipcebmfaaDoor.X
