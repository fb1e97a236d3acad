/-
  What the claim's law rests on, part 2 of 8: printed walks, externals, plain lemmas; conditions: none of its own.
-/
import Derived.ArgAppend
import Derived.Below
import Derived.BigQuiet
import Derived.Deep.AppendLies
import Derived.Deep.CutBlock
import Derived.Deep.DeepCutAuto
import Derived.Deep.Draws
import Derived.Deep.LoopGhost
import Derived.Deep.OwnRows
import Derived.Deep.QuietTactic
import Derived.Deep.RegionHeld3
import Derived.KernelRfl
import Derived.Laws.BitsLemmas
import Derived.Laws.BytesArg
import Derived.Laws.IdiomCopy
import Derived.Laws.MakeOwn
import Derived.Laws.OwnMore
import Derived.Laws.Rows
import Derived.Laws.Slices
import Derived.Lib.AppendStr
import Derived.Lib.ConvBytes
import Derived.Maps.AppendAt
import Derived.OrdersHeld
import Derived.OwnWalk
import Derived.RowKit
import Derived.RowKit3
import Derived.Tactics
import Derived.Test.YtadfkeipcebmfaaDoorProg
import Derived.WalkKit
import Derived.WideLaws
import Derived.Test.YtadfkeipcebmfaaDoorCp1
namespace Go.Proofs.YtadfkeipcebmfaaDoor.X
open Go.RowKit Go.Proofs.YtadfkeipcebmfaaDoorW.PrintWords Go.Proofs.YtadfkeipcebmfaaDoorW.PrintLast Go.Proofs.YtadfkeipcebmfaaDoorW.PrintMore
attribute [local go_sem] max2_int min2_int max_two min_two max_three min_three max_four min_four
set_option linter.unusedVariables false
set_option linter.unusedSimpArgs false
def errW : Option Int → Value
 | none => .nilIface
 | some c => .iface 0 (.int .i64 c)
theorem errW_none : errW none = .nilIface:=rfl
theorem errW_some (c : Int) : errW (some c) = .iface 0 (.int .i64 c):=rfl
theorem info5 : (Tryd.prog.info? 5).map (fun i => (i.zero,i.size,i.bytes)) = some (some (.int .u8 0),1,1):=by kernel_rfl
theorem info46 : (Tryd.prog.info? 46).map (fun i => (i.zero,i.size,i.bytes)) = some (some (.agg #[(.int .i64 0),(.int .i64 0),(.int .i64 0),(.string ⟨#[]⟩),(.string ⟨#[]⟩)]),5,56):=by kernel_rfl
structure S46 where
 f0 : Int
 f1 : Int
 f2 : Int
 f3 : ByteArray
 f4 : ByteArray
def z46 : S46:=⟨(0 : Int),(0 : Int),(0 : Int),(⟨#[]⟩ : ByteArray),(⟨#[]⟩ : ByteArray)⟩
def k46 : Kd S46:=Kd.iso (Kd.pair (Kd.int .i64) (Kd.pair (Kd.int .i64) (Kd.pair (Kd.int .i64) (Kd.pair Kd.string Kd.string)))) (fun x : S46 => (x.f0,x.f1,x.f2,x.f3,x.f4))
theorem k46_open {w : World} {x : S46} {cs : List Value} (h : k46.K w x cs) : cs = [.int .i64 x.f0,.int .i64 x.f1,.int .i64 x.f2,.string x.f3,.string x.f4]:=by
 obtain ⟨_,_,rfl,rfl,⟨_,_,rfl,rfl,⟨_,_,rfl,rfl,⟨_,_,rfl,rfl,rfl⟩⟩⟩⟩:=h
 exact rfl
theorem k46_openM {w : World} {base : Nat} {ok : Nat → Prop} {x : S46} {cs : List Value} (h : k46.M w base ok x cs) : cs = [.int .i64 x.f0,.int .i64 x.f1,.int .i64 x.f2,.string x.f3,.string x.f4]:=by
 obtain ⟨_,_,rfl,rfl,⟨_,_,rfl,rfl,⟨_,_,rfl,rfl,⟨_,_,rfl,rfl,rfl⟩⟩⟩⟩:=h
 exact rfl
theorem k46_mkM (w : World) (base : Nat) (ok : Nat → Prop) (x : S46)  : k46.M w base ok x [.int .i64 x.f0,.int .i64 x.f1,.int .i64 x.f2,.string x.f3,.string x.f4]:=⟨[.int .i64 x.f0],[.int .i64 x.f1,.int .i64 x.f2,.string x.f3,.string x.f4],rfl,rfl,⟨[.int .i64 x.f1],[.int .i64 x.f2,.string x.f3,.string x.f4],rfl,rfl,⟨[.int .i64 x.f2],[.string x.f3,.string x.f4],rfl,rfl,⟨[.string x.f3],[.string x.f4],rfl,rfl,rfl⟩⟩⟩⟩
def rd_T46 (xs : List S46) (i : Int) : S46:=xs.getD i.toNat z46
theorem at_T46 {w : World} {A : Option Addr} {n : Nat} {xs : List S46} (h : Kd.C k46 w A n xs) (i : Int) (h0 : 0 ≤ i) (h1 : i < n) : ∃ ad ,A = some ad ∧ w.cell? (ad.add (i.toNat * 5)) = some (.int .i64 (rd_T46 xs i).f0) ∧ w.cell? ⟨(ad.add (i.toNat * 5)).block,(ad.add (i.toNat * 5)).off + 1,none⟩ = some (.int .i64 (rd_T46 xs i).f1) ∧ w.cell? ⟨(ad.add (i.toNat * 5)).block,(ad.add (i.toNat * 5)).off + 2,none⟩ = some (.int .i64 (rd_T46 xs i).f2) ∧ w.cell? ⟨(ad.add (i.toNat * 5)).block,(ad.add (i.toNat * 5)).off + 3,none⟩ = some (.string (rd_T46 xs i).f3) ∧ w.cell? ⟨(ad.add (i.toNat * 5)).block,(ad.add (i.toNat * 5)).off + 4,none⟩ = some (.string (rd_T46 xs i).f4):=by
 obtain ⟨ad,c,e,_,hK,hc0⟩:=Kd.C_get h z46 i h0 h1
 have hc : ∀ j u,c[j]? = some u → w.cell? (ad.add (i.toNat * 5 + j)) = some u:=hc0
 obtain rfl:=k46_open hK
 exact ⟨ad,e,hc 0 _ rfl,by rw [← add_field _ _ 1 (by omega)];exact hc 1 _ rfl,by rw [← add_field _ _ 2 (by omega)];exact hc 2 _ rfl,by rw [← add_field _ _ 3 (by omega)];exact hc 3 _ rfl,by rw [← add_field _ _ 4 (by omega)];exact hc 4 _ rfl⟩
end Go.Proofs.YtadfkeipcebmfaaDoor.X
namespace Go.Proofs.YtadfkeipcebmfaaDoor.X
open Go.RowKit Go.Proofs.YtadfkeipcebmfaaDoorW.PrintWords Go.Proofs.YtadfkeipcebmfaaDoorW.PrintLast Go.Proofs.YtadfkeipcebmfaaDoorW.PrintMore
attribute [local go_sem] max2_int min2_int max_two min_two max_three min_three max_four min_four
set_option linter.unusedVariables false
set_option linter.unusedSimpArgs false
def racewayref25_blanks.l0 : Nat → ByteArray → Int → Option (Int)
 | 0,_,_ => none
 | k + 1,x0,x1 => if x1 < (x0.size : Int) then (if 0 ≤ x1 then (if (bt x0 x1) = 32 then (racewayref25_blanks.l0 k x0 (wrap64 (x1 + 1))) else (if (bt x0 x1) = 9 then (racewayref25_blanks.l0 k x0 (wrap64 (x1 + 1))) else (if (bt x0 x1) = 10 then (racewayref25_blanks.l0 k x0 (wrap64 (x1 + 1))) else (if (bt x0 x1) = 13 then (racewayref25_blanks.l0 k x0 (wrap64 (x1 + 1))) else (some x1))))) else (none)) else (some x1)
def racewayref25_blanks.f (k : Nat) (a0 : ByteArray) (a1 : Int) : Option (Int):=racewayref25_blanks.l0 k a0 a1
set_option maxHeartbeats 8000000 in
set_option maxRecDepth 100000 in
theorem racewayref25_blanks.calls (k : Nat) (a0 : ByteArray) (a1 : Int) (r : Int) (w : World) (h : racewayref25_blanks.f k a0 a1 = some r) :
  Calls Tryd.prog 36 #[.string a0,.int .i64 a1] w fun e w' => e = .returned (.int .i64 r) ∧ Drawn0 w w':=by
 have H : (racewayref25_blanks.l0 k a0 a1) = some r:=h
 clear h
 have H':=Aside0.mk H
 clear H
 go_enter Tryd.func36,Tryd.ntmps36
 go_wp2
 go_loopg [1] k (fun kq v1 w' => ∃ (x1_1 : Int),v1 = .int .i64 x1_1 ∧ Aside0 (racewayref25_blanks.l0 kq a0 x1_1 = some r) ∧ Aside0 (kq ≤ k) ∧ Drawn0 w w')
 case atStart => exact ⟨(a1),(by first|rfl|(simp;done)|(simp;decide +kernel)|(simp [*];done)),(by first|exact H'|(subst_vars;exact H')),⟨Nat.le_refl _⟩,by repeat (first|exact Drawn0.refl _|apply Drawn0.step)⟩
 case round =>
  clear H'
  try clear p2
  obtain ⟨x1_1,rfl,HA,HK1,⟨m1,rfl⟩⟩:=hrel
  cases gk with
  | zero => exact absurd HA.out (by simp [racewayref25_blanks.l0])
  | succ k1 =>
   have H:=HA.out
   clear HA
   simp only [racewayref25_blanks.l0] at H
   by_cases c3 : x1_1 < (a0.size : Int)
   ·rw [if_pos c3] at H
    have c3b0 : decide (x1_1 < (a0.size : Int)) = true:=decide_eq_true c3
    clear c3
    by_cases c4 : 0 ≤ x1_1
    ·rw [if_pos c4] at H
     have c4b0 : decide (0 ≤ x1_1) = true:=decide_eq_true c4
     clear c4
     by_cases c6 : (bt a0 x1_1) = 32
     ·rw [if_pos c6] at H
      have c6b0 : ((bt a0 x1_1) == 32) = true:=beq_iff_eq.mpr c6
      have c6b1 : ((bt a0 x1_1) != 32) = false:=bne_eq_false_iff_eq.mpr c6
      clear c6
      have H':=Aside0.mk H
      clear H
      have p5 : 0 ≤ (x1_1 : Int):=of_decide_eq_true (by first|(with_reducible assumption)|assumption)
      have q5 : x1_1 < (a0.size : Int):=of_decide_eq_true (by first|(with_reducible assumption)|assumption)
      have hx5:=bt_at a0 x1_1
      replace p5:=eq_true p5
      replace q5:=eq_true q5
      go_wp2
      go_roundg k1
      case measure => have:=HK1.out;omega
      case rel => exact ⟨(wrap64 (x1_1 + 1)),(by first|rfl|(simp;done)|(simp;decide +kernel)|(simp [*];done)),(by first|exact H'|(subst_vars;exact H')),⟨by have:=HK1.out;omega⟩,by repeat (first|exact Drawn0.refl _|apply Drawn0.step)⟩
     ·rw [if_neg c6] at H
      have c6b0 : ((bt a0 x1_1) == 32) = false:=beq_eq_false_iff_ne.mpr c6
      have c6b1 : ((bt a0 x1_1) != 32) = true:=bne_iff_ne.mpr c6
      by_cases c8 : (bt a0 x1_1) = 9
      ·rw [if_pos c8] at H
       have c8b0 : ((bt a0 x1_1) == 9) = true:=beq_iff_eq.mpr c8
       have c8b1 : ((bt a0 x1_1) != 9) = false:=bne_eq_false_iff_eq.mpr c8
       clear c8
       have H':=Aside0.mk H
       clear H
       have p5 : 0 ≤ (x1_1 : Int):=of_decide_eq_true (by first|(with_reducible assumption)|assumption)
       have q5 : x1_1 < (a0.size : Int):=of_decide_eq_true (by first|(with_reducible assumption)|assumption)
       have hx5:=bt_at a0 x1_1
       replace p5:=eq_true p5
       replace q5:=eq_true q5
       have p7 : 0 ≤ (x1_1 : Int):=of_decide_eq_true (by first|(with_reducible assumption)|assumption)
       have q7 : x1_1 < (a0.size : Int):=of_decide_eq_true (by first|(with_reducible assumption)|assumption)
       have hx7:=bt_at a0 x1_1
       replace p7:=eq_true p7
       replace q7:=eq_true q7
       go_wp2
       go_roundg k1
       case measure => have:=HK1.out;omega
       case rel => exact ⟨(wrap64 (x1_1 + 1)),(by first|rfl|(simp;done)|(simp;decide +kernel)|(simp [*];done)),(by first|exact H'|(subst_vars;exact H')),⟨by have:=HK1.out;omega⟩,by repeat (first|exact Drawn0.refl _|apply Drawn0.step)⟩
      ·rw [if_neg c8] at H
       have c8b0 : ((bt a0 x1_1) == 9) = false:=beq_eq_false_iff_ne.mpr c8
       have c8b1 : ((bt a0 x1_1) != 9) = true:=bne_iff_ne.mpr c8
       by_cases c10 : (bt a0 x1_1) = 10
       ·rw [if_pos c10] at H
        have c10b0 : ((bt a0 x1_1) == 10) = true:=beq_iff_eq.mpr c10
        have c10b1 : ((bt a0 x1_1) != 10) = false:=bne_eq_false_iff_eq.mpr c10
        clear c10
        have H':=Aside0.mk H
        clear H
        have p5 : 0 ≤ (x1_1 : Int):=of_decide_eq_true (by first|(with_reducible assumption)|assumption)
        have q5 : x1_1 < (a0.size : Int):=of_decide_eq_true (by first|(with_reducible assumption)|assumption)
        have hx5:=bt_at a0 x1_1
        replace p5:=eq_true p5
        replace q5:=eq_true q5
        have p7 : 0 ≤ (x1_1 : Int):=of_decide_eq_true (by first|(with_reducible assumption)|assumption)
        have q7 : x1_1 < (a0.size : Int):=of_decide_eq_true (by first|(with_reducible assumption)|assumption)
        have hx7:=bt_at a0 x1_1
        replace p7:=eq_true p7
        replace q7:=eq_true q7
        have p9 : 0 ≤ (x1_1 : Int):=of_decide_eq_true (by first|(with_reducible assumption)|assumption)
        have q9 : x1_1 < (a0.size : Int):=of_decide_eq_true (by first|(with_reducible assumption)|assumption)
        have hx9:=bt_at a0 x1_1
        replace p9:=eq_true p9
        replace q9:=eq_true q9
        go_wp2
        go_roundg k1
        case measure => have:=HK1.out;omega
        case rel => exact ⟨(wrap64 (x1_1 + 1)),(by first|rfl|(simp;done)|(simp;decide +kernel)|(simp [*];done)),(by first|exact H'|(subst_vars;exact H')),⟨by have:=HK1.out;omega⟩,by repeat (first|exact Drawn0.refl _|apply Drawn0.step)⟩
       ·rw [if_neg c10] at H
        have c10b0 : ((bt a0 x1_1) == 10) = false:=beq_eq_false_iff_ne.mpr c10
        have c10b1 : ((bt a0 x1_1) != 10) = true:=bne_iff_ne.mpr c10
        by_cases c12 : (bt a0 x1_1) = 13
        ·rw [if_pos c12] at H
         have c12b0 : ((bt a0 x1_1) == 13) = true:=beq_iff_eq.mpr c12
         have c12b1 : ((bt a0 x1_1) != 13) = false:=bne_eq_false_iff_eq.mpr c12
         clear c12
         have H':=Aside0.mk H
         clear H
         have p5 : 0 ≤ (x1_1 : Int):=of_decide_eq_true (by first|(with_reducible assumption)|assumption)
         have q5 : x1_1 < (a0.size : Int):=of_decide_eq_true (by first|(with_reducible assumption)|assumption)
         have hx5:=bt_at a0 x1_1
         replace p5:=eq_true p5
         replace q5:=eq_true q5
         have p7 : 0 ≤ (x1_1 : Int):=of_decide_eq_true (by first|(with_reducible assumption)|assumption)
         have q7 : x1_1 < (a0.size : Int):=of_decide_eq_true (by first|(with_reducible assumption)|assumption)
         have hx7:=bt_at a0 x1_1
         replace p7:=eq_true p7
         replace q7:=eq_true q7
         have p9 : 0 ≤ (x1_1 : Int):=of_decide_eq_true (by first|(with_reducible assumption)|assumption)
         have q9 : x1_1 < (a0.size : Int):=of_decide_eq_true (by first|(with_reducible assumption)|assumption)
         have hx9:=bt_at a0 x1_1
         replace p9:=eq_true p9
         replace q9:=eq_true q9
         have p11 : 0 ≤ (x1_1 : Int):=of_decide_eq_true (by first|(with_reducible assumption)|assumption)
         have q11 : x1_1 < (a0.size : Int):=of_decide_eq_true (by first|(with_reducible assumption)|assumption)
         have hx11:=bt_at a0 x1_1
         replace p11:=eq_true p11
         replace q11:=eq_true q11
         go_wp2
         go_roundg k1
         case measure => have:=HK1.out;omega
         case rel => exact ⟨(wrap64 (x1_1 + 1)),(by first|rfl|(simp;done)|(simp;decide +kernel)|(simp [*];done)),(by first|exact H'|(subst_vars;exact H')),⟨by have:=HK1.out;omega⟩,by repeat (first|exact Drawn0.refl _|apply Drawn0.step)⟩
        ·rw [if_neg c12] at H
         have c12b0 : ((bt a0 x1_1) == 13) = false:=beq_eq_false_iff_ne.mpr c12
         have c12b1 : ((bt a0 x1_1) != 13) = true:=bne_iff_ne.mpr c12
         obtain rfl:=Option.some.inj H
         have p5 : 0 ≤ (x1_1 : Int):=of_decide_eq_true (by first|(with_reducible assumption)|assumption)
         have q5 : x1_1 < (a0.size : Int):=of_decide_eq_true (by first|(with_reducible assumption)|assumption)
         have hx5:=bt_at a0 x1_1
         replace p5:=eq_true p5
         replace q5:=eq_true q5
         have p7 : 0 ≤ (x1_1 : Int):=of_decide_eq_true (by first|(with_reducible assumption)|assumption)
         have q7 : x1_1 < (a0.size : Int):=of_decide_eq_true (by first|(with_reducible assumption)|assumption)
         have hx7:=bt_at a0 x1_1
         replace p7:=eq_true p7
         replace q7:=eq_true q7
         have p9 : 0 ≤ (x1_1 : Int):=of_decide_eq_true (by first|(with_reducible assumption)|assumption)
         have q9 : x1_1 < (a0.size : Int):=of_decide_eq_true (by first|(with_reducible assumption)|assumption)
         have hx9:=bt_at a0 x1_1
         replace p9:=eq_true p9
         replace q9:=eq_true q9
         have p11 : 0 ≤ (x1_1 : Int):=of_decide_eq_true (by first|(with_reducible assumption)|assumption)
         have q11 : x1_1 < (a0.size : Int):=of_decide_eq_true (by first|(with_reducible assumption)|assumption)
         have hx11:=bt_at a0 x1_1
         replace p11:=eq_true p11
         replace q11:=eq_true q11
         go_wp2
         go_ret
         exact ⟨by first|rfl|(simp;done)|(simp;decide +kernel)|(simp [*];done),by repeat (first|exact Drawn0.refl _|apply Drawn0.step)⟩
    ·rw [if_neg c4] at H
     exact absurd H (by simp)
   ·rw [if_neg c3] at H
    have c3b0 : decide (x1_1 < (a0.size : Int)) = false:=decide_eq_false c3
    clear c3
    obtain rfl:=Option.some.inj H
    go_wp2
    go_ret
    exact ⟨by first|rfl|(simp;done)|(simp;decide +kernel)|(simp [*];done),by repeat (first|exact Drawn0.refl _|apply Drawn0.step)⟩
end Go.Proofs.YtadfkeipcebmfaaDoor.X
namespace Go.Proofs.YtadfkeipcebmfaaDoor.X
open Go.RowKit Go.Proofs.YtadfkeipcebmfaaDoorW.PrintWords Go.Proofs.YtadfkeipcebmfaaDoorW.PrintLast Go.Proofs.YtadfkeipcebmfaaDoorW.PrintMore
attribute [local go_sem] max2_int min2_int max_two min_two max_three min_three max_four min_four
set_option linter.unusedVariables false
set_option linter.unusedSimpArgs false
def racewayref25_fail.f (a0 : Int) : Option (Int × Int × (List (S46)) × ByteArray):=some (a0,5,([] : List (S46)),(⟨#[]⟩ : ByteArray))
set_option maxHeartbeats 8000000 in
set_option maxRecDepth 100000 in
theorem racewayref25_fail.calls (a0 : Int) (r1 : Int) (r2 : Int) (r3 : List (S46)) (r4 : ByteArray) (w : World) (h : racewayref25_fail.f a0 = some (r1,r2,r3,r4)) :
  Calls Tryd.prog 54 #[.int .i64 a0] w fun e w' => ∃ v2_ : Value,e = .returned (.agg #[.int .i64 r1,.int .i64 r2,v2_,.string r4]) ∧ Kd.R k46 46 w' w.heap.size (fun _ => True) v2_ r3 ∧ Below w.heap.size w w':=by
 have hu67:=Tryd.underlying67
 have HB:=Aside0.mk (Below.refl w.heap.size w)
 have H : (some (a0,5,([] : List (S46)),(⟨#[]⟩ : ByteArray))) = some (r1,r2,r3,r4):=h
 clear h
 simp only [Option.some.injEq,Prod.mk.injEq] at H
 obtain ⟨rfl,rfl,rfl,rfl⟩:=H
 go_enter Tryd.func54,Tryd.ntmps54
 go_wp2_with (first|((with_reducible refine gate_dst (N:=2) rfl ?_);refine box_event ?hg (N:=2) ?hd (cs:=#[.int .i64 0,.int .i64 0,.slice none 0 0,.string (⟨#[]⟩ : ByteArray)]) (t:=67) ?hr ?_;(case hd => rfl);(case hg => rfl);(case hr => first|(go_simp;done)|(go_simp;rfl));intro gb259 hg w2 hbox hb;have n0_:=Aside0.mk (below_step (by repeat (first|(with_reducible first|exact HB.out|apply below_alloc|apply pw_below_drewN|apply below_drew1)|exact HB.out)) hb);have n1_:=Aside0.mk (hbox);have n2_:=Aside0.mk ((by rw [hg];exact (below_size (by repeat (first|(with_reducible first|exact HB.out|apply below_alloc|apply pw_below_drewN|apply below_drew1)|exact HB.out))) : w.heap.size ≤ gb259));have n3_:=Aside0.mk ((by rw [hg];exact (below_size (by repeat (first|(with_reducible first|exact HB.out|apply below_alloc|apply pw_below_drewN|apply below_drew1)|exact HB.out))) : w.heap.size ≤ gb259));clear HB;have HB:=n0_;have BK259:=n1_;have GW259:=n2_;have GE259:=n3_;clear n0_ n1_ n2_ n3_;clear hb hbox hg;have hcz3_0 : w2.cell? ⟨gb259,0,none⟩ = some (.int .i64 0):=(blk_cell BK259.out 0).trans rfl;have hcz3_1 : w2.cell? ⟨gb259,1,none⟩ = some (.int .i64 0):=(blk_cell BK259.out 1).trans rfl;have hcz3_2 : w2.cell? ⟨gb259,2,none⟩ = some (.slice none 0 0):=(blk_cell BK259.out 2).trans rfl;have hcz3_3 : w2.cell? ⟨gb259,3,none⟩ = some (.string (⟨#[]⟩ : ByteArray)):=(blk_cell BK259.out 3).trans rfl;have hfz3_0:=blk_frozen BK259.out 0;have hfz3_1:=blk_frozen BK259.out 1;have hfz3_2:=blk_frozen BK259.out 2;have hfz3_3:=blk_frozen BK259.out 3))
 refine bodyPost_ret (results_cell_row rfl _ _ gb259 67 #[.int .i64 a0,.int .i64 5,.slice none 0 0,.string (⟨#[]⟩ : ByteArray)] (0,0) _ rfl (by (with_reducible repeat (first|refine blk_drewN ?_ _|refine blk_drew ?_|refine blk_alloc ?_ _));refine blk_put (cs:=#[.int .i64 a0,.int .i64 5,.slice none 0 0,.string (⟨#[]⟩ : ByteArray)]) ?_ 3 _ rfl;(with_reducible repeat (first|refine blk_drewN ?_ _|refine blk_drew ?_|refine blk_alloc ?_ _));refine blk_put (cs:=#[.int .i64 a0,.int .i64 5,.slice none 0 0,.string (⟨#[]⟩ : ByteArray)]) ?_ 2 _ rfl;(with_reducible repeat (first|refine blk_drewN ?_ _|refine blk_drew ?_|refine blk_alloc ?_ _));refine blk_put (cs:=#[.int .i64 a0,.int .i64 0,.slice none 0 0,.string (⟨#[]⟩ : ByteArray)]) ?_ 1 _ rfl;(with_reducible repeat (first|refine blk_drewN ?_ _|refine blk_drew ?_|refine blk_alloc ?_ _));refine blk_put (cs:=#[.int .i64 0,.int .i64 0,.slice none 0 0,.string (⟨#[]⟩ : ByteArray)]) ?_ 0 _ rfl;(with_reducible repeat (first|refine blk_drewN ?_ _|refine blk_drew ?_|refine blk_alloc ?_ _));exact BK259.out) Tryd.underlying67 rfl (by kernel_rfl)) rfl ?_
 exact ⟨_,by first|rfl|(simp [errW_none,errW_some] <;> rfl)|(simp [*,errW_none,errW_some] <;> rfl),by first|exact Kd.R_nil _ _ _ _ _|exact Kd.N_nil _ _ _ _ _|exact Kd.V_nil _ _ _ _ _|exact Kd.Q_nil _ _ _ _ _|exact Kd.S_nil _ _ _ _ _,by repeat (first|(with_reducible first|exact HB.out|apply below_alloc|apply pw_below_drewN|apply below_drew1|refine below_set ?_ GE259.out)|exact HB.out)⟩
end Go.Proofs.YtadfkeipcebmfaaDoor.X
namespace Go.Proofs.YtadfkeipcebmfaaDoor.X
open Go.RowKit Go.Proofs.YtadfkeipcebmfaaDoorW.PrintWords Go.Proofs.YtadfkeipcebmfaaDoorW.PrintLast Go.Proofs.YtadfkeipcebmfaaDoorW.PrintMore
attribute [local go_sem] max2_int min2_int max_two min_two max_three min_three max_four min_four
set_option linter.unusedVariables false
set_option linter.unusedSimpArgs false
def racewayref25_digit.f (a0 : ByteArray) (a1 : Int) : Option (Bool):=if a1 < (a0.size : Int) then (if 0 ≤ a1 then (if (bt a0 a1) ≥ 48 then (some (decide ((bt a0 a1) ≤ 57))) else (some false)) else (none)) else (some false)
set_option maxHeartbeats 8000000 in
set_option maxRecDepth 100000 in
theorem racewayref25_digit.calls (a0 : ByteArray) (a1 : Int) (r : Bool) (w : World) (h : racewayref25_digit.f a0 a1 = some r) :
  Calls Tryd.prog 55 #[.string a0,.int .i64 a1] w fun e w' => e = .returned (.bool r) ∧ Drawn0 w w':=by
 have H : (if a1 < (a0.size : Int) then (if 0 ≤ a1 then (if (bt a0 a1) ≥ 48 then (some (decide ((bt a0 a1) ≤ 57))) else (some false)) else (none)) else (some false)) = some r:=h
 clear h
 by_cases c3 : a1 < (a0.size : Int)
 ·rw [if_pos c3] at H
  have c3b0 : decide (a1 < (a0.size : Int)) = true:=decide_eq_true c3
  clear c3
  by_cases c4 : 0 ≤ a1
  ·rw [if_pos c4] at H
   have c4b0 : decide (0 ≤ a1) = true:=decide_eq_true c4
   clear c4
   by_cases c6 : (bt a0 a1) ≥ 48
   ·rw [if_pos c6] at H
    have c6b0 : decide (48 ≤ (bt a0 a1)) = true:=decide_eq_true c6
    clear c6
    obtain rfl:=Option.some.inj H
    have p5 : 0 ≤ (a1 : Int):=of_decide_eq_true (by first|(with_reducible assumption)|assumption)
    have q5 : a1 < (a0.size : Int):=of_decide_eq_true (by first|(with_reducible assumption)|assumption)
    have hx5:=bt_at a0 a1
    replace p5:=eq_true p5
    replace q5:=eq_true q5
    have p7 : 0 ≤ (a1 : Int):=of_decide_eq_true (by first|(with_reducible assumption)|assumption)
    have q7 : a1 < (a0.size : Int):=of_decide_eq_true (by first|(with_reducible assumption)|assumption)
    have hx7:=bt_at a0 a1
    replace p7:=eq_true p7
    replace q7:=eq_true q7
    go_enter Tryd.func55,Tryd.ntmps55
    go_wp2
    go_ret
    exact ⟨by first|rfl|(simp;done)|(simp;decide +kernel)|(simp [*];done),by repeat (first|exact Drawn0.refl _|apply Drawn0.step)⟩
   ·rw [if_neg c6] at H
    have c6b0 : decide (48 ≤ (bt a0 a1)) = false:=decide_eq_false c6
    clear c6
    obtain rfl:=Option.some.inj H
    have p5 : 0 ≤ (a1 : Int):=of_decide_eq_true (by first|(with_reducible assumption)|assumption)
    have q5 : a1 < (a0.size : Int):=of_decide_eq_true (by first|(with_reducible assumption)|assumption)
    have hx5:=bt_at a0 a1
    replace p5:=eq_true p5
    replace q5:=eq_true q5
    go_enter Tryd.func55,Tryd.ntmps55
    go_wp2
    go_ret
    exact ⟨by first|rfl|(simp;done)|(simp;decide +kernel)|(simp [*];done),by repeat (first|exact Drawn0.refl _|apply Drawn0.step)⟩
  ·rw [if_neg c4] at H
   exact absurd H (by simp)
 ·rw [if_neg c3] at H
  have c3b0 : decide (a1 < (a0.size : Int)) = false:=decide_eq_false c3
  clear c3
  obtain rfl:=Option.some.inj H
  go_enter Tryd.func55,Tryd.ntmps55
  go_wp2
  go_ret
  exact ⟨by first|rfl|(simp;done)|(simp;decide +kernel)|(simp [*];done),by repeat (first|exact Drawn0.refl _|apply Drawn0.step)⟩
end Go.Proofs.YtadfkeipcebmfaaDoor.X
namespace Go.Proofs.YtadfkeipcebmfaaDoor.X
open Go.RowKit Go.Proofs.YtadfkeipcebmfaaDoorW.PrintWords Go.Proofs.YtadfkeipcebmfaaDoorW.PrintLast Go.Proofs.YtadfkeipcebmfaaDoorW.PrintMore
attribute [local go_sem] max2_int min2_int max_two min_two max_three min_three max_four min_four
set_option linter.unusedVariables false
set_option linter.unusedSimpArgs false
def racewayref25_is.f (a0 : ByteArray) (a1 : Int) (a2 : Int) : Option (Bool):=if a1 < (a0.size : Int) then (if 0 ≤ a1 then (some ((bt a0 a1) == a2)) else (none)) else (some false)
set_option maxHeartbeats 8000000 in
set_option maxRecDepth 100000 in
theorem racewayref25_is.calls (a0 : ByteArray) (a1 : Int) (a2 : Int) (r : Bool) (w : World) (h : racewayref25_is.f a0 a1 a2 = some r) :
  Calls Tryd.prog 70 #[.string a0,.int .i64 a1,.int .u8 a2] w fun e w' => e = .returned (.bool r) ∧ Drawn0 w w':=by
 have H : (if a1 < (a0.size : Int) then (if 0 ≤ a1 then (some ((bt a0 a1) == a2)) else (none)) else (some false)) = some r:=h
 clear h
 by_cases c4 : a1 < (a0.size : Int)
 ·rw [if_pos c4] at H
  have c4b0 : decide (a1 < (a0.size : Int)) = true:=decide_eq_true c4
  clear c4
  by_cases c5 : 0 ≤ a1
  ·rw [if_pos c5] at H
   have c5b0 : decide (0 ≤ a1) = true:=decide_eq_true c5
   clear c5
   obtain rfl:=Option.some.inj H
   have p6 : 0 ≤ (a1 : Int):=of_decide_eq_true (by first|(with_reducible assumption)|assumption)
   have q6 : a1 < (a0.size : Int):=of_decide_eq_true (by first|(with_reducible assumption)|assumption)
   have hx6:=bt_at a0 a1
   replace p6:=eq_true p6
   replace q6:=eq_true q6
   go_enter Tryd.func70,Tryd.ntmps70
   go_wp2
   go_ret
   exact ⟨by first|rfl|(simp;done)|(simp;decide +kernel)|(simp [*];done),by repeat (first|exact Drawn0.refl _|apply Drawn0.step)⟩
  ·rw [if_neg c5] at H
   exact absurd H (by simp)
 ·rw [if_neg c4] at H
  have c4b0 : decide (a1 < (a0.size : Int)) = false:=decide_eq_false c4
  clear c4
  obtain rfl:=Option.some.inj H
  go_enter Tryd.func70,Tryd.ntmps70
  go_wp2
  go_ret
  exact ⟨by first|rfl|(simp;done)|(simp;decide +kernel)|(simp [*];done),by repeat (first|exact Drawn0.refl _|apply Drawn0.step)⟩
end Go.Proofs.YtadfkeipcebmfaaDoor.X
namespace Go.Proofs.YtadfkeipcebmfaaDoor.X
open Go.RowKit Go.Proofs.YtadfkeipcebmfaaDoorW.PrintWords Go.Proofs.YtadfkeipcebmfaaDoorW.PrintLast Go.Proofs.YtadfkeipcebmfaaDoorW.PrintMore
attribute [local go_sem] max2_int min2_int max_two min_two max_three min_three max_four min_four
set_option linter.unusedVariables false
set_option linter.unusedSimpArgs false
mutual
def racewayref25_number.j0 : Nat → ByteArray → Int → Int → Option (Int × Int × (List (S46)) × ByteArray)
 | 0,_,_,_ => none
 | k + 1,x0,x1,x5 => (racewayref25_digit.f x0 x1).bind fun t262 => (if t262 = true then (if 0 ≤ x1 then (if x1 < (x0.size : Int) then (if (bt x0 x1) = 48 then (racewayref25_number.j2 k x0 (wrap64 (x1 + 1)) x5) else (racewayref25_number.l0 k x0 x1 x5)) else (none)) else (none)) else ((racewayref25_fail.f x1).bind fun bt263 => (some (bt263.1,bt263.2.1,bt263.2.2.1,bt263.2.2.2))))
def racewayref25_number.j2 : Nat → ByteArray → Int → Int → Option (Int × Int × (List (S46)) × ByteArray)
 | 0,_,_,_ => none
 | k + 1,x0,x1,x5 => (racewayref25_is.f x0 x1 46).bind fun t270 => (if t270 = true then ((racewayref25_digit.f x0 (wrap64 (x1 + 1))).bind fun t271 => (if t271 = true then (racewayref25_number.l1 k x0 (wrap64 (x1 + 1)) x5) else ((racewayref25_fail.f (wrap64 (x1 + 1))).bind fun bt272 => (some (bt272.1,bt272.2.1,bt272.2.2.1,bt272.2.2.2))))) else (racewayref25_number.j4 k x0 x1 x5))
def racewayref25_number.j4 : Nat → ByteArray → Int → Int → Option (Int × Int × (List (S46)) × ByteArray)
 | 0,_,_,_ => none
 | k + 1,x0,x1,x5 => (racewayref25_is.f x0 x1 101).bind fun t279 => (if t279 = true then (racewayref25_number.j5 k x0 x1 x5 true) else ((racewayref25_is.f x0 x1 69).bind fun t280 => (racewayref25_number.j5 k x0 x1 x5 t280)))
def racewayref25_number.j5 : Nat → ByteArray → Int → Int → Bool → Option (Int × Int × (List (S46)) × ByteArray)
 | 0,_,_,_,_ => none
 | k + 1,x0,x1,x5,x52 => if x52 = true then ((racewayref25_is.f x0 (wrap64 (x1 + 1)) 43).bind fun t281 => (if t281 = true then (racewayref25_number.j6 k x0 (wrap64 (x1 + 1)) x5 true) else ((racewayref25_is.f x0 (wrap64 (x1 + 1)) 45).bind fun t282 => (racewayref25_number.j6 k x0 (wrap64 (x1 + 1)) x5 t282)))) else (if 0 ≤ x5 then (if x5 ≤ x1 then (if x1 ≤ (x0.size : Int) then (some (x1,0,([] : List (S46)),x0.extract (x5 : Int).toNat (x1 : Int).toNat)) else (none)) else (none)) else (none))
def racewayref25_number.j6 : Nat → ByteArray → Int → Int → Bool → Option (Int × Int × (List (S46)) × ByteArray)
 | 0,_,_,_,_ => none
 | k + 1,x0,x1,x5,x62 => if x62 = true then (racewayref25_number.j7 k x0 (wrap64 (x1 + 1)) x5) else (racewayref25_number.j7 k x0 x1 x5)
def racewayref25_number.j7 : Nat → ByteArray → Int → Int → Option (Int × Int × (List (S46)) × ByteArray)
 | 0,_,_,_ => none
 | k + 1,x0,x1,x5 => (racewayref25_digit.f x0 x1).bind fun t283 => (if t283 = true then (racewayref25_number.l2 k x0 x1 x5) else ((racewayref25_fail.f x1).bind fun bt284 => (some (bt284.1,bt284.2.1,bt284.2.2.1,bt284.2.2.2))))
def racewayref25_number.l2 : Nat → ByteArray → Int → Int → Option (Int × Int × (List (S46)) × ByteArray)
 | 0,_,_,_ => none
 | k + 1,x0,x1,x5 => (racewayref25_digit.f x0 x1).bind fun t290 => (if t290 = true then (racewayref25_number.l2 k x0 (wrap64 (x1 + 1)) x5) else (if 0 ≤ x5 then (if x5 ≤ x1 then (if x1 ≤ (x0.size : Int) then (some (x1,0,([] : List (S46)),x0.extract (x5 : Int).toNat (x1 : Int).toNat)) else (none)) else (none)) else (none)))
def racewayref25_number.l1 : Nat → ByteArray → Int → Int → Option (Int × Int × (List (S46)) × ByteArray)
 | 0,_,_,_ => none
 | k + 1,x0,x1,x5 => (racewayref25_digit.f x0 x1).bind fun t278 => (if t278 = true then (racewayref25_number.l1 k x0 (wrap64 (x1 + 1)) x5) else (racewayref25_number.j4 k x0 x1 x5))
def racewayref25_number.l0 : Nat → ByteArray → Int → Int → Option (Int × Int × (List (S46)) × ByteArray)
 | 0,_,_,_ => none
 | k + 1,x0,x1,x5 => (racewayref25_digit.f x0 x1).bind fun t269 => (if t269 = true then (racewayref25_number.l0 k x0 (wrap64 (x1 + 1)) x5) else (racewayref25_number.j2 k x0 x1 x5))
end
def racewayref25_number.f (k : Nat) (a0 : ByteArray) (a1 : Int) : Option (Int × Int × (List (S46)) × ByteArray):=(racewayref25_is.f a0 a1 45).bind fun t261 => (if t261 = true then (racewayref25_number.j0 k a0 (wrap64 (a1 + 1)) a1) else (racewayref25_number.j0 k a0 a1 a1))
set_option maxHeartbeats 8000000 in
set_option maxRecDepth 100000 in
theorem racewayref25_number.calls (k : Nat) (a0 : ByteArray) (a1 : Int) (r1 : Int) (r2 : Int) (r3 : List (S46)) (r4 : ByteArray) (w : World) (h : racewayref25_number.f k a0 a1 = some (r1,r2,r3,r4)) :
  Calls Tryd.prog 59 #[.string a0,.int .i64 a1] w fun e w' => ∃ v2_ : Value,e = .returned (.agg #[.int .i64 r1,.int .i64 r2,v2_,.string r4]) ∧ Kd.R k46 46 w' w.heap.size (fun _ => True) v2_ r3 ∧ Below w.heap.size w w':=by
 have hu67:=Tryd.underlying67
 have HB:=Aside0.mk (Below.refl w.heap.size w)
 have H : ((racewayref25_is.f a0 a1 45).bind fun t261 => (if t261 = true then (racewayref25_number.j0 k a0 (wrap64 (a1 + 1)) a1) else (racewayref25_number.j0 k a0 a1 a1))) = some (r1,r2,r3,r4):=h
 clear h
 replace H:=Option.bind_eq_some_iff.mp H
 obtain ⟨t261,A30,H⟩:=H
 replace H : (if t261 = true then (racewayref25_number.j0 k a0 (wrap64 (a1 + 1)) a1) else (racewayref25_number.j0 k a0 a1 a1)) = some (r1,r2,r3,r4):=H
 have A3:=Aside0.mk A30
 clear A30
 have HC4:=Aside0.mk H
 clear H
 go_enter Tryd.func59,Tryd.ntmps59
 go_upto_if 9 with (first|((with_reducible refine gate_dst (N:=4) rfl ?_);refine box_event ?hg (N:=4) ?hd (cs:=#[.int .i64 0,.int .i64 0,.slice none 0 0,.string (⟨#[]⟩ : ByteArray)]) (t:=67) ?hr ?_;(case hd => rfl);(case hg => rfl);(case hr => first|(go_simp;done)|(go_simp;rfl));intro gb260 hg w5 hbox hb;have n0_:=Aside0.mk (below_step (by repeat (first|(with_reducible first|exact HB.out|apply below_alloc|apply pw_below_drewN|apply below_drew1)|exact HB.out)) hb);have n1_:=Aside0.mk (hbox);have n2_:=Aside0.mk ((by rw [hg];exact (below_size (by repeat (first|(with_reducible first|exact HB.out|apply below_alloc|apply pw_below_drewN|apply below_drew1)|exact HB.out))) : w.heap.size ≤ gb260));have n3_:=Aside0.mk ((by rw [hg];exact (below_size (by repeat (first|(with_reducible first|exact HB.out|apply below_alloc|apply pw_below_drewN|apply below_drew1)|exact HB.out))) : w.heap.size ≤ gb260));clear HB;have HB:=n0_;have BK260:=n1_;have GW260:=n2_;have GE260:=n3_;clear n0_ n1_ n2_ n3_;clear hb hbox hg)|((with_reducible refine gate_callee (f:=70) rfl ?_);refine goesL_ (some 9) rfl rfl Tryd.func70 (by kernel_rfl) rfl #[.string a0,.int .i64 a1,.int .u8 45] rfl (by (try simp only [List.map_toArray,List.map_cons,List.map_nil]);first|done|rfl|(simp only [List.length_drop,List.length_take];rfl)) ?_;(with_reducible refine (racewayref25_is.calls a0 a1 45 t261 _ A3.out).mono ?_);rintro e w' ⟨rfl,⟨nd,rfl⟩⟩;refine ⟨_,rfl,?_⟩))
 (try simp only [Act.put,List.setIfInBounds_toArray,List.set_cons_zero,List.set_cons_succ])
 go_cut [1] (fun v1 wc => ∃ (kq : Nat) (x1_3 : Int),v1 = .int .i64 x1_3 ∧ Aside0 (racewayref25_number.j0 kq a0 x1_3 a1 = some (r1,r2,r3,r4)) ∧ Aside0 (kq ≤ k) ∧ Aside0 (wc.heap[gb260]? = some (.cells #[.int .i64 0,.int .i64 0,(.slice none 0 0),.string (⟨#[]⟩ : ByteArray)] 67 (0,0))) ∧ Aside0 (Below w.heap.size w wc))
 case first =>
  have H:=HC4.out
  clear HC4
  by_cases c6 : t261 = true
  ·subst c6
   have H1 : (racewayref25_number.j0 k a0 (wrap64 (a1 + 1)) a1) = some (r1,r2,r3,r4):=by rw [if_pos rfl] at H;exact H
   clear H
   have H:=H1
   clear H1
   have H':=Aside0.mk H
   clear H
   go_wp2
   go_meet
   case rel => exact ⟨_,(wrap64 (a1 + 1)),(by first|rfl|(simp;done)|(simp;decide +kernel)|(simp [*];done)),(by first|exact H'|(subst_vars;exact H')),⟨by first|omega|exact Nat.le_refl _⟩,⟨by (with_reducible repeat (first|refine blk_drewN ?_ _|refine blk_drew ?_|refine blk_alloc ?_ _));exact BK260.out⟩,⟨by repeat (first|(with_reducible first|exact HB.out|apply below_alloc|apply pw_below_drewN|apply below_drew1|refine below_set ?_ GE260.out)|exact HB.out)⟩⟩
  ·replace c6:=Bool.eq_false_iff.mpr c6
   subst c6
   have H1 : (racewayref25_number.j0 k a0 a1 a1) = some (r1,r2,r3,r4):=by rw [if_neg (show ¬ (false = true) by decide)] at H;exact H
   clear H
   have H:=H1
   clear H1
   have H':=Aside0.mk H
   clear H
   go_wp2
   go_meet
   case rel => exact ⟨_,(a1),(by first|rfl|(simp;done)|(simp;decide +kernel)|(simp [*];done)),(by first|exact H'|(subst_vars;exact H')),⟨by first|omega|exact Nat.le_refl _⟩,⟨by (with_reducible repeat (first|refine blk_drewN ?_ _|refine blk_drew ?_|refine blk_alloc ?_ _));exact BK260.out⟩,⟨by repeat (first|(with_reducible first|exact HB.out|apply below_alloc|apply pw_below_drewN|apply below_drew1|refine below_set ?_ GE260.out)|exact HB.out)⟩⟩
 case rest =>
  clear HC4
  try clear p2
  try clear c5
  try clear c6
  try clear p6
  obtain ⟨kq,x1_3,rfl,HA,HJ3,BK260,HB⟩:=hcut
  cases kq with
  | zero => exact absurd HA.out (by simp [racewayref25_number.j0])
  | succ kj3 =>
   have H:=HA.out
   clear HA
   simp only [racewayref25_number.j0] at H
   replace H:=Option.bind_eq_some_iff.mp H
   obtain ⟨t262,A70,H⟩:=H
   replace H : (if t262 = true then (if 0 ≤ x1_3 then (if x1_3 < (a0.size : Int) then (if (bt a0 x1_3) = 48 then (racewayref25_number.j2 kj3 a0 (wrap64 (x1_3 + 1)) a1) else (racewayref25_number.l0 kj3 a0 x1_3 a1)) else (none)) else (none)) else ((racewayref25_fail.f x1_3).bind fun bt263 => (some (bt263.1,bt263.2.1,bt263.2.2.1,bt263.2.2.2)))) = some (r1,r2,r3,r4):=H
   have A7:=Aside0.mk A70
   clear A70
   by_cases c8 : t262 = true
   ·subst c8
    have H1 : (if 0 ≤ x1_3 then (if x1_3 < (a0.size : Int) then (if (bt a0 x1_3) = 48 then (racewayref25_number.j2 kj3 a0 (wrap64 (x1_3 + 1)) a1) else (racewayref25_number.l0 kj3 a0 x1_3 a1)) else (none)) else (none)) = some (r1,r2,r3,r4):=by rw [if_pos rfl] at H;exact H
    clear H
    have H:=H1
    clear H1
    by_cases c9 : 0 ≤ x1_3
    ·rw [if_pos c9] at H
     have c9b0 : decide (0 ≤ x1_3) = true:=decide_eq_true c9
     clear c9
     by_cases c10 : x1_3 < (a0.size : Int)
     ·rw [if_pos c10] at H
      have c10b0 : decide (x1_3 < (a0.size : Int)) = true:=decide_eq_true c10
      clear c10
      have HC12:=Aside0.mk H
      clear H
      go_upto_if 21 with (first|((with_reducible refine gate_callee (f:=55) rfl ?_);refine goesL_ (some 14) rfl rfl Tryd.func55 (by kernel_rfl) rfl #[.string a0,.int .i64 x1_3] rfl (by (try simp only [List.map_toArray,List.map_cons,List.map_nil]);first|done|rfl|(simp only [List.length_drop,List.length_take];rfl)) ?_;(with_reducible refine (racewayref25_digit.calls a0 x1_3 true _ A7.out).mono ?_);rintro e w' ⟨rfl,⟨nd,rfl⟩⟩;refine ⟨_,rfl,?_⟩;have p11 : 0 ≤ (x1_3 : Int):=of_decide_eq_true (by first|(with_reducible assumption)|assumption);have q11 : x1_3 < (a0.size : Int):=of_decide_eq_true (by first|(with_reducible assumption)|assumption);have hx11:=bt_at a0 x1_3;replace p11:=eq_true p11;replace q11:=eq_true q11))
      (try simp only [Act.put,List.setIfInBounds_toArray,List.set_cons_zero,List.set_cons_succ])
      go_cut [1] (fun v1 wc => ∃ (kq : Nat) (x1_11 : Int),v1 = .int .i64 x1_11 ∧ Aside0 (racewayref25_number.j2 kq a0 x1_11 a1 = some (r1,r2,r3,r4)) ∧ Aside0 (kq ≤ kj3) ∧ Aside0 (wc.heap[gb260]? = some (.cells #[.int .i64 0,.int .i64 0,(.slice none 0 0),.string (⟨#[]⟩ : ByteArray)] 67 (0,0))) ∧ Aside0 (Below w.heap.size w wc))
      case first =>
       have H:=HC12.out
       clear HC12
       by_cases c13 : (bt a0 x1_3) = 48
       ·rw [if_pos c13] at H
        have c13b0 : ((bt a0 x1_3) == 48) = true:=beq_iff_eq.mpr c13
        have c13b1 : ((bt a0 x1_3) != 48) = false:=bne_eq_false_iff_eq.mpr c13
        clear c13
        (first|rw [c13b0]|(simp only [i64_w,i32_w];rw [c13b0])|skip)
        have H':=Aside0.mk H
        clear H
        go_wp2
        go_meet
        case rel => exact ⟨_,(wrap64 (x1_3 + 1)),(by first|rfl|(simp;done)|(simp;decide +kernel)|(simp [*];done)),(by first|exact H'|(subst_vars;exact H')),⟨by have:=HJ3.out;first|omega|exact Nat.le_refl _⟩,⟨by (with_reducible repeat (first|refine blk_drewN ?_ _|refine blk_drew ?_|refine blk_alloc ?_ _));exact BK260.out⟩,⟨by repeat (first|(with_reducible first|exact HB.out|apply below_alloc|apply pw_below_drewN|apply below_drew1|refine below_set ?_ GE260.out)|exact HB.out)⟩⟩
       ·rw [if_neg c13] at H
        have c13b0 : ((bt a0 x1_3) == 48) = false:=beq_eq_false_iff_ne.mpr c13
        have c13b1 : ((bt a0 x1_3) != 48) = true:=bne_iff_ne.mpr c13
        (first|rw [c13b0]|(simp only [i64_w,i32_w];rw [c13b0])|skip)
        have H':=Aside0.mk H
        clear H
        go_wp2
        go_loopg [1] kj3 (fun kq v1 w' => ∃ (x1_2 : Int),v1 = .int .i64 x1_2 ∧ Aside0 (racewayref25_number.l0 kq a0 x1_2 a1 = some (r1,r2,r3,r4)) ∧ Aside0 (kq ≤ kj3) ∧ Aside0 (w'.heap[gb260]? = some (.cells #[.int .i64 0,.int .i64 0,(.slice none 0 0),.string (⟨#[]⟩ : ByteArray)] 67 (0,0))) ∧ Aside0 (Below w.heap.size w w'))
        case atStart => exact ⟨(x1_3),(by first|rfl|(simp;done)|(simp;decide +kernel)|(simp [*];done)),(by first|exact H'|(subst_vars;exact H')),⟨Nat.le_refl _⟩,⟨by (with_reducible repeat (first|refine blk_drewN ?_ _|refine blk_drew ?_|refine blk_alloc ?_ _));exact BK260.out⟩,⟨by repeat (first|(with_reducible first|exact HB.out|apply below_alloc|apply pw_below_drewN|apply below_drew1|refine below_set ?_ GE260.out)|exact HB.out)⟩⟩
        case round =>
         clear H'
         try clear c1
         try clear p1
         try clear q1
         try clear hx1
         try clear p2
         try clear c5
         try clear c6
         try clear p6
         try clear c7
         try clear c8
         try clear c9
         try clear c9b0
         try clear c10
         try clear c10b0
         try clear p11
         try clear q11
         try clear hx11
         try clear c13
         try clear c13b0
         try clear c13b1
         try clear p11
         try clear p2
         try clear p6
         try clear q11
         obtain ⟨x1_2,rfl,HA,HK2,BK260,HB⟩:=hrel
         cases gk with
         | zero => exact absurd HA.out (by simp [racewayref25_number.l0])
         | succ k2 =>
          have H:=HA.out
          clear HA
          simp only [racewayref25_number.l0] at H
          replace H:=Option.bind_eq_some_iff.mp H
          obtain ⟨t269,A140,H⟩:=H
          replace H : (if t269 = true then (racewayref25_number.l0 k2 a0 (wrap64 (x1_2 + 1)) a1) else (racewayref25_number.j2 k2 a0 x1_2 a1)) = some (r1,r2,r3,r4):=H
          have A14:=Aside0.mk A140
          clear A140
          by_cases c15 : t269 = true
          ·subst c15
           have H1 : (racewayref25_number.l0 k2 a0 (wrap64 (x1_2 + 1)) a1) = some (r1,r2,r3,r4):=by rw [if_pos rfl] at H;exact H
           clear H
           have H:=H1
           clear H1
           have H':=Aside0.mk H
           clear H
           go_wp2_with (first|((with_reducible refine gate_callee (f:=55) rfl ?_);refine goesL_ (some 26) rfl rfl Tryd.func55 (by kernel_rfl) rfl #[.string a0,.int .i64 x1_2] rfl (by (try simp only [List.map_toArray,List.map_cons,List.map_nil]);first|done|rfl|(simp only [List.length_drop,List.length_take];rfl)) ?_;(with_reducible refine (racewayref25_digit.calls a0 x1_2 true _ A14.out).mono ?_);rintro e w' ⟨rfl,⟨nd,rfl⟩⟩;refine ⟨_,rfl,?_⟩))
           go_roundg k2
           case measure => have:=HJ3.out;have:=HK2.out;omega
           case rel => exact ⟨(wrap64 (x1_2 + 1)),(by first|rfl|(simp;done)|(simp;decide +kernel)|(simp [*];done)),(by first|exact H'|(subst_vars;exact H')),⟨by have:=HJ3.out;have:=HK2.out;omega⟩,⟨by (with_reducible repeat (first|refine blk_drewN ?_ _|refine blk_drew ?_|refine blk_alloc ?_ _));exact BK260.out⟩,⟨by repeat (first|(with_reducible first|exact HB.out|apply below_alloc|apply pw_below_drewN|apply below_drew1|refine below_set ?_ GE260.out)|exact HB.out)⟩⟩
          ·replace c15:=Bool.eq_false_iff.mpr c15
           subst c15
           have H1 : (racewayref25_number.j2 k2 a0 x1_2 a1) = some (r1,r2,r3,r4):=by rw [if_neg (show ¬ (false = true) by decide)] at H;exact H
           clear H
           have H:=H1
           clear H1
           have H':=Aside0.mk H
           clear H
           go_wp2_with (first|((with_reducible refine gate_callee (f:=55) rfl ?_);refine goesL_ (some 26) rfl rfl Tryd.func55 (by kernel_rfl) rfl #[.string a0,.int .i64 x1_2] rfl (by (try simp only [List.map_toArray,List.map_cons,List.map_nil]);first|done|rfl|(simp only [List.length_drop,List.length_take];rfl)) ?_;(with_reducible refine (racewayref25_digit.calls a0 x1_2 false _ A14.out).mono ?_);rintro e w' ⟨rfl,⟨nd,rfl⟩⟩;refine ⟨_,rfl,?_⟩))
           go_meet
           case rel => exact ⟨_,(x1_2),(by first|rfl|(simp;done)|(simp;decide +kernel)|(simp [*];done)),(by first|exact H'|(subst_vars;exact H')),⟨by have:=HJ3.out;have:=HK2.out;first|omega|exact Nat.le_refl _⟩,⟨by (with_reducible repeat (first|refine blk_drewN ?_ _|refine blk_drew ?_|refine blk_alloc ?_ _));exact BK260.out⟩,⟨by repeat (first|(with_reducible first|exact HB.out|apply below_alloc|apply pw_below_drewN|apply below_drew1|refine below_set ?_ GE260.out)|exact HB.out)⟩⟩
      case rest =>
       clear HC12
       try clear c1
       try clear p1
       try clear q1
       try clear hx1
       try clear p2
       try clear c5
       try clear c6
       try clear p6
       try clear c7
       try clear c8
       try clear c9
       try clear c9b0
       try clear c10
       try clear c10b0
       try clear p11
       try clear q11
       try clear hx11
       try clear c13
       try clear c13b0
       try clear c13b1
       try clear c15
       try clear p1
       try clear p11
       try clear p2
       try clear p6
       try clear q1
       try clear q11
       obtain ⟨kq,x1_11,rfl,HA,HJ11,BK260,HB⟩:=hcut
       cases kq with
       | zero => exact absurd HA.out (by simp [racewayref25_number.j2])
       | succ kj11 =>
        have H:=HA.out
        clear HA
        simp only [racewayref25_number.j2] at H
        replace H:=Option.bind_eq_some_iff.mp H
        obtain ⟨t270,A160,H⟩:=H
        replace H : (if t270 = true then ((racewayref25_digit.f a0 (wrap64 (x1_11 + 1))).bind fun t271 => (if t271 = true then (racewayref25_number.l1 kj11 a0 (wrap64 (x1_11 + 1)) a1) else ((racewayref25_fail.f (wrap64 (x1_11 + 1))).bind fun bt272 => (some (bt272.1,bt272.2.1,bt272.2.2.1,bt272.2.2.2))))) else (racewayref25_number.j4 kj11 a0 x1_11 a1)) = some (r1,r2,r3,r4):=H
        have A16:=Aside0.mk A160
        clear A160
        have HC17:=Aside0.mk H
        clear H
        go_upto_if 31 with (first|((with_reducible refine gate_callee (f:=70) rfl ?_);refine goesL_ (some 31) rfl rfl Tryd.func70 (by kernel_rfl) rfl #[.string a0,.int .i64 x1_11,.int .u8 46] rfl (by (try simp only [List.map_toArray,List.map_cons,List.map_nil]);first|done|rfl|(simp only [List.length_drop,List.length_take];rfl)) ?_;(with_reducible refine (racewayref25_is.calls a0 x1_11 46 t270 _ A16.out).mono ?_);rintro e w' ⟨rfl,⟨nd,rfl⟩⟩;refine ⟨_,rfl,?_⟩))
        (try simp only [Act.put,List.setIfInBounds_toArray,List.set_cons_zero,List.set_cons_succ])
        go_cut [1] (fun v1 wc => ∃ (kq : Nat) (x1_16 : Int) (x261000_16 : Int) (x261001_16 : Int) (x261003_16 : ByteArray),v1 = .int .i64 x1_16 ∧ Aside0 (racewayref25_number.j4 kq a0 x1_16 a1 = some (r1,r2,r3,r4)) ∧ Aside0 (kq ≤ kj11) ∧ Aside0 (wc.heap[gb260]? = some (.cells #[.int .i64 x261000_16,.int .i64 x261001_16,(.slice none 0 0),.string x261003_16] 67 (0,0))) ∧ Aside0 (Below w.heap.size w wc))
        case first =>
         have H:=HC17.out
         clear HC17
         by_cases c18 : t270 = true
         ·subst c18
          have H1 : ((racewayref25_digit.f a0 (wrap64 (x1_11 + 1))).bind fun t271 => (if t271 = true then (racewayref25_number.l1 kj11 a0 (wrap64 (x1_11 + 1)) a1) else ((racewayref25_fail.f (wrap64 (x1_11 + 1))).bind fun bt272 => (some (bt272.1,bt272.2.1,bt272.2.2.1,bt272.2.2.2))))) = some (r1,r2,r3,r4):=by rw [if_pos rfl] at H;exact H
          clear H
          have H:=H1
          clear H1
          replace H:=Option.bind_eq_some_iff.mp H
          obtain ⟨t271,A190,H⟩:=H
          replace H : (if t271 = true then (racewayref25_number.l1 kj11 a0 (wrap64 (x1_11 + 1)) a1) else ((racewayref25_fail.f (wrap64 (x1_11 + 1))).bind fun bt272 => (some (bt272.1,bt272.2.1,bt272.2.2.1,bt272.2.2.2)))) = some (r1,r2,r3,r4):=H
          have A19:=Aside0.mk A190
          clear A190
          by_cases c20 : t271 = true
          ·subst c20
           have H1 : (racewayref25_number.l1 kj11 a0 (wrap64 (x1_11 + 1)) a1) = some (r1,r2,r3,r4):=by rw [if_pos rfl] at H;exact H
           clear H
           have H:=H1
           clear H1
           have H':=Aside0.mk H
           clear H
           go_wp2_with (first|((with_reducible refine gate_callee (f:=55) rfl ?_);refine goesL_ (some 36) rfl rfl Tryd.func55 (by kernel_rfl) rfl #[.string a0,.int .i64 (wrap64 (x1_11 + 1))] rfl (by (try simp only [List.map_toArray,List.map_cons,List.map_nil]);first|done|rfl|(simp only [List.length_drop,List.length_take];rfl)) ?_;(with_reducible refine (racewayref25_digit.calls a0 (wrap64 (x1_11 + 1)) true _ A19.out).mono ?_);rintro e w' ⟨rfl,⟨nd,rfl⟩⟩;refine ⟨_,rfl,?_⟩))
           go_loopg [1] kj11 (fun kq v1 w' => ∃ (x1_3 : Int),v1 = .int .i64 x1_3 ∧ Aside0 (racewayref25_number.l1 kq a0 x1_3 a1 = some (r1,r2,r3,r4)) ∧ Aside0 (kq ≤ kj11) ∧ Aside0 (w'.heap[gb260]? = some (.cells #[.int .i64 0,.int .i64 0,(.slice none 0 0),.string (⟨#[]⟩ : ByteArray)] 67 (0,0))) ∧ Aside0 (Below w.heap.size w w'))
           case atStart => exact ⟨(wrap64 (x1_11 + 1)),(by first|rfl|(simp;done)|(simp;decide +kernel)|(simp [*];done)),(by first|exact H'|(subst_vars;exact H')),⟨Nat.le_refl _⟩,⟨by (with_reducible repeat (first|refine blk_drewN ?_ _|refine blk_drew ?_|refine blk_alloc ?_ _));exact BK260.out⟩,⟨by repeat (first|(with_reducible first|exact HB.out|apply below_alloc|apply pw_below_drewN|apply below_drew1|refine below_set ?_ GE260.out)|exact HB.out)⟩⟩
           case round =>
            clear H'
            try clear c1
            try clear p1
            try clear q1
            try clear hx1
            try clear c2
            try clear p2
            try clear c5
            try clear c6
            try clear p6
            try clear c7
            try clear c8
            try clear c9
            try clear c9b0
            try clear c10
            try clear c10b0
            try clear p11
            try clear q11
            try clear hx11
            try clear c13
            try clear c13b0
            try clear c13b1
            try clear c15
            try clear c18
            try clear c20
            try clear p1
            try clear p11
            try clear p2
            try clear p6
            try clear q1
            try clear q11
            obtain ⟨x1_3,rfl,HA,HK3,BK260,HB⟩:=hrel
            cases gk with
            | zero => exact absurd HA.out (by simp [racewayref25_number.l1])
            | succ k3 =>
             have H:=HA.out
             clear HA
             simp only [racewayref25_number.l1] at H
             replace H:=Option.bind_eq_some_iff.mp H
             obtain ⟨t278,A210,H⟩:=H
             replace H : (if t278 = true then (racewayref25_number.l1 k3 a0 (wrap64 (x1_3 + 1)) a1) else (racewayref25_number.j4 k3 a0 x1_3 a1)) = some (r1,r2,r3,r4):=H
             have A21:=Aside0.mk A210
             clear A210
             by_cases c22 : t278 = true
             ·subst c22
              have H1 : (racewayref25_number.l1 k3 a0 (wrap64 (x1_3 + 1)) a1) = some (r1,r2,r3,r4):=by rw [if_pos rfl] at H;exact H
              clear H
              have H:=H1
              clear H1
              have H':=Aside0.mk H
              clear H
              go_wp2_with (first|((with_reducible refine gate_callee (f:=55) rfl ?_);refine goesL_ (some 42) rfl rfl Tryd.func55 (by kernel_rfl) rfl #[.string a0,.int .i64 x1_3] rfl (by (try simp only [List.map_toArray,List.map_cons,List.map_nil]);first|done|rfl|(simp only [List.length_drop,List.length_take];rfl)) ?_;(with_reducible refine (racewayref25_digit.calls a0 x1_3 true _ A21.out).mono ?_);rintro e w' ⟨rfl,⟨nd,rfl⟩⟩;refine ⟨_,rfl,?_⟩))
              go_roundg k3
              case measure => have:=HJ3.out;have:=HJ11.out;have:=HK3.out;omega
              case rel => exact ⟨(wrap64 (x1_3 + 1)),(by first|rfl|(simp;done)|(simp;decide +kernel)|(simp [*];done)),(by first|exact H'|(subst_vars;exact H')),⟨by have:=HJ3.out;have:=HJ11.out;have:=HK3.out;omega⟩,⟨by (with_reducible repeat (first|refine blk_drewN ?_ _|refine blk_drew ?_|refine blk_alloc ?_ _));exact BK260.out⟩,⟨by repeat (first|(with_reducible first|exact HB.out|apply below_alloc|apply pw_below_drewN|apply below_drew1|refine below_set ?_ GE260.out)|exact HB.out)⟩⟩
             ·replace c22:=Bool.eq_false_iff.mpr c22
              subst c22
              have H1 : (racewayref25_number.j4 k3 a0 x1_3 a1) = some (r1,r2,r3,r4):=by rw [if_neg (show ¬ (false = true) by decide)] at H;exact H
              clear H
              have H:=H1
              clear H1
              have H':=Aside0.mk H
              clear H
              go_wp2_with (first|((with_reducible refine gate_callee (f:=55) rfl ?_);refine goesL_ (some 42) rfl rfl Tryd.func55 (by kernel_rfl) rfl #[.string a0,.int .i64 x1_3] rfl (by (try simp only [List.map_toArray,List.map_cons,List.map_nil]);first|done|rfl|(simp only [List.length_drop,List.length_take];rfl)) ?_;(with_reducible refine (racewayref25_digit.calls a0 x1_3 false _ A21.out).mono ?_);rintro e w' ⟨rfl,⟨nd,rfl⟩⟩;refine ⟨_,rfl,?_⟩))
              go_meet
              case rel => exact ⟨_,(x1_3),(0),(0),((⟨#[]⟩ : ByteArray)),(by first|rfl|(simp;done)|(simp;decide +kernel)|(simp [*];done)),(by first|exact H'|(subst_vars;exact H')),⟨by have:=HJ3.out;have:=HJ11.out;have:=HK3.out;first|omega|exact Nat.le_refl _⟩,⟨by (with_reducible repeat (first|refine blk_drewN ?_ _|refine blk_drew ?_|refine blk_alloc ?_ _));exact BK260.out⟩,⟨by repeat (first|(with_reducible first|exact HB.out|apply below_alloc|apply pw_below_drewN|apply below_drew1|refine below_set ?_ GE260.out)|exact HB.out)⟩⟩
          ·replace c20:=Bool.eq_false_iff.mpr c20
           subst c20
           have H1 : ((racewayref25_fail.f (wrap64 (x1_11 + 1))).bind fun bt272 => (some (bt272.1,bt272.2.1,bt272.2.2.1,bt272.2.2.2))) = some (r1,r2,r3,r4):=by rw [if_neg (show ¬ (false = true) by decide)] at H;exact H
           clear H
           have H:=H1
           clear H1
           replace H:=Option.bind_eq_some_iff.mp H
           obtain ⟨⟨t272,t273,t274,t277⟩,A230,H⟩:=H
           replace H : (some (t272,t273,t274,t277)) = some (r1,r2,r3,r4):=H
           have A23:=Aside0.mk A230
           clear A230
           simp only [Option.some.injEq,Prod.mk.injEq] at H
           obtain ⟨rfl,rfl,rfl,rfl⟩:=H
           go_wp2_with (first|((with_reducible refine gate_callee (f:=55) rfl ?_);refine goesL_ (some 36) rfl rfl Tryd.func55 (by kernel_rfl) rfl #[.string a0,.int .i64 (wrap64 (x1_11 + 1))] rfl (by (try simp only [List.map_toArray,List.map_cons,List.map_nil]);first|done|rfl|(simp only [List.length_drop,List.length_take];rfl)) ?_;(with_reducible refine (racewayref25_digit.calls a0 (wrap64 (x1_11 + 1)) false _ A19.out).mono ?_);rintro e w' ⟨rfl,⟨nd,rfl⟩⟩;refine ⟨_,rfl,?_⟩;(try (rw [drewN_self wc];generalize hq_ : World.drewN wc _ = wc;have n0_ : Aside0 (wc.heap[gb260]? = some (.cells #[.int .i64 0,.int .i64 0,.slice none 0 0,.string (⟨#[]⟩ : ByteArray)] 67 (0,0))):=⟨by rw [← hq_];exact (by (with_reducible repeat (first|refine blk_drewN ?_ _|refine blk_drew ?_|refine blk_alloc ?_ _));exact BK260.out)⟩;have n1_ : Aside0 (Below w.heap.size w wc):=⟨by rw [← hq_];exact (by repeat (first|(with_reducible first|exact HB.out|apply below_alloc|apply pw_below_drewN|apply below_drew1|refine below_set ?_ GE260.out)|exact HB.out))⟩;clear BK260 HB hq_;have BK260:=n0_;have HB:=n1_;clear n0_ n1_)))|((with_reducible refine gate_callee (f:=54) rfl ?_);refine goesL_ (some 39) rfl rfl Tryd.func54 (by kernel_rfl) rfl #[.int .i64 (wrap64 (x1_11 + 1))] rfl (by (try simp only [List.map_toArray,List.map_cons,List.map_nil]);first|done|rfl|(simp only [List.length_drop,List.length_take];rfl)) ?_;(with_reducible refine (racewayref25_fail.calls (wrap64 (x1_11 + 1)) t272 t273 t274 t277 _ A23.out).mono ?_);rintro e w24 ⟨v275,rfl,ho0,hb⟩;refine ⟨_,rfl,?_⟩;have n0_:=Aside0.mk (Kd.R_lower ho0 (below_size (by repeat (first|(with_reducible first|exact HB.out|apply below_alloc|apply pw_below_drewN|apply below_drew1|refine below_set ?_ GE260.out)|exact HB.out))));have n1_:=Aside0.mk (blk_below (g:=gb260) (o:=.cells #[.int .i64 0,.int .i64 0,.slice none 0 0,.string (⟨#[]⟩ : ByteArray)] 67 (0,0)) (by (with_reducible repeat (first|refine blk_drewN ?_ _|refine blk_drew ?_|refine blk_alloc ?_ _));exact BK260.out) hb);have n2_:=Aside0.mk (below_step (by repeat (first|(with_reducible first|exact HB.out|apply below_alloc|apply pw_below_drewN|apply below_drew1|refine below_set ?_ GE260.out)|exact HB.out)) hb);clear BK260;clear HB;have HO276:=n0_;have BK260:=n1_;have HB:=n2_;clear n0_ n1_ n2_;(try clear hb);(try clear hb2);(try clear hk);(try clear hi);(try clear ho0);have hcz25_0 : w24.cell? ⟨gb260,0,none⟩ = some (.int .i64 0):=(blk_cell BK260.out 0).trans rfl;have hcz25_1 : w24.cell? ⟨gb260,1,none⟩ = some (.int .i64 0):=(blk_cell BK260.out 1).trans rfl;have hcz25_2 : w24.cell? ⟨gb260,2,none⟩ = some (.slice none 0 0):=(blk_cell BK260.out 2).trans rfl;have hcz25_3 : w24.cell? ⟨gb260,3,none⟩ = some (.string (⟨#[]⟩ : ByteArray)):=(blk_cell BK260.out 3).trans rfl;have hfz25_0:=blk_frozen BK260.out 0;have hfz25_1:=blk_frozen BK260.out 1;have hfz25_2:=blk_frozen BK260.out 2;have hfz25_3:=blk_frozen BK260.out 3;obtain ⟨Ao26,co26,eo26⟩:=Kd.R_slice HO276.out;subst eo26))
           refine bodyPost_ret (results_cell_row rfl _ _ gb260 67 #[.int .i64 t272,.int .i64 t273,.slice Ao26 t274.length co26,.string t277] (0,0) _ rfl (by (with_reducible repeat (first|refine blk_drewN ?_ _|refine blk_drew ?_|refine blk_alloc ?_ _));refine blk_put (cs:=#[.int .i64 t272,.int .i64 t273,.slice Ao26 t274.length co26,.string (⟨#[]⟩ : ByteArray)]) ?_ 3 _ rfl;(with_reducible repeat (first|refine blk_drewN ?_ _|refine blk_drew ?_|refine blk_alloc ?_ _));refine blk_put (cs:=#[.int .i64 t272,.int .i64 t273,.slice none 0 0,.string (⟨#[]⟩ : ByteArray)]) ?_ 2 _ rfl;(with_reducible repeat (first|refine blk_drewN ?_ _|refine blk_drew ?_|refine blk_alloc ?_ _));refine blk_put (cs:=#[.int .i64 t272,.int .i64 0,.slice none 0 0,.string (⟨#[]⟩ : ByteArray)]) ?_ 1 _ rfl;(with_reducible repeat (first|refine blk_drewN ?_ _|refine blk_drew ?_|refine blk_alloc ?_ _));refine blk_put (cs:=#[.int .i64 0,.int .i64 0,.slice none 0 0,.string (⟨#[]⟩ : ByteArray)]) ?_ 0 _ rfl;(with_reducible repeat (first|refine blk_drewN ?_ _|refine blk_drew ?_|refine blk_alloc ?_ _));exact BK260.out) Tryd.underlying67 rfl (by kernel_rfl)) rfl ?_
           exact ⟨_,by first|rfl|(simp [errW_none,errW_some] <;> rfl)|(simp [*,errW_none,errW_some] <;> rfl),by (with_reducible repeat (first|apply Kd.R_alloc|apply Kd.R_drewN|apply Kd.R_drew));exact Kd.R_mono (Kd.R_far (p:=⟨gb260,3,none⟩) (Kd.R_far (p:=⟨gb260,2,none⟩) (Kd.R_far (p:=⟨gb260,1,none⟩) (Kd.R_far (p:=⟨gb260,0,none⟩) (Kd.R_types HO276.out BK260.out (by decide)) (fun _ hk => hk.2) (.int .i64 t272)) (fun _ hk => hk.2) (.int .i64 t273)) (fun _ hk => hk.2) (.slice Ao26 t274.length co26)) (fun _ hk => hk.2) (.string t277)) (fun _ hk => trivial),by repeat (first|(with_reducible first|exact HB.out|apply below_alloc|apply pw_below_drewN|apply below_drew1|refine below_set ?_ GE260.out)|exact HB.out)⟩
         ·replace c18:=Bool.eq_false_iff.mpr c18
          subst c18
          have H1 : (racewayref25_number.j4 kj11 a0 x1_11 a1) = some (r1,r2,r3,r4):=by rw [if_neg (show ¬ (false = true) by decide)] at H;exact H
          clear H
          have H:=H1
          clear H1
          have H':=Aside0.mk H
          clear H
          go_wp2
          go_meet
          case rel => exact ⟨_,(x1_11),(0),(0),((⟨#[]⟩ : ByteArray)),(by first|rfl|(simp;done)|(simp;decide +kernel)|(simp [*];done)),(by first|exact H'|(subst_vars;exact H')),⟨by have:=HJ3.out;have:=HJ11.out;first|omega|exact Nat.le_refl _⟩,⟨by (with_reducible repeat (first|refine blk_drewN ?_ _|refine blk_drew ?_|refine blk_alloc ?_ _));exact BK260.out⟩,⟨by repeat (first|(with_reducible first|exact HB.out|apply below_alloc|apply pw_below_drewN|apply below_drew1|refine below_set ?_ GE260.out)|exact HB.out)⟩⟩
        case rest =>
         clear HC17
         try clear c1
         try clear p1
         try clear q1
         try clear hx1
         try clear c2
         try clear p2
         try clear c5
         try clear c6
         try clear p6
         try clear c7
         try clear c8
         try clear c9
         try clear c9b0
         try clear c10
         try clear c10b0
         try clear p11
         try clear q11
         try clear hx11
         try clear c13
         try clear c13b0
         try clear c13b1
         try clear c15
         try clear c18
         try clear c20
         try clear c22
         try clear hcz25_0
         try clear hcz25_1
         try clear hcz25_2
         try clear hcz25_3
         try clear hfz25_0
         try clear hfz25_1
         try clear hfz25_2
         try clear hfz25_3
         try clear p1
         try clear p11
         try clear p2
         try clear p6
         try clear q1
         try clear q11
         obtain ⟨kq,x1_16,x261000_16,x261001_16,x261003_16,rfl,HA,HJ16,BK260,HB⟩:=hcut
         cases kq with
         | zero => exact absurd HA.out (by simp [racewayref25_number.j4])
         | succ kj16 =>
          have H:=HA.out
          clear HA
          simp only [racewayref25_number.j4] at H
          have HC27:=Aside0.mk H
          clear H
          go_upto_region 16 with (fail)
          go_cut [52] (fun v52 wc => ∃ (kq : Nat) (x52_26 : Bool),v52 = .bool x52_26 ∧ Aside0 (racewayref25_number.j5 kq a0 x1_16 a1 x52_26 = some (r1,r2,r3,r4)) ∧ Aside0 (kq ≤ kj16) ∧ Aside0 (wc.heap[gb260]? = some (.cells #[.int .i64 x261000_16,.int .i64 x261001_16,(.slice none 0 0),.string x261003_16] 67 (0,0))) ∧ Aside0 (Below w.heap.size w wc))
          case first =>
           have H:=HC27.out
           clear HC27
           replace H:=Option.bind_eq_some_iff.mp H
           obtain ⟨t279,A280,H⟩:=H
           replace H : (if t279 = true then (racewayref25_number.j5 kj16 a0 x1_16 a1 true) else ((racewayref25_is.f a0 x1_16 69).bind fun t280 => (racewayref25_number.j5 kj16 a0 x1_16 a1 t280))) = some (r1,r2,r3,r4):=H
           have A28:=Aside0.mk A280
           clear A280
           by_cases c29 : t279 = true
           ·subst c29
            have H1 : (racewayref25_number.j5 kj16 a0 x1_16 a1 true) = some (r1,r2,r3,r4):=by rw [if_pos rfl] at H;exact H
            clear H
            have H:=H1
            clear H1
            have H':=Aside0.mk H
            clear H
            go_wp2_with (first|((with_reducible refine gate_callee (f:=70) rfl ?_);refine goesL_ (some 47) rfl rfl Tryd.func70 (by kernel_rfl) rfl #[.string a0,.int .i64 x1_16,.int .u8 101] rfl (by (try simp only [List.map_toArray,List.map_cons,List.map_nil]);first|done|rfl|(simp only [List.length_drop,List.length_take];rfl)) ?_;(with_reducible refine (racewayref25_is.calls a0 x1_16 101 true _ A28.out).mono ?_);rintro e w' ⟨rfl,⟨nd,rfl⟩⟩;refine ⟨_,rfl,?_⟩))
            go_meet
            case rel => exact ⟨_,(true),(by first|rfl|(simp;done)|(simp;decide +kernel)|(simp [*];done)),(by first|exact H'|(subst_vars;exact H')),⟨by have:=HJ3.out;have:=HJ11.out;have:=HJ16.out;first|omega|exact Nat.le_refl _⟩,⟨by (with_reducible repeat (first|refine blk_drewN ?_ _|refine blk_drew ?_|refine blk_alloc ?_ _));exact BK260.out⟩,⟨by repeat (first|(with_reducible first|exact HB.out|apply below_alloc|apply pw_below_drewN|apply below_drew1|refine below_set ?_ GE260.out)|exact HB.out)⟩⟩
           ·replace c29:=Bool.eq_false_iff.mpr c29
            subst c29
            have H1 : ((racewayref25_is.f a0 x1_16 69).bind fun t280 => (racewayref25_number.j5 kj16 a0 x1_16 a1 t280)) = some (r1,r2,r3,r4):=by rw [if_neg (show ¬ (false = true) by decide)] at H;exact H
            clear H
            have H:=H1
            clear H1
            replace H:=Option.bind_eq_some_iff.mp H
            obtain ⟨t280,A300,H⟩:=H
            replace H : (racewayref25_number.j5 kj16 a0 x1_16 a1 t280) = some (r1,r2,r3,r4):=H
            have A30:=Aside0.mk A300
            clear A300
            have H':=Aside0.mk H
            clear H
            go_wp2_with (first|((with_reducible refine gate_callee (f:=70) rfl ?_);refine goesL_ (some 47) rfl rfl Tryd.func70 (by kernel_rfl) rfl #[.string a0,.int .i64 x1_16,.int .u8 101] rfl (by (try simp only [List.map_toArray,List.map_cons,List.map_nil]);first|done|rfl|(simp only [List.length_drop,List.length_take];rfl)) ?_;(with_reducible refine (racewayref25_is.calls a0 x1_16 101 false _ A28.out).mono ?_);rintro e w' ⟨rfl,⟨nd,rfl⟩⟩;refine ⟨_,rfl,?_⟩)|(go_at_call 70;(with_reducible refine (racewayref25_is.calls a0 x1_16 69 t280 _ A30.out).mono ?_);rintro e w' ⟨rfl,⟨nd,rfl⟩⟩))
            go_meet
            case rel => exact ⟨_,(t280),(by first|rfl|(simp;done)|(simp;decide +kernel)|(simp [*];done)),(by first|exact H'|(subst_vars;exact H')),⟨by have:=HJ3.out;have:=HJ11.out;have:=HJ16.out;first|omega|exact Nat.le_refl _⟩,⟨by (with_reducible repeat (first|refine blk_drewN ?_ _|refine blk_drew ?_|refine blk_alloc ?_ _));exact BK260.out⟩,⟨by repeat (first|(with_reducible first|exact HB.out|apply below_alloc|apply pw_below_drewN|apply below_drew1|refine below_set ?_ GE260.out)|exact HB.out)⟩⟩
          case rest =>
           clear HC27
           try clear c1
           try clear p1
           try clear q1
           try clear hx1
           try clear c2
           try clear p2
           try clear c5
           try clear c6
           try clear p6
           try clear c7
           try clear c8
           try clear c9
           try clear c9b0
           try clear c10
           try clear c10b0
           try clear p11
           try clear q11
           try clear hx11
           try clear c13
           try clear c13b0
           try clear c13b1
           try clear c15
           try clear c18
           try clear c20
           try clear c22
           try clear c29
           try clear hcz25_0
           try clear hcz25_1
           try clear hcz25_2
           try clear hcz25_3
           try clear hfz25_0
           try clear hfz25_1
           try clear hfz25_2
           try clear hfz25_3
           try clear p1
           try clear p11
           try clear p2
           try clear p6
           try clear q1
           try clear q11
           obtain ⟨kq,x52_26,rfl,HA,HJ26,BK260,HB⟩:=hcut
           cases kq with
           | zero => exact absurd HA.out (by simp [racewayref25_number.j5])
           | succ kj26 =>
            have H:=HA.out
            clear HA
            simp only [racewayref25_number.j5] at H
            by_cases c31 : x52_26 = true
            ·subst c31
             have H1 : ((racewayref25_is.f a0 (wrap64 (x1_16 + 1)) 43).bind fun t281 => (if t281 = true then (racewayref25_number.j6 kj26 a0 (wrap64 (x1_16 + 1)) a1 true) else ((racewayref25_is.f a0 (wrap64 (x1_16 + 1)) 45).bind fun t282 => (racewayref25_number.j6 kj26 a0 (wrap64 (x1_16 + 1)) a1 t282)))) = some (r1,r2,r3,r4):=by rw [if_pos rfl] at H;exact H
             clear H
             have H:=H1
             clear H1
             have HC32:=Aside0.mk H
             clear H
             go_upto_region 18 with (fail)
             go_cut [62] (fun v62 wc => ∃ (kq : Nat) (x62_31 : Bool),v62 = .bool x62_31 ∧ Aside0 (racewayref25_number.j6 kq a0 (wrap64 (x1_16 + 1)) a1 x62_31 = some (r1,r2,r3,r4)) ∧ Aside0 (kq ≤ kj26) ∧ Aside0 (wc.heap[gb260]? = some (.cells #[.int .i64 x261000_16,.int .i64 x261001_16,(.slice none 0 0),.string x261003_16] 67 (0,0))) ∧ Aside0 (Below w.heap.size w wc))
             case first =>
              have H:=HC32.out
              clear HC32
              replace H:=Option.bind_eq_some_iff.mp H
              obtain ⟨t281,A330,H⟩:=H
              replace H : (if t281 = true then (racewayref25_number.j6 kj26 a0 (wrap64 (x1_16 + 1)) a1 true) else ((racewayref25_is.f a0 (wrap64 (x1_16 + 1)) 45).bind fun t282 => (racewayref25_number.j6 kj26 a0 (wrap64 (x1_16 + 1)) a1 t282))) = some (r1,r2,r3,r4):=H
              have A33:=Aside0.mk A330
              clear A330
              by_cases c34 : t281 = true
              ·subst c34
               have H1 : (racewayref25_number.j6 kj26 a0 (wrap64 (x1_16 + 1)) a1 true) = some (r1,r2,r3,r4):=by rw [if_pos rfl] at H;exact H
               clear H
               have H:=H1
               clear H1
               have H':=Aside0.mk H
               clear H
               go_wp2_with (first|((with_reducible refine gate_callee (f:=70) rfl ?_);refine goesL_ (some 57) rfl rfl Tryd.func70 (by kernel_rfl) rfl #[.string a0,.int .i64 (wrap64 (x1_16 + 1)),.int .u8 43] rfl (by (try simp only [List.map_toArray,List.map_cons,List.map_nil]);first|done|rfl|(simp only [List.length_drop,List.length_take];rfl)) ?_;(with_reducible refine (racewayref25_is.calls a0 (wrap64 (x1_16 + 1)) 43 true _ A33.out).mono ?_);rintro e w' ⟨rfl,⟨nd,rfl⟩⟩;refine ⟨_,rfl,?_⟩))
               go_meet
               case rel => exact ⟨_,(true),(by first|rfl|(simp;done)|(simp;decide +kernel)|(simp [*];done)),(by first|exact H'|(subst_vars;exact H')),⟨by have:=HJ3.out;have:=HJ11.out;have:=HJ16.out;have:=HJ26.out;first|omega|exact Nat.le_refl _⟩,⟨by (with_reducible repeat (first|refine blk_drewN ?_ _|refine blk_drew ?_|refine blk_alloc ?_ _));exact BK260.out⟩,⟨by repeat (first|(with_reducible first|exact HB.out|apply below_alloc|apply pw_below_drewN|apply below_drew1|refine below_set ?_ GE260.out)|exact HB.out)⟩⟩
              ·replace c34:=Bool.eq_false_iff.mpr c34
               subst c34
               have H1 : ((racewayref25_is.f a0 (wrap64 (x1_16 + 1)) 45).bind fun t282 => (racewayref25_number.j6 kj26 a0 (wrap64 (x1_16 + 1)) a1 t282)) = some (r1,r2,r3,r4):=by rw [if_neg (show ¬ (false = true) by decide)] at H;exact H
               clear H
               have H:=H1
               clear H1
               replace H:=Option.bind_eq_some_iff.mp H
               obtain ⟨t282,A350,H⟩:=H
               replace H : (racewayref25_number.j6 kj26 a0 (wrap64 (x1_16 + 1)) a1 t282) = some (r1,r2,r3,r4):=H
               have A35:=Aside0.mk A350
               clear A350
               have H':=Aside0.mk H
               clear H
               go_wp2_with (first|((with_reducible refine gate_callee (f:=70) rfl ?_);refine goesL_ (some 57) rfl rfl Tryd.func70 (by kernel_rfl) rfl #[.string a0,.int .i64 (wrap64 (x1_16 + 1)),.int .u8 43] rfl (by (try simp only [List.map_toArray,List.map_cons,List.map_nil]);first|done|rfl|(simp only [List.length_drop,List.length_take];rfl)) ?_;(with_reducible refine (racewayref25_is.calls a0 (wrap64 (x1_16 + 1)) 43 false _ A33.out).mono ?_);rintro e w' ⟨rfl,⟨nd,rfl⟩⟩;refine ⟨_,rfl,?_⟩)|(go_at_call 70;(with_reducible refine (racewayref25_is.calls a0 (wrap64 (x1_16 + 1)) 45 t282 _ A35.out).mono ?_);rintro e w' ⟨rfl,⟨nd,rfl⟩⟩))
               go_meet
               case rel => exact ⟨_,(t282),(by first|rfl|(simp;done)|(simp;decide +kernel)|(simp [*];done)),(by first|exact H'|(subst_vars;exact H')),⟨by have:=HJ3.out;have:=HJ11.out;have:=HJ16.out;have:=HJ26.out;first|omega|exact Nat.le_refl _⟩,⟨by (with_reducible repeat (first|refine blk_drewN ?_ _|refine blk_drew ?_|refine blk_alloc ?_ _));exact BK260.out⟩,⟨by repeat (first|(with_reducible first|exact HB.out|apply below_alloc|apply pw_below_drewN|apply below_drew1|refine below_set ?_ GE260.out)|exact HB.out)⟩⟩
             case rest =>
              clear HC32
              try clear c1
              try clear p1
              try clear q1
              try clear hx1
              try clear c2
              try clear p2
              try clear c3
              try clear c5
              try clear c6
              try clear p6
              try clear c7
              try clear c8
              try clear c9
              try clear c9b0
              try clear c10
              try clear c10b0
              try clear p11
              try clear q11
              try clear hx11
              try clear c13
              try clear c13b0
              try clear c13b1
              try clear c15
              try clear c18
              try clear c20
              try clear c22
              try clear c29
              try clear c31
              try clear c34
              try clear hcz25_0
              try clear hcz25_1
              try clear hcz25_2
              try clear hcz25_3
              try clear hfz25_0
              try clear hfz25_1
              try clear hfz25_2
              try clear hfz25_3
              try clear p1
              try clear p11
              try clear p2
              try clear p6
              try clear q1
              try clear q11
              obtain ⟨kq,x62_31,rfl,HA,HJ31,BK260,HB⟩:=hcut
              cases kq with
              | zero => exact absurd HA.out (by simp [racewayref25_number.j6])
              | succ kj31 =>
               have H:=HA.out
               clear HA
               simp only [racewayref25_number.j6] at H
               have HC36:=Aside0.mk H
               clear H
               go_upto_if 62 with (fail)
               go_cut [1] (fun v1 wc => ∃ (kq : Nat) (x1_35 : Int),v1 = .int .i64 x1_35 ∧ Aside0 (racewayref25_number.j7 kq a0 x1_35 a1 = some (r1,r2,r3,r4)) ∧ Aside0 (kq ≤ kj31) ∧ Aside0 (wc.heap[gb260]? = some (.cells #[.int .i64 x261000_16,.int .i64 x261001_16,(.slice none 0 0),.string x261003_16] 67 (0,0))) ∧ Aside0 (Below w.heap.size w wc))
               case first =>
                have H:=HC36.out
                clear HC36
                by_cases c37 : x62_31 = true
                ·subst c37
                 have H1 : (racewayref25_number.j7 kj31 a0 (wrap64 ((wrap64 (x1_16 + 1)) + 1)) a1) = some (r1,r2,r3,r4):=by rw [if_pos rfl] at H;exact H
                 clear H
                 have H:=H1
                 clear H1
                 have H':=Aside0.mk H
                 clear H
                 go_wp2
                 go_meet
                 case rel => exact ⟨_,(wrap64 ((wrap64 (x1_16 + 1)) + 1)),(by first|rfl|(simp;done)|(simp;decide +kernel)|(simp [*];done)),(by first|exact H'|(subst_vars;exact H')),⟨by have:=HJ3.out;have:=HJ11.out;have:=HJ16.out;have:=HJ26.out;have:=HJ31.out;first|omega|exact Nat.le_refl _⟩,⟨by (with_reducible repeat (first|refine blk_drewN ?_ _|refine blk_drew ?_|refine blk_alloc ?_ _));exact BK260.out⟩,⟨by repeat (first|(with_reducible first|exact HB.out|apply below_alloc|apply pw_below_drewN|apply below_drew1|refine below_set ?_ GE260.out)|exact HB.out)⟩⟩
                ·replace c37:=Bool.eq_false_iff.mpr c37
                 subst c37
                 have H1 : (racewayref25_number.j7 kj31 a0 (wrap64 (x1_16 + 1)) a1) = some (r1,r2,r3,r4):=by rw [if_neg (show ¬ (false = true) by decide)] at H;exact H
                 clear H
                 have H:=H1
                 clear H1
                 have H':=Aside0.mk H
                 clear H
                 go_wp2
                 go_meet
                 case rel => exact ⟨_,((wrap64 (x1_16 + 1))),(by first|rfl|(simp;done)|(simp;decide +kernel)|(simp [*];done)),(by first|exact H'|(subst_vars;exact H')),⟨by have:=HJ3.out;have:=HJ11.out;have:=HJ16.out;have:=HJ26.out;have:=HJ31.out;first|omega|exact Nat.le_refl _⟩,⟨by (with_reducible repeat (first|refine blk_drewN ?_ _|refine blk_drew ?_|refine blk_alloc ?_ _));exact BK260.out⟩,⟨by repeat (first|(with_reducible first|exact HB.out|apply below_alloc|apply pw_below_drewN|apply below_drew1|refine below_set ?_ GE260.out)|exact HB.out)⟩⟩
               case rest =>
                clear HC36
                try clear c1
                try clear p1
                try clear q1
                try clear hx1
                try clear c2
                try clear p2
                try clear c3
                try clear c5
                try clear c6
                try clear p6
                try clear c7
                try clear c8
                try clear c9
                try clear c9b0
                try clear c10
                try clear c10b0
                try clear p11
                try clear q11
                try clear hx11
                try clear c13
                try clear c13b0
                try clear c13b1
                try clear c15
                try clear c18
                try clear c20
                try clear c22
                try clear c29
                try clear c31
                try clear c34
                try clear c37
                try clear hcz25_0
                try clear hcz25_1
                try clear hcz25_2
                try clear hcz25_3
                try clear hfz25_0
                try clear hfz25_1
                try clear hfz25_2
                try clear hfz25_3
                try clear p1
                try clear p11
                try clear p2
                try clear p6
                try clear q1
                try clear q11
                obtain ⟨kq,x1_35,rfl,HA,HJ35,BK260,HB⟩:=hcut
                cases kq with
                | zero => exact absurd HA.out (by simp [racewayref25_number.j7])
                | succ kj35 =>
                 have H:=HA.out
                 clear HA
                 simp only [racewayref25_number.j7] at H
                 replace H:=Option.bind_eq_some_iff.mp H
                 obtain ⟨t283,A380,H⟩:=H
                 replace H : (if t283 = true then (racewayref25_number.l2 kj35 a0 x1_35 a1) else ((racewayref25_fail.f x1_35).bind fun bt284 => (some (bt284.1,bt284.2.1,bt284.2.2.1,bt284.2.2.2)))) = some (r1,r2,r3,r4):=H
                 have A38:=Aside0.mk A380
                 clear A380
                 by_cases c39 : t283 = true
                 ·subst c39
                  have H1 : (racewayref25_number.l2 kj35 a0 x1_35 a1) = some (r1,r2,r3,r4):=by rw [if_pos rfl] at H;exact H
                  clear H
                  have H:=H1
                  clear H1
                  have H':=Aside0.mk H
                  clear H
                  go_wp2_with (first|((with_reducible refine gate_callee (f:=55) rfl ?_);refine goesL_ (some 67) rfl rfl Tryd.func55 (by kernel_rfl) rfl #[.string a0,.int .i64 x1_35] rfl (by (try simp only [List.map_toArray,List.map_cons,List.map_nil]);first|done|rfl|(simp only [List.length_drop,List.length_take];rfl)) ?_;(with_reducible refine (racewayref25_digit.calls a0 x1_35 true _ A38.out).mono ?_);rintro e w' ⟨rfl,⟨nd,rfl⟩⟩;refine ⟨_,rfl,?_⟩))
                  go_loopg [1] kj35 (fun kq v1 w' => ∃ (x1_7 : Int),v1 = .int .i64 x1_7 ∧ Aside0 (racewayref25_number.l2 kq a0 x1_7 a1 = some (r1,r2,r3,r4)) ∧ Aside0 (kq ≤ kj35) ∧ Aside0 (w'.heap[gb260]? = some (.cells #[.int .i64 x261000_16,.int .i64 x261001_16,(.slice none 0 0),.string x261003_16] 67 (0,0))) ∧ Aside0 (Below w.heap.size w w'))
                  case atStart => exact ⟨(x1_35),(by first|rfl|(simp;done)|(simp;decide +kernel)|(simp [*];done)),(by first|exact H'|(subst_vars;exact H')),⟨Nat.le_refl _⟩,⟨by (with_reducible repeat (first|refine blk_drewN ?_ _|refine blk_drew ?_|refine blk_alloc ?_ _));exact BK260.out⟩,⟨by repeat (first|(with_reducible first|exact HB.out|apply below_alloc|apply pw_below_drewN|apply below_drew1|refine below_set ?_ GE260.out)|exact HB.out)⟩⟩
                  case round =>
                   clear H'
                   try clear c1
                   try clear p1
                   try clear q1
                   try clear hx1
                   try clear c2
                   try clear p2
                   try clear c3
                   try clear c5
                   try clear c6
                   try clear p6
                   try clear c7
                   try clear c8
                   try clear c9
                   try clear c9b0
                   try clear c10
                   try clear c10b0
                   try clear p11
                   try clear q11
                   try clear hx11
                   try clear c13
                   try clear c13b0
                   try clear c13b1
                   try clear c15
                   try clear c18
                   try clear c20
                   try clear c22
                   try clear c29
                   try clear c31
                   try clear c34
                   try clear c37
                   try clear c39
                   try clear hcz25_0
                   try clear hcz25_1
                   try clear hcz25_2
                   try clear hcz25_3
                   try clear hfz25_0
                   try clear hfz25_1
                   try clear hfz25_2
                   try clear hfz25_3
                   try clear p1
                   try clear p11
                   try clear p2
                   try clear p6
                   try clear q1
                   try clear q11
                   obtain ⟨x1_7,rfl,HA,HK7,BK260,HB⟩:=hrel
                   cases gk with
                   | zero => exact absurd HA.out (by simp [racewayref25_number.l2])
                   | succ k7 =>
                    have H:=HA.out
                    clear HA
                    simp only [racewayref25_number.l2] at H
                    replace H:=Option.bind_eq_some_iff.mp H
                    obtain ⟨t290,A400,H⟩:=H
                    replace H : (if t290 = true then (racewayref25_number.l2 k7 a0 (wrap64 (x1_7 + 1)) a1) else (if 0 ≤ a1 then (if a1 ≤ x1_7 then (if x1_7 ≤ (a0.size : Int) then (some (x1_7,0,([] : List (S46)),a0.extract (a1 : Int).toNat (x1_7 : Int).toNat)) else (none)) else (none)) else (none))) = some (r1,r2,r3,r4):=H
                    have A40:=Aside0.mk A400
                    clear A400
                    by_cases c41 : t290 = true
                    ·subst c41
                     have H1 : (racewayref25_number.l2 k7 a0 (wrap64 (x1_7 + 1)) a1) = some (r1,r2,r3,r4):=by rw [if_pos rfl] at H;exact H
                     clear H
                     have H:=H1
                     clear H1
                     have H':=Aside0.mk H
                     clear H
                     go_wp2_with (first|((with_reducible refine gate_callee (f:=55) rfl ?_);refine goesL_ (some 73) rfl rfl Tryd.func55 (by kernel_rfl) rfl #[.string a0,.int .i64 x1_7] rfl (by (try simp only [List.map_toArray,List.map_cons,List.map_nil]);first|done|rfl|(simp only [List.length_drop,List.length_take];rfl)) ?_;(with_reducible refine (racewayref25_digit.calls a0 x1_7 true _ A40.out).mono ?_);rintro e w' ⟨rfl,⟨nd,rfl⟩⟩;refine ⟨_,rfl,?_⟩))
                     go_roundg k7
                     case measure => have:=HJ3.out;have:=HJ11.out;have:=HJ16.out;have:=HJ26.out;have:=HJ31.out;have:=HJ35.out;have:=HK7.out;omega
                     case rel => exact ⟨(wrap64 (x1_7 + 1)),(by first|rfl|(simp;done)|(simp;decide +kernel)|(simp [*];done)),(by first|exact H'|(subst_vars;exact H')),⟨by have:=HJ3.out;have:=HJ11.out;have:=HJ16.out;have:=HJ26.out;have:=HJ31.out;have:=HJ35.out;have:=HK7.out;omega⟩,⟨by (with_reducible repeat (first|refine blk_drewN ?_ _|refine blk_drew ?_|refine blk_alloc ?_ _));exact BK260.out⟩,⟨by repeat (first|(with_reducible first|exact HB.out|apply below_alloc|apply pw_below_drewN|apply below_drew1|refine below_set ?_ GE260.out)|exact HB.out)⟩⟩
                    ·replace c41:=Bool.eq_false_iff.mpr c41
                     subst c41
                     have H1 : (if 0 ≤ a1 then (if a1 ≤ x1_7 then (if x1_7 ≤ (a0.size : Int) then (some (x1_7,0,([] : List (S46)),a0.extract (a1 : Int).toNat (x1_7 : Int).toNat)) else (none)) else (none)) else (none)) = some (r1,r2,r3,r4):=by rw [if_neg (show ¬ (false = true) by decide)] at H;exact H
                     clear H
                     have H:=H1
                     clear H1
                     by_cases c42 : 0 ≤ a1
                     ·rw [if_pos c42] at H
                      have c42b0:=eq_true c42
                      have c42b1 : decide (0 ≤ a1) = true:=decide_eq_true c42
                      clear c42
                      by_cases c43 : a1 ≤ x1_7
                      ·rw [if_pos c43] at H
                       have c43b0:=eq_true c43
                       have c43b1 : decide (a1 ≤ x1_7) = true:=decide_eq_true c43
                       clear c43
                       by_cases c44 : x1_7 ≤ (a0.size : Int)
                       ·rw [if_pos c44] at H
                        have c44b0:=eq_true c44
                        have c44b1 : decide (x1_7 ≤ (a0.size : Int)) = true:=decide_eq_true c44
                        clear c44
                        simp only [Option.some.injEq,Prod.mk.injEq] at H
                        obtain ⟨rfl,rfl,rfl,rfl⟩:=H
                        go_wp2_with (first|((with_reducible refine gate_callee (f:=55) rfl ?_);refine goesL_ (some 73) rfl rfl Tryd.func55 (by kernel_rfl) rfl #[.string a0,.int .i64 x1_7] rfl (by (try simp only [List.map_toArray,List.map_cons,List.map_nil]);first|done|rfl|(simp only [List.length_drop,List.length_take];rfl)) ?_;(with_reducible refine (racewayref25_digit.calls a0 x1_7 false _ A40.out).mono ?_);rintro e w' ⟨rfl,⟨nd,rfl⟩⟩;refine ⟨_,rfl,?_⟩;(try (rw [drewN_self wr];generalize hq_ : World.drewN wr _ = wr;have n0_ : Aside0 (wr.heap[gb260]? = some (.cells #[.int .i64 x261000_16,.int .i64 x261001_16,.slice none 0 0,.string x261003_16] 67 (0,0))):=⟨by rw [← hq_];exact (by (with_reducible repeat (first|refine blk_drewN ?_ _|refine blk_drew ?_|refine blk_alloc ?_ _));exact BK260.out)⟩;have n1_ : Aside0 (Below w.heap.size w wr):=⟨by rw [← hq_];exact (by repeat (first|(with_reducible first|exact HB.out|apply below_alloc|apply pw_below_drewN|apply below_drew1|refine below_set ?_ GE260.out)|exact HB.out))⟩;clear BK260 HB hq_;have BK260:=n0_;have HB:=n1_;clear n0_ n1_));have hcz45_0 : wr.cell? ⟨gb260,0,none⟩ = some (.int .i64 x261000_16):=(blk_cell BK260.out 0).trans rfl;have hcz45_1 : wr.cell? ⟨gb260,1,none⟩ = some (.int .i64 x261001_16):=(blk_cell BK260.out 1).trans rfl;have hcz45_2 : wr.cell? ⟨gb260,2,none⟩ = some (.slice none 0 0):=(blk_cell BK260.out 2).trans rfl;have hcz45_3 : wr.cell? ⟨gb260,3,none⟩ = some (.string x261003_16):=(blk_cell BK260.out 3).trans rfl;have hfz45_0:=blk_frozen BK260.out 0;have hfz45_1:=blk_frozen BK260.out 1;have hfz45_2:=blk_frozen BK260.out 2;have hfz45_3:=blk_frozen BK260.out 3))
                        refine bodyPost_ret (results_cell_row rfl _ _ gb260 67 #[.int .i64 x1_7,.int .i64 0,.slice none 0 0,.string (a0.extract (a1 : Int).toNat (x1_7 : Int).toNat)] (0,0) _ rfl (by (with_reducible repeat (first|refine blk_drewN ?_ _|refine blk_drew ?_|refine blk_alloc ?_ _));refine blk_put (cs:=#[.int .i64 x1_7,.int .i64 0,.slice none 0 0,.string x261003_16]) ?_ 3 _ rfl;(with_reducible repeat (first|refine blk_drewN ?_ _|refine blk_drew ?_|refine blk_alloc ?_ _));refine blk_put (cs:=#[.int .i64 x1_7,.int .i64 0,.slice none 0 0,.string x261003_16]) ?_ 2 _ rfl;(with_reducible repeat (first|refine blk_drewN ?_ _|refine blk_drew ?_|refine blk_alloc ?_ _));refine blk_put (cs:=#[.int .i64 x1_7,.int .i64 x261001_16,.slice none 0 0,.string x261003_16]) ?_ 1 _ rfl;(with_reducible repeat (first|refine blk_drewN ?_ _|refine blk_drew ?_|refine blk_alloc ?_ _));refine blk_put (cs:=#[.int .i64 x261000_16,.int .i64 x261001_16,.slice none 0 0,.string x261003_16]) ?_ 0 _ rfl;(with_reducible repeat (first|refine blk_drewN ?_ _|refine blk_drew ?_|refine blk_alloc ?_ _));exact BK260.out) Tryd.underlying67 rfl (by kernel_rfl)) rfl ?_
                        exact ⟨_,by first|rfl|(simp [errW_none,errW_some] <;> rfl)|(simp [*,errW_none,errW_some] <;> rfl),by first|exact Kd.R_nil _ _ _ _ _|exact Kd.N_nil _ _ _ _ _|exact Kd.V_nil _ _ _ _ _|exact Kd.Q_nil _ _ _ _ _|exact Kd.S_nil _ _ _ _ _,by repeat (first|(with_reducible first|exact HB.out|apply below_alloc|apply pw_below_drewN|apply below_drew1|refine below_set ?_ GE260.out)|exact HB.out)⟩
                       ·rw [if_neg c44] at H
                        exact absurd H (by simp)
                      ·rw [if_neg c43] at H
                       exact absurd H (by simp)
                     ·rw [if_neg c42] at H
                      exact absurd H (by simp)
                 ·replace c39:=Bool.eq_false_iff.mpr c39
                  subst c39
                  have H1 : ((racewayref25_fail.f x1_35).bind fun bt284 => (some (bt284.1,bt284.2.1,bt284.2.2.1,bt284.2.2.2))) = some (r1,r2,r3,r4):=by rw [if_neg (show ¬ (false = true) by decide)] at H;exact H
                  clear H
                  have H:=H1
                  clear H1
                  replace H:=Option.bind_eq_some_iff.mp H
                  obtain ⟨⟨t284,t285,t286,t289⟩,A460,H⟩:=H
                  replace H : (some (t284,t285,t286,t289)) = some (r1,r2,r3,r4):=H
                  have A46:=Aside0.mk A460
                  clear A460
                  simp only [Option.some.injEq,Prod.mk.injEq] at H
                  obtain ⟨rfl,rfl,rfl,rfl⟩:=H
                  go_wp2_with (first|((with_reducible refine gate_callee (f:=55) rfl ?_);refine goesL_ (some 67) rfl rfl Tryd.func55 (by kernel_rfl) rfl #[.string a0,.int .i64 x1_35] rfl (by (try simp only [List.map_toArray,List.map_cons,List.map_nil]);first|done|rfl|(simp only [List.length_drop,List.length_take];rfl)) ?_;(with_reducible refine (racewayref25_digit.calls a0 x1_35 false _ A38.out).mono ?_);rintro e w' ⟨rfl,⟨nd,rfl⟩⟩;refine ⟨_,rfl,?_⟩;(try (rw [drewN_self wc];generalize hq_ : World.drewN wc _ = wc;have n0_ : Aside0 (wc.heap[gb260]? = some (.cells #[.int .i64 x261000_16,.int .i64 x261001_16,.slice none 0 0,.string x261003_16] 67 (0,0))):=⟨by rw [← hq_];exact (by (with_reducible repeat (first|refine blk_drewN ?_ _|refine blk_drew ?_|refine blk_alloc ?_ _));exact BK260.out)⟩;have n1_ : Aside0 (Below w.heap.size w wc):=⟨by rw [← hq_];exact (by repeat (first|(with_reducible first|exact HB.out|apply below_alloc|apply pw_below_drewN|apply below_drew1|refine below_set ?_ GE260.out)|exact HB.out))⟩;clear BK260 HB hq_;have BK260:=n0_;have HB:=n1_;clear n0_ n1_)))|((with_reducible refine gate_callee (f:=54) rfl ?_);refine goesL_ (some 70) rfl rfl Tryd.func54 (by kernel_rfl) rfl #[.int .i64 x1_35] rfl (by (try simp only [List.map_toArray,List.map_cons,List.map_nil]);first|done|rfl|(simp only [List.length_drop,List.length_take];rfl)) ?_;(with_reducible refine (racewayref25_fail.calls x1_35 t284 t285 t286 t289 _ A46.out).mono ?_);rintro e w47 ⟨v287,rfl,ho0,hb⟩;refine ⟨_,rfl,?_⟩;have n0_:=Aside0.mk (Kd.R_lower ho0 (below_size (by repeat (first|(with_reducible first|exact HB.out|apply below_alloc|apply pw_below_drewN|apply below_drew1|refine below_set ?_ GE260.out)|exact HB.out))));have n1_:=Aside0.mk (blk_below (g:=gb260) (o:=.cells #[.int .i64 x261000_16,.int .i64 x261001_16,.slice none 0 0,.string x261003_16] 67 (0,0)) (by (with_reducible repeat (first|refine blk_drewN ?_ _|refine blk_drew ?_|refine blk_alloc ?_ _));exact BK260.out) hb);have n2_:=Aside0.mk (below_step (by repeat (first|(with_reducible first|exact HB.out|apply below_alloc|apply pw_below_drewN|apply below_drew1|refine below_set ?_ GE260.out)|exact HB.out)) hb);clear BK260;clear HB;have HO288:=n0_;have BK260:=n1_;have HB:=n2_;clear n0_ n1_ n2_;(try clear hb);(try clear hb2);(try clear hk);(try clear hi);(try clear ho0);have hcz48_0 : w47.cell? ⟨gb260,0,none⟩ = some (.int .i64 x261000_16):=(blk_cell BK260.out 0).trans rfl;have hcz48_1 : w47.cell? ⟨gb260,1,none⟩ = some (.int .i64 x261001_16):=(blk_cell BK260.out 1).trans rfl;have hcz48_2 : w47.cell? ⟨gb260,2,none⟩ = some (.slice none 0 0):=(blk_cell BK260.out 2).trans rfl;have hcz48_3 : w47.cell? ⟨gb260,3,none⟩ = some (.string x261003_16):=(blk_cell BK260.out 3).trans rfl;have hfz48_0:=blk_frozen BK260.out 0;have hfz48_1:=blk_frozen BK260.out 1;have hfz48_2:=blk_frozen BK260.out 2;have hfz48_3:=blk_frozen BK260.out 3;obtain ⟨Ao49,co49,eo49⟩:=Kd.R_slice HO288.out;subst eo49))
                  refine bodyPost_ret (results_cell_row rfl _ _ gb260 67 #[.int .i64 t284,.int .i64 t285,.slice Ao49 t286.length co49,.string t289] (0,0) _ rfl (by (with_reducible repeat (first|refine blk_drewN ?_ _|refine blk_drew ?_|refine blk_alloc ?_ _));refine blk_put (cs:=#[.int .i64 t284,.int .i64 t285,.slice Ao49 t286.length co49,.string x261003_16]) ?_ 3 _ rfl;(with_reducible repeat (first|refine blk_drewN ?_ _|refine blk_drew ?_|refine blk_alloc ?_ _));refine blk_put (cs:=#[.int .i64 t284,.int .i64 t285,.slice none 0 0,.string x261003_16]) ?_ 2 _ rfl;(with_reducible repeat (first|refine blk_drewN ?_ _|refine blk_drew ?_|refine blk_alloc ?_ _));refine blk_put (cs:=#[.int .i64 t284,.int .i64 x261001_16,.slice none 0 0,.string x261003_16]) ?_ 1 _ rfl;(with_reducible repeat (first|refine blk_drewN ?_ _|refine blk_drew ?_|refine blk_alloc ?_ _));refine blk_put (cs:=#[.int .i64 x261000_16,.int .i64 x261001_16,.slice none 0 0,.string x261003_16]) ?_ 0 _ rfl;(with_reducible repeat (first|refine blk_drewN ?_ _|refine blk_drew ?_|refine blk_alloc ?_ _));exact BK260.out) Tryd.underlying67 rfl (by kernel_rfl)) rfl ?_
                  exact ⟨_,by first|rfl|(simp [errW_none,errW_some] <;> rfl)|(simp [*,errW_none,errW_some] <;> rfl),by (with_reducible repeat (first|apply Kd.R_alloc|apply Kd.R_drewN|apply Kd.R_drew));exact Kd.R_mono (Kd.R_far (p:=⟨gb260,3,none⟩) (Kd.R_far (p:=⟨gb260,2,none⟩) (Kd.R_far (p:=⟨gb260,1,none⟩) (Kd.R_far (p:=⟨gb260,0,none⟩) (Kd.R_types HO288.out BK260.out (by decide)) (fun _ hk => hk.2) (.int .i64 t284)) (fun _ hk => hk.2) (.int .i64 t285)) (fun _ hk => hk.2) (.slice Ao49 t286.length co49)) (fun _ hk => hk.2) (.string t289)) (fun _ hk => trivial),by repeat (first|(with_reducible first|exact HB.out|apply below_alloc|apply pw_below_drewN|apply below_drew1|refine below_set ?_ GE260.out)|exact HB.out)⟩
            ·replace c31:=Bool.eq_false_iff.mpr c31
             subst c31
             have H1 : (if 0 ≤ a1 then (if a1 ≤ x1_16 then (if x1_16 ≤ (a0.size : Int) then (some (x1_16,0,([] : List (S46)),a0.extract (a1 : Int).toNat (x1_16 : Int).toNat)) else (none)) else (none)) else (none)) = some (r1,r2,r3,r4):=by rw [if_neg (show ¬ (false = true) by decide)] at H;exact H
             clear H
             have H:=H1
             clear H1
             by_cases c50 : 0 ≤ a1
             ·rw [if_pos c50] at H
              have c50b0:=eq_true c50
              have c50b1 : decide (0 ≤ a1) = true:=decide_eq_true c50
              clear c50
              by_cases c51 : a1 ≤ x1_16
              ·rw [if_pos c51] at H
               have c51b0:=eq_true c51
               have c51b1 : decide (a1 ≤ x1_16) = true:=decide_eq_true c51
               clear c51
               by_cases c52 : x1_16 ≤ (a0.size : Int)
               ·rw [if_pos c52] at H
                have c52b0:=eq_true c52
                have c52b1 : decide (x1_16 ≤ (a0.size : Int)) = true:=decide_eq_true c52
                clear c52
                simp only [Option.some.injEq,Prod.mk.injEq] at H
                obtain ⟨rfl,rfl,rfl,rfl⟩:=H
                have hcz53_0 : wc.cell? ⟨gb260,0,none⟩ = some (.int .i64 x261000_16):=(blk_cell BK260.out 0).trans rfl
                have hcz53_1 : wc.cell? ⟨gb260,1,none⟩ = some (.int .i64 x261001_16):=(blk_cell BK260.out 1).trans rfl
                have hcz53_2 : wc.cell? ⟨gb260,2,none⟩ = some (.slice none 0 0):=(blk_cell BK260.out 2).trans rfl
                have hcz53_3 : wc.cell? ⟨gb260,3,none⟩ = some (.string x261003_16):=(blk_cell BK260.out 3).trans rfl
                have hfz53_0:=blk_frozen BK260.out 0
                have hfz53_1:=blk_frozen BK260.out 1
                have hfz53_2:=blk_frozen BK260.out 2
                have hfz53_3:=blk_frozen BK260.out 3
                go_wp2
                refine bodyPost_ret (results_cell_row rfl _ _ gb260 67 #[.int .i64 x1_16,.int .i64 0,.slice none 0 0,.string (a0.extract (a1 : Int).toNat (x1_16 : Int).toNat)] (0,0) _ rfl (by (with_reducible repeat (first|refine blk_drewN ?_ _|refine blk_drew ?_|refine blk_alloc ?_ _));refine blk_put (cs:=#[.int .i64 x1_16,.int .i64 0,.slice none 0 0,.string x261003_16]) ?_ 3 _ rfl;(with_reducible repeat (first|refine blk_drewN ?_ _|refine blk_drew ?_|refine blk_alloc ?_ _));refine blk_put (cs:=#[.int .i64 x1_16,.int .i64 0,.slice none 0 0,.string x261003_16]) ?_ 2 _ rfl;(with_reducible repeat (first|refine blk_drewN ?_ _|refine blk_drew ?_|refine blk_alloc ?_ _));refine blk_put (cs:=#[.int .i64 x1_16,.int .i64 x261001_16,.slice none 0 0,.string x261003_16]) ?_ 1 _ rfl;(with_reducible repeat (first|refine blk_drewN ?_ _|refine blk_drew ?_|refine blk_alloc ?_ _));refine blk_put (cs:=#[.int .i64 x261000_16,.int .i64 x261001_16,.slice none 0 0,.string x261003_16]) ?_ 0 _ rfl;(with_reducible repeat (first|refine blk_drewN ?_ _|refine blk_drew ?_|refine blk_alloc ?_ _));exact BK260.out) Tryd.underlying67 rfl (by kernel_rfl)) rfl ?_
                exact ⟨_,by first|rfl|(simp [errW_none,errW_some] <;> rfl)|(simp [*,errW_none,errW_some] <;> rfl),by first|exact Kd.R_nil _ _ _ _ _|exact Kd.N_nil _ _ _ _ _|exact Kd.V_nil _ _ _ _ _|exact Kd.Q_nil _ _ _ _ _|exact Kd.S_nil _ _ _ _ _,by repeat (first|(with_reducible first|exact HB.out|apply below_alloc|apply pw_below_drewN|apply below_drew1|refine below_set ?_ GE260.out)|exact HB.out)⟩
               ·rw [if_neg c52] at H
                exact absurd H (by simp)
              ·rw [if_neg c51] at H
               exact absurd H (by simp)
             ·rw [if_neg c50] at H
              exact absurd H (by simp)
     ·rw [if_neg c10] at H
      exact absurd H (by simp)
    ·rw [if_neg c9] at H
     exact absurd H (by simp)
   ·replace c8:=Bool.eq_false_iff.mpr c8
    subst c8
    have H1 : ((racewayref25_fail.f x1_3).bind fun bt263 => (some (bt263.1,bt263.2.1,bt263.2.2.1,bt263.2.2.2))) = some (r1,r2,r3,r4):=by rw [if_neg (show ¬ (false = true) by decide)] at H;exact H
    clear H
    have H:=H1
    clear H1
    replace H:=Option.bind_eq_some_iff.mp H
    obtain ⟨⟨t263,t264,t265,t268⟩,A540,H⟩:=H
    replace H : (some (t263,t264,t265,t268)) = some (r1,r2,r3,r4):=H
    have A54:=Aside0.mk A540
    clear A540
    simp only [Option.some.injEq,Prod.mk.injEq] at H
    obtain ⟨rfl,rfl,rfl,rfl⟩:=H
    go_wp2_with (first|((with_reducible refine gate_callee (f:=55) rfl ?_);refine goesL_ (some 14) rfl rfl Tryd.func55 (by kernel_rfl) rfl #[.string a0,.int .i64 x1_3] rfl (by (try simp only [List.map_toArray,List.map_cons,List.map_nil]);first|done|rfl|(simp only [List.length_drop,List.length_take];rfl)) ?_;(with_reducible refine (racewayref25_digit.calls a0 x1_3 false _ A7.out).mono ?_);rintro e w' ⟨rfl,⟨nd,rfl⟩⟩;refine ⟨_,rfl,?_⟩;(try (rw [drewN_self wc];generalize hq_ : World.drewN wc _ = wc;have n0_ : Aside0 (wc.heap[gb260]? = some (.cells #[.int .i64 0,.int .i64 0,.slice none 0 0,.string (⟨#[]⟩ : ByteArray)] 67 (0,0))):=⟨by rw [← hq_];exact (by (with_reducible repeat (first|refine blk_drewN ?_ _|refine blk_drew ?_|refine blk_alloc ?_ _));exact BK260.out)⟩;have n1_ : Aside0 (Below w.heap.size w wc):=⟨by rw [← hq_];exact (by repeat (first|(with_reducible first|exact HB.out|apply below_alloc|apply pw_below_drewN|apply below_drew1|refine below_set ?_ GE260.out)|exact HB.out))⟩;clear BK260 HB hq_;have BK260:=n0_;have HB:=n1_;clear n0_ n1_)))|((with_reducible refine gate_callee (f:=54) rfl ?_);refine goesL_ (some 17) rfl rfl Tryd.func54 (by kernel_rfl) rfl #[.int .i64 x1_3] rfl (by (try simp only [List.map_toArray,List.map_cons,List.map_nil]);first|done|rfl|(simp only [List.length_drop,List.length_take];rfl)) ?_;(with_reducible refine (racewayref25_fail.calls x1_3 t263 t264 t265 t268 _ A54.out).mono ?_);rintro e w55 ⟨v266,rfl,ho0,hb⟩;refine ⟨_,rfl,?_⟩;have n0_:=Aside0.mk (Kd.R_lower ho0 (below_size (by repeat (first|(with_reducible first|exact HB.out|apply below_alloc|apply pw_below_drewN|apply below_drew1|refine below_set ?_ GE260.out)|exact HB.out))));have n1_:=Aside0.mk (blk_below (g:=gb260) (o:=.cells #[.int .i64 0,.int .i64 0,.slice none 0 0,.string (⟨#[]⟩ : ByteArray)] 67 (0,0)) (by (with_reducible repeat (first|refine blk_drewN ?_ _|refine blk_drew ?_|refine blk_alloc ?_ _));exact BK260.out) hb);have n2_:=Aside0.mk (below_step (by repeat (first|(with_reducible first|exact HB.out|apply below_alloc|apply pw_below_drewN|apply below_drew1|refine below_set ?_ GE260.out)|exact HB.out)) hb);clear BK260;clear HB;have HO267:=n0_;have BK260:=n1_;have HB:=n2_;clear n0_ n1_ n2_;(try clear hb);(try clear hb2);(try clear hk);(try clear hi);(try clear ho0);have hcz56_0 : w55.cell? ⟨gb260,0,none⟩ = some (.int .i64 0):=(blk_cell BK260.out 0).trans rfl;have hcz56_1 : w55.cell? ⟨gb260,1,none⟩ = some (.int .i64 0):=(blk_cell BK260.out 1).trans rfl;have hcz56_2 : w55.cell? ⟨gb260,2,none⟩ = some (.slice none 0 0):=(blk_cell BK260.out 2).trans rfl;have hcz56_3 : w55.cell? ⟨gb260,3,none⟩ = some (.string (⟨#[]⟩ : ByteArray)):=(blk_cell BK260.out 3).trans rfl;have hfz56_0:=blk_frozen BK260.out 0;have hfz56_1:=blk_frozen BK260.out 1;have hfz56_2:=blk_frozen BK260.out 2;have hfz56_3:=blk_frozen BK260.out 3;obtain ⟨Ao57,co57,eo57⟩:=Kd.R_slice HO267.out;subst eo57))
    refine bodyPost_ret (results_cell_row rfl _ _ gb260 67 #[.int .i64 t263,.int .i64 t264,.slice Ao57 t265.length co57,.string t268] (0,0) _ rfl (by (with_reducible repeat (first|refine blk_drewN ?_ _|refine blk_drew ?_|refine blk_alloc ?_ _));refine blk_put (cs:=#[.int .i64 t263,.int .i64 t264,.slice Ao57 t265.length co57,.string (⟨#[]⟩ : ByteArray)]) ?_ 3 _ rfl;(with_reducible repeat (first|refine blk_drewN ?_ _|refine blk_drew ?_|refine blk_alloc ?_ _));refine blk_put (cs:=#[.int .i64 t263,.int .i64 t264,.slice none 0 0,.string (⟨#[]⟩ : ByteArray)]) ?_ 2 _ rfl;(with_reducible repeat (first|refine blk_drewN ?_ _|refine blk_drew ?_|refine blk_alloc ?_ _));refine blk_put (cs:=#[.int .i64 t263,.int .i64 0,.slice none 0 0,.string (⟨#[]⟩ : ByteArray)]) ?_ 1 _ rfl;(with_reducible repeat (first|refine blk_drewN ?_ _|refine blk_drew ?_|refine blk_alloc ?_ _));refine blk_put (cs:=#[.int .i64 0,.int .i64 0,.slice none 0 0,.string (⟨#[]⟩ : ByteArray)]) ?_ 0 _ rfl;(with_reducible repeat (first|refine blk_drewN ?_ _|refine blk_drew ?_|refine blk_alloc ?_ _));exact BK260.out) Tryd.underlying67 rfl (by kernel_rfl)) rfl ?_
    exact ⟨_,by first|rfl|(simp [errW_none,errW_some] <;> rfl)|(simp [*,errW_none,errW_some] <;> rfl),by (with_reducible repeat (first|apply Kd.R_alloc|apply Kd.R_drewN|apply Kd.R_drew));exact Kd.R_mono (Kd.R_far (p:=⟨gb260,3,none⟩) (Kd.R_far (p:=⟨gb260,2,none⟩) (Kd.R_far (p:=⟨gb260,1,none⟩) (Kd.R_far (p:=⟨gb260,0,none⟩) (Kd.R_types HO267.out BK260.out (by decide)) (fun _ hk => hk.2) (.int .i64 t263)) (fun _ hk => hk.2) (.int .i64 t264)) (fun _ hk => hk.2) (.slice Ao57 t265.length co57)) (fun _ hk => hk.2) (.string t268)) (fun _ hk => trivial),by repeat (first|(with_reducible first|exact HB.out|apply below_alloc|apply pw_below_drewN|apply below_drew1|refine below_set ?_ GE260.out)|exact HB.out)⟩
end Go.Proofs.YtadfkeipcebmfaaDoor.X
namespace Go.Proofs.YtadfkeipcebmfaaDoor.X
open Go.RowKit Go.Proofs.YtadfkeipcebmfaaDoorW.PrintWords Go.Proofs.YtadfkeipcebmfaaDoorW.PrintLast Go.Proofs.YtadfkeipcebmfaaDoorW.PrintMore
attribute [local go_sem] max2_int min2_int max_two min_two max_three min_three max_four min_four
set_option linter.unusedVariables false
set_option linter.unusedSimpArgs false
mutual
def racewayref25_Sign.j0 : Nat → ByteArray → Int → Int → Int → Int → Int → Bool → Option (Int)
 | 0,_,_,_,_,_,_,_ => none
 | k + 1,x0,x1,x5,x6,x7,x8,x22 => if x22 = true then (racewayref25_Sign.j2 k x0 x1 2 (wrap64 (x5 - 192)) 128) else (if x5 ≥ 224 then (racewayref25_Sign.j1 k x0 x1 x5 x6 x7 x8 (decide (x5 ≤ 239))) else (racewayref25_Sign.j1 k x0 x1 x5 x6 x7 x8 false))
def racewayref25_Sign.j2 : Nat → ByteArray → Int → Int → Int → Int → Option (Int)
 | 0,_,_,_,_,_ => none
 | k + 1,x0,x1,x6,x7,x8 => if x6 = 0 then (racewayref25_Sign.j3 k x0 x1 x6 x7 x8 true) else (racewayref25_Sign.j3 k x0 x1 x6 x7 x8 (decide ((wrap64 (x1 + x6)) > (x0.size : Int))))
def racewayref25_Sign.j3 : Nat → ByteArray → Int → Int → Int → Int → Bool → Option (Int)
 | 0,_,_,_,_,_,_ => none
 | k + 1,x0,x1,x6,x7,x8,x50 => if x50 = true then (some 0) else (racewayref25_Sign.l0 k x0 x1 x6 x7 x8 1)
def racewayref25_Sign.l0 : Nat → ByteArray → Int → Int → Int → Int → Int → Option (Int)
 | 0,_,_,_,_,_,_ => none
 | k + 1,x0,x1,x6,x7,x8,x9 => if x9 < x6 then (if 0 ≤ (wrap64 (x1 + x9)) then (if (wrap64 (x1 + x9)) < (x0.size : Int) then (if (wrap64 (bt x0 (wrap64 (x1 + x9)))) < 128 then (some 0) else (if (wrap64 (bt x0 (wrap64 (x1 + x9)))) > 191 then (some 0) else (racewayref25_Sign.l0 k x0 x1 x6 (wrap64 ((wrap64 ((wrap64 (64 * x7)) + (wrap64 (bt x0 (wrap64 (x1 + x9)))))) - 128)) x8 (wrap64 (x9 + 1))))) else (none)) else (none)) else (if x7 < x8 then (some 0) else (if x7 > 1114111 then (some 0) else (if x7 ≥ 55296 then (if x7 ≤ 57343 then (some 0) else (some x6)) else (some x6))))
def racewayref25_Sign.j1 : Nat → ByteArray → Int → Int → Int → Int → Int → Bool → Option (Int)
 | 0,_,_,_,_,_,_,_ => none
 | k + 1,x0,x1,x5,x6,x7,x8,x30 => if x30 = true then (racewayref25_Sign.j2 k x0 x1 3 (wrap64 (x5 - 224)) 2048) else (if x5 ≥ 240 then (if x5 ≤ 244 then (racewayref25_Sign.j2 k x0 x1 4 (wrap64 (x5 - 240)) 65536) else (racewayref25_Sign.j2 k x0 x1 x6 x7 x8)) else (racewayref25_Sign.j2 k x0 x1 x6 x7 x8))
end
def racewayref25_Sign.f (k : Nat) (a0 : ByteArray) (a1 : Int) : Option (Int):=if 0 ≤ a1 then (if a1 < (a0.size : Int) then (if (wrap64 (bt a0 a1)) < 128 then (some 1) else (if (wrap64 (bt a0 a1)) ≥ 194 then (racewayref25_Sign.j0 k a0 a1 (wrap64 (bt a0 a1)) 0 0 0 (decide ((wrap64 (bt a0 a1)) ≤ 223))) else (racewayref25_Sign.j0 k a0 a1 (wrap64 (bt a0 a1)) 0 0 0 false))) else (none)) else (none)
set_option maxHeartbeats 8000000 in
set_option maxRecDepth 100000 in
theorem racewayref25_Sign.calls (k : Nat) (a0 : ByteArray) (a1 : Int) (r : Int) (w : World) (h : racewayref25_Sign.f k a0 a1 = some r) :
  Calls Tryd.prog 44 #[.string a0,.int .i64 a1] w fun e w' => e = .returned (.int .i64 r) ∧ Drawn0 w w':=by
 have H : (if 0 ≤ a1 then (if a1 < (a0.size : Int) then (if (wrap64 (bt a0 a1)) < 128 then (some 1) else (if (wrap64 (bt a0 a1)) ≥ 194 then (racewayref25_Sign.j0 k a0 a1 (wrap64 (bt a0 a1)) 0 0 0 (decide ((wrap64 (bt a0 a1)) ≤ 223))) else (racewayref25_Sign.j0 k a0 a1 (wrap64 (bt a0 a1)) 0 0 0 false))) else (none)) else (none)) = some r:=h
 clear h
 by_cases c3 : 0 ≤ a1
 ·rw [if_pos c3] at H
  have c3b0 : decide (0 ≤ a1) = true:=decide_eq_true c3
  clear c3
  by_cases c4 : a1 < (a0.size : Int)
  ·rw [if_pos c4] at H
   have c4b0 : decide (a1 < (a0.size : Int)) = true:=decide_eq_true c4
   clear c4
   by_cases c6 : (wrap64 (bt a0 a1)) < 128
   ·rw [if_pos c6] at H
    have c6b0 : decide ((wrap64 (bt a0 a1)) < 128) = true:=decide_eq_true c6
    clear c6
    obtain rfl:=Option.some.inj H
    have p5 : 0 ≤ (a1 : Int):=of_decide_eq_true (by first|(with_reducible assumption)|assumption)
    have q5 : a1 < (a0.size : Int):=of_decide_eq_true (by first|(with_reducible assumption)|assumption)
    have hx5:=bt_at a0 a1
    replace p5:=eq_true p5
    replace q5:=eq_true q5
    go_enter Tryd.func44,Tryd.ntmps44
    go_wp2
    go_ret
    exact ⟨by first|rfl|(simp;done)|(simp;decide +kernel)|(simp [*];done),by repeat (first|exact Drawn0.refl _|apply Drawn0.step)⟩
   ·rw [if_neg c6] at H
    have c6b0 : decide ((wrap64 (bt a0 a1)) < 128) = false:=decide_eq_false c6
    clear c6
    have HC7:=Aside0.mk H
    clear H
    have p5 : 0 ≤ (a1 : Int):=of_decide_eq_true (by first|(with_reducible assumption)|assumption)
    have q5 : a1 < (a0.size : Int):=of_decide_eq_true (by first|(with_reducible assumption)|assumption)
    have hx5:=bt_at a0 a1
    replace p5:=eq_true p5
    replace q5:=eq_true q5
    go_enter Tryd.func44,Tryd.ntmps44
    go_upto_region 7 with (fail)
    go_cut [22] (fun v22 wc => ∃ (kq : Nat) (x22_6 : Bool),v22 = .bool x22_6 ∧ Aside0 (racewayref25_Sign.j0 kq a0 a1 (wrap64 (bt a0 a1)) 0 0 0 x22_6 = some r) ∧ Aside0 (kq ≤ k) ∧ Drawn0 w wc)
    case first =>
     have H:=HC7.out
     clear HC7
     by_cases c8 : (wrap64 (bt a0 a1)) ≥ 194
     ·rw [if_pos c8] at H
      have c8b0 : decide (194 ≤ (wrap64 (bt a0 a1))) = true:=decide_eq_true c8
      clear c8
      (first|rw [c8b0]|(simp only [i64_w,i32_w];rw [c8b0])|skip)
      have H':=Aside0.mk H
      clear H
      go_wp2
      go_meet
      case rel => exact ⟨_,(decide ((wrap64 (bt a0 a1)) ≤ 223)),(by first|rfl|(simp;done)|(simp;decide +kernel)|(simp [*];done)),(by first|exact H'|(subst_vars;exact H')),⟨by first|omega|exact Nat.le_refl _⟩,by repeat (first|exact Drawn0.refl _|apply Drawn0.step)⟩
     ·rw [if_neg c8] at H
      have c8b0 : decide (194 ≤ (wrap64 (bt a0 a1))) = false:=decide_eq_false c8
      clear c8
      (first|rw [c8b0]|(simp only [i64_w,i32_w];rw [c8b0])|skip)
      have H':=Aside0.mk H
      clear H
      go_wp2
      go_meet
      case rel => exact ⟨_,(false),(by first|rfl|(simp;done)|(simp;decide +kernel)|(simp [*];done)),(by first|exact H'|(subst_vars;exact H')),⟨by first|omega|exact Nat.le_refl _⟩,by repeat (first|exact Drawn0.refl _|apply Drawn0.step)⟩
    case rest =>
     clear HC7
     try clear p2
     try clear c3
     try clear c3b0
     try clear c4
     try clear c4b0
     try clear p5
     try clear q5
     try clear hx5
     try clear c6
     try clear c6b0
     try clear p6
     try clear c8
     try clear c8b0
     try clear p5
     try clear q5
     obtain ⟨kq,x22_6,rfl,HA,HJ6,⟨mc6,rfl⟩⟩:=hcut
     cases kq with
     | zero => exact absurd HA.out (by simp [racewayref25_Sign.j0])
     | succ kj6 =>
      have H:=HA.out
      clear HA
      simp only [racewayref25_Sign.j0] at H
      have HC9:=Aside0.mk H
      clear H
      go_upto_if 22 with (fail)
      go_cut [6,7,8] (fun v6 v7 v8 wc => ∃ (kq : Nat) (x6_8 : Int) (x7_8 : Int) (x8_8 : Int),v6 = .int .i64 x6_8 ∧ v7 = .int .i64 x7_8 ∧ v8 = .int .i64 x8_8 ∧ Aside0 (racewayref25_Sign.j2 kq a0 a1 x6_8 x7_8 x8_8 = some r) ∧ Aside0 (kq ≤ kj6) ∧ Drawn0 w wc)
      case first =>
       have H:=HC9.out
       clear HC9
       by_cases c10 : x22_6 = true
       ·subst c10
        have H1 : (racewayref25_Sign.j2 kj6 a0 a1 2 (wrap64 ((wrap64 (bt a0 a1)) - 192)) 128) = some r:=by rw [if_pos rfl] at H;exact H
        clear H
        have H:=H1
        clear H1
        have H':=Aside0.mk H
        clear H
        go_wp2
        go_meet
        case rel => exact ⟨_,(2),(wrap64 ((wrap64 (bt a0 a1)) - 192)),(128),(by first|rfl|(simp;done)|(simp;decide +kernel)|(simp [*];done)),(by first|rfl|(simp;done)|(simp;decide +kernel)|(simp [*];done)),(by first|rfl|(simp;done)|(simp;decide +kernel)|(simp [*];done)),(by first|exact H'|(subst_vars;exact H')),⟨by have:=HJ6.out;first|omega|exact Nat.le_refl _⟩,by repeat (first|exact Drawn0.refl _|apply Drawn0.step)⟩
       ·replace c10:=Bool.eq_false_iff.mpr c10
        subst c10
        have H1 : (if (wrap64 (bt a0 a1)) ≥ 224 then (racewayref25_Sign.j1 kj6 a0 a1 (wrap64 (bt a0 a1)) 0 0 0 (decide ((wrap64 (bt a0 a1)) ≤ 239))) else (racewayref25_Sign.j1 kj6 a0 a1 (wrap64 (bt a0 a1)) 0 0 0 false)) = some r:=by rw [if_neg (show ¬ (false = true) by decide)] at H;exact H
        clear H
        have H:=H1
        clear H1
        have HC11:=Aside0.mk H
        clear H
        go_upto_region 11 with (fail)
        go_cut [30] (fun v30 wc => ∃ (kq : Nat) (x30_10 : Bool),v30 = .bool x30_10 ∧ Aside0 (racewayref25_Sign.j1 kq a0 a1 (wrap64 (bt a0 a1)) 0 0 0 x30_10 = some r) ∧ Aside0 (kq ≤ kj6) ∧ Drawn0 w wc)
        case first =>
         have H:=HC11.out
         clear HC11
         by_cases c12 : (wrap64 (bt a0 a1)) ≥ 224
         ·rw [if_pos c12] at H
          have c12b0 : decide (224 ≤ (wrap64 (bt a0 a1))) = true:=decide_eq_true c12
          clear c12
          (first|rw [c12b0]|(simp only [i64_w,i32_w];rw [c12b0])|skip)
          have H':=Aside0.mk H
          clear H
          go_wp2
          go_meet
          case rel => exact ⟨_,(decide ((wrap64 (bt a0 a1)) ≤ 239)),(by first|rfl|(simp;done)|(simp;decide +kernel)|(simp [*];done)),(by first|exact H'|(subst_vars;exact H')),⟨by have:=HJ6.out;first|omega|exact Nat.le_refl _⟩,by repeat (first|exact Drawn0.refl _|apply Drawn0.step)⟩
         ·rw [if_neg c12] at H
          have c12b0 : decide (224 ≤ (wrap64 (bt a0 a1))) = false:=decide_eq_false c12
          clear c12
          (first|rw [c12b0]|(simp only [i64_w,i32_w];rw [c12b0])|skip)
          have H':=Aside0.mk H
          clear H
          go_wp2
          go_meet
          case rel => exact ⟨_,(false),(by first|rfl|(simp;done)|(simp;decide +kernel)|(simp [*];done)),(by first|exact H'|(subst_vars;exact H')),⟨by have:=HJ6.out;first|omega|exact Nat.le_refl _⟩,by repeat (first|exact Drawn0.refl _|apply Drawn0.step)⟩
        case rest =>
         clear HC11
         try clear c1
         try clear p2
         try clear c3
         try clear c3b0
         try clear c4
         try clear c4b0
         try clear p5
         try clear q5
         try clear hx5
         try clear c6
         try clear c6b0
         try clear p6
         try clear c8
         try clear c8b0
         try clear c10
         try clear c12
         try clear c12b0
         try clear p2
         try clear p5
         try clear p6
         try clear q5
         obtain ⟨kq,x30_10,rfl,HA,HJ10,⟨mc10,rfl⟩⟩:=hcut
         cases kq with
         | zero => exact absurd HA.out (by simp [racewayref25_Sign.j1])
         | succ kj10 =>
          have H:=HA.out
          clear HA
          simp only [racewayref25_Sign.j1] at H
          by_cases c13 : x30_10 = true
          ·subst c13
           have H1 : (racewayref25_Sign.j2 kj10 a0 a1 3 (wrap64 ((wrap64 (bt a0 a1)) - 224)) 2048) = some r:=by rw [if_pos rfl] at H;exact H
           clear H
           have H:=H1
           clear H1
           have H':=Aside0.mk H
           clear H
           go_wp2
           go_meet
           case rel => exact ⟨_,(3),(wrap64 ((wrap64 (bt a0 a1)) - 224)),(2048),(by first|rfl|(simp;done)|(simp;decide +kernel)|(simp [*];done)),(by first|rfl|(simp;done)|(simp;decide +kernel)|(simp [*];done)),(by first|rfl|(simp;done)|(simp;decide +kernel)|(simp [*];done)),(by first|exact H'|(subst_vars;exact H')),⟨by have:=HJ6.out;have:=HJ10.out;first|omega|exact Nat.le_refl _⟩,by repeat (first|exact Drawn0.refl _|apply Drawn0.step)⟩
          ·replace c13:=Bool.eq_false_iff.mpr c13
           subst c13
           have H1 : (if (wrap64 (bt a0 a1)) ≥ 240 then (if (wrap64 (bt a0 a1)) ≤ 244 then (racewayref25_Sign.j2 kj10 a0 a1 4 (wrap64 ((wrap64 (bt a0 a1)) - 240)) 65536) else (racewayref25_Sign.j2 kj10 a0 a1 0 0 0)) else (racewayref25_Sign.j2 kj10 a0 a1 0 0 0)) = some r:=by rw [if_neg (show ¬ (false = true) by decide)] at H;exact H
           clear H
           have H:=H1
           clear H1
           by_cases c14 : (wrap64 (bt a0 a1)) ≥ 240
           ·rw [if_pos c14] at H
            have c14b0 : decide (240 ≤ (wrap64 (bt a0 a1))) = true:=decide_eq_true c14
            clear c14
            by_cases c15 : (wrap64 (bt a0 a1)) ≤ 244
            ·rw [if_pos c15] at H
             have c15b0 : decide ((wrap64 (bt a0 a1)) ≤ 244) = true:=decide_eq_true c15
             clear c15
             have H':=Aside0.mk H
             clear H
             go_wp2
             go_meet
             case rel => exact ⟨_,(4),(wrap64 ((wrap64 (bt a0 a1)) - 240)),(65536),(by first|rfl|(simp;done)|(simp;decide +kernel)|(simp [*];done)),(by first|rfl|(simp;done)|(simp;decide +kernel)|(simp [*];done)),(by first|rfl|(simp;done)|(simp;decide +kernel)|(simp [*];done)),(by first|exact H'|(subst_vars;exact H')),⟨by have:=HJ6.out;have:=HJ10.out;first|omega|exact Nat.le_refl _⟩,by repeat (first|exact Drawn0.refl _|apply Drawn0.step)⟩
            ·rw [if_neg c15] at H
             have c15b0 : decide ((wrap64 (bt a0 a1)) ≤ 244) = false:=decide_eq_false c15
             clear c15
             have H':=Aside0.mk H
             clear H
             go_wp2
             go_meet
             case rel => exact ⟨_,(0),(0),(0),(by first|rfl|(simp;done)|(simp;decide +kernel)|(simp [*];done)),(by first|rfl|(simp;done)|(simp;decide +kernel)|(simp [*];done)),(by first|rfl|(simp;done)|(simp;decide +kernel)|(simp [*];done)),(by first|exact H'|(subst_vars;exact H')),⟨by have:=HJ6.out;have:=HJ10.out;first|omega|exact Nat.le_refl _⟩,by repeat (first|exact Drawn0.refl _|apply Drawn0.step)⟩
           ·rw [if_neg c14] at H
            have c14b0 : decide (240 ≤ (wrap64 (bt a0 a1))) = false:=decide_eq_false c14
            clear c14
            have H':=Aside0.mk H
            clear H
            go_wp2
            go_meet
            case rel => exact ⟨_,(0),(0),(0),(by first|rfl|(simp;done)|(simp;decide +kernel)|(simp [*];done)),(by first|rfl|(simp;done)|(simp;decide +kernel)|(simp [*];done)),(by first|rfl|(simp;done)|(simp;decide +kernel)|(simp [*];done)),(by first|exact H'|(subst_vars;exact H')),⟨by have:=HJ6.out;have:=HJ10.out;first|omega|exact Nat.le_refl _⟩,by repeat (first|exact Drawn0.refl _|apply Drawn0.step)⟩
      case rest =>
       clear HC9
       try clear c1
       try clear p2
       try clear c3
       try clear c3b0
       try clear c4
       try clear c4b0
       try clear p5
       try clear q5
       try clear hx5
       try clear c6
       try clear c6b0
       try clear p6
       try clear c8
       try clear c8b0
       try clear c10
       try clear c12
       try clear c12b0
       try clear c13
       try clear c14
       try clear c14b0
       try clear c15
       try clear c15b0
       try clear p2
       try clear p5
       try clear p6
       try clear q5
       obtain ⟨kq,x6_8,x7_8,x8_8,rfl,rfl,rfl,HA,HJ8,⟨mc8,rfl⟩⟩:=hcut
       cases kq with
       | zero => exact absurd HA.out (by simp [racewayref25_Sign.j2])
       | succ kj8 =>
        have H:=HA.out
        clear HA
        simp only [racewayref25_Sign.j2] at H
        have HC16:=Aside0.mk H
        clear H
        go_upto_region 19 with (fail)
        go_cut [50] (fun v50 wc => ∃ (kq : Nat) (x50_15 : Bool),v50 = .bool x50_15 ∧ Aside0 (racewayref25_Sign.j3 kq a0 a1 x6_8 x7_8 x8_8 x50_15 = some r) ∧ Aside0 (kq ≤ kj8) ∧ Drawn0 w wc)
        case first =>
         have H:=HC16.out
         clear HC16
         by_cases c17 : x6_8 = 0
         ·rw [if_pos c17] at H
          have c17b0 : (x6_8 == 0) = true:=beq_iff_eq.mpr c17
          have c17b1 : (x6_8 != 0) = false:=bne_eq_false_iff_eq.mpr c17
          clear c17
          (first|rw [c17b0]|(simp only [i64_w,i32_w];rw [c17b0])|skip)
          have H':=Aside0.mk H
          clear H
          go_wp2
          go_meet
          case rel => exact ⟨_,(true),(by first|rfl|(simp;done)|(simp;decide +kernel)|(simp [*];done)),(by first|exact H'|(subst_vars;exact H')),⟨by have:=HJ6.out;have:=HJ8.out;first|omega|exact Nat.le_refl _⟩,by repeat (first|exact Drawn0.refl _|apply Drawn0.step)⟩
         ·rw [if_neg c17] at H
          have c17b0 : (x6_8 == 0) = false:=beq_eq_false_iff_ne.mpr c17
          have c17b1 : (x6_8 != 0) = true:=bne_iff_ne.mpr c17
          (first|rw [c17b0]|(simp only [i64_w,i32_w];rw [c17b0])|skip)
          have H':=Aside0.mk H
          clear H
          go_wp2
          go_meet
          case rel => exact ⟨_,(decide ((wrap64 (a1 + x6_8)) > (a0.size : Int))),(by first|rfl|(simp;done)|(simp;decide +kernel)|(simp [*];done)),(by first|exact H'|(subst_vars;exact H')),⟨by have:=HJ6.out;have:=HJ8.out;first|omega|exact Nat.le_refl _⟩,by repeat (first|exact Drawn0.refl _|apply Drawn0.step)⟩
        case rest =>
         clear HC16
         try clear c1
         try clear p2
         try clear c3
         try clear c3b0
         try clear c4
         try clear c4b0
         try clear p5
         try clear q5
         try clear hx5
         try clear c6
         try clear c6b0
         try clear p6
         try clear c8
         try clear c8b0
         try clear c10
         try clear c12
         try clear c12b0
         try clear c13
         try clear c14
         try clear c14b0
         try clear c15
         try clear c15b0
         try clear c17
         try clear c17b0
         try clear c17b1
         try clear p2
         try clear p5
         try clear p6
         try clear q5
         obtain ⟨kq,x50_15,rfl,HA,HJ15,⟨mc15,rfl⟩⟩:=hcut
         cases kq with
         | zero => exact absurd HA.out (by simp [racewayref25_Sign.j3])
         | succ kj15 =>
          have H:=HA.out
          clear HA
          simp only [racewayref25_Sign.j3] at H
          by_cases c18 : x50_15 = true
          ·subst c18
           have H1 : (some 0) = some r:=by rw [if_pos rfl] at H;exact H
           clear H
           have H:=H1
           clear H1
           obtain rfl:=Option.some.inj H
           go_wp2
           go_ret
           exact ⟨by first|rfl|(simp;done)|(simp;decide +kernel)|(simp [*];done),by repeat (first|exact Drawn0.refl _|apply Drawn0.step)⟩
          ·replace c18:=Bool.eq_false_iff.mpr c18
           subst c18
           have H1 : (racewayref25_Sign.l0 kj15 a0 a1 x6_8 x7_8 x8_8 1) = some r:=by rw [if_neg (show ¬ (false = true) by decide)] at H;exact H
           clear H
           have H:=H1
           clear H1
           have H':=Aside0.mk H
           clear H
           go_wp2
           go_loopg [7,9] kj15 (fun kq v7 v9 w' => ∃ (x7_4 : Int) (x9_4 : Int),v7 = .int .i64 x7_4 ∧ v9 = .int .i64 x9_4 ∧ Aside0 (racewayref25_Sign.l0 kq a0 a1 x6_8 x7_4 x8_8 x9_4 = some r) ∧ Aside0 (kq ≤ kj15) ∧ Drawn0 w w')
           case atStart => exact ⟨(x7_8),(1),(by first|rfl|(simp;done)|(simp;decide +kernel)|(simp [*];done)),(by first|rfl|(simp;done)|(simp;decide +kernel)|(simp [*];done)),(by first|exact H'|(subst_vars;exact H')),⟨Nat.le_refl _⟩,by repeat (first|exact Drawn0.refl _|apply Drawn0.step)⟩
           case round =>
            clear H'
            try clear c1
            try clear p2
            try clear c3
            try clear c3b0
            try clear c4
            try clear c4b0
            try clear p5
            try clear q5
            try clear hx5
            try clear c6
            try clear c6b0
            try clear p6
            try clear c8
            try clear c8b0
            try clear c10
            try clear c12
            try clear c12b0
            try clear c13
            try clear c14
            try clear c14b0
            try clear c15
            try clear c15b0
            try clear c17
            try clear c17b0
            try clear c17b1
            try clear c18
            try clear p2
            try clear p5
            try clear p6
            try clear q5
            obtain ⟨x7_4,x9_4,rfl,rfl,HA,HK4,⟨m4,rfl⟩⟩:=hrel
            cases gk with
            | zero => exact absurd HA.out (by simp [racewayref25_Sign.l0])
            | succ k4 =>
             have H:=HA.out
             clear HA
             simp only [racewayref25_Sign.l0] at H
             by_cases c19 : x9_4 < x6_8
             ·rw [if_pos c19] at H
              have c19b0 : decide (x9_4 < x6_8) = true:=decide_eq_true c19
              clear c19
              obtain ⟨ji20,hji20⟩ : ∃ j_ : Int,(wrap64 (a1 + x9_4)) = j_:=⟨_,rfl⟩
              replace H : (if 0 ≤ (ji20) then (if (ji20) < (a0.size : Int) then (if (wrap64 (bt a0 (ji20))) < 128 then (some 0) else (if (wrap64 (bt a0 (ji20))) > 191 then (some 0) else (racewayref25_Sign.l0 k4 a0 a1 x6_8 (wrap64 ((wrap64 ((wrap64 (64 * x7_4)) + (wrap64 (bt a0 (ji20))))) - 128)) x8_8 (wrap64 (x9_4 + 1))))) else (none)) else (none)) = some r:=by first|(rw [hji20] at H;exact H)|(simp only [hji20] at H ⊢;exact H)
              have hji20w : (IntKind.i64.wrap (a1 + x9_4)) = ji20:=(i64_w _).trans hji20
              by_cases c21 : 0 ≤ (ji20)
              ·rw [if_pos c21] at H
               have c21b0 : decide (0 ≤ (ji20)) = true:=decide_eq_true c21
               clear c21
               by_cases c22 : (ji20) < (a0.size : Int)
               ·rw [if_pos c22] at H
                have c22b0 : decide ((ji20) < (a0.size : Int)) = true:=decide_eq_true c22
                clear c22
                by_cases c24 : (wrap64 (bt a0 (ji20))) < 128
                ·rw [if_pos c24] at H
                 have c24b0 : decide ((wrap64 (bt a0 (ji20))) < 128) = true:=decide_eq_true c24
                 clear c24
                 obtain rfl:=Option.some.inj H
                 have p23 : 0 ≤ ((ji20) : Int):=of_decide_eq_true (by first|(with_reducible assumption)|assumption)
                 have q23 : (ji20) < (a0.size : Int):=of_decide_eq_true (by first|(with_reducible assumption)|assumption)
                 have hx23:=bt_at a0 (ji20)
                 replace p23:=eq_true p23
                 replace q23:=eq_true q23
                 go_wp2
                 go_ret
                 exact ⟨by first|rfl|(simp;done)|(simp only [← hji20] <;> (first|rfl|simp))|(simp [*];done),by repeat (first|exact Drawn0.refl _|apply Drawn0.step)⟩
                ·rw [if_neg c24] at H
                 have c24b0 : decide ((wrap64 (bt a0 (ji20))) < 128) = false:=decide_eq_false c24
                 clear c24
                 by_cases c25 : (wrap64 (bt a0 (ji20))) > 191
                 ·rw [if_pos c25] at H
                  have c25b0 : decide (191 < (wrap64 (bt a0 (ji20)))) = true:=decide_eq_true c25
                  clear c25
                  obtain rfl:=Option.some.inj H
                  have p23 : 0 ≤ ((ji20) : Int):=of_decide_eq_true (by first|(with_reducible assumption)|assumption)
                  have q23 : (ji20) < (a0.size : Int):=of_decide_eq_true (by first|(with_reducible assumption)|assumption)
                  have hx23:=bt_at a0 (ji20)
                  replace p23:=eq_true p23
                  replace q23:=eq_true q23
                  go_wp2
                  go_ret
                  exact ⟨by first|rfl|(simp;done)|(simp only [← hji20] <;> (first|rfl|simp))|(simp [*];done),by repeat (first|exact Drawn0.refl _|apply Drawn0.step)⟩
                 ·rw [if_neg c25] at H
                  have c25b0 : decide (191 < (wrap64 (bt a0 (ji20)))) = false:=decide_eq_false c25
                  clear c25
                  have H':=Aside0.mk H
                  clear H
                  have p23 : 0 ≤ ((ji20) : Int):=of_decide_eq_true (by first|(with_reducible assumption)|assumption)
                  have q23 : (ji20) < (a0.size : Int):=of_decide_eq_true (by first|(with_reducible assumption)|assumption)
                  have hx23:=bt_at a0 (ji20)
                  replace p23:=eq_true p23
                  replace q23:=eq_true q23
                  go_wp2
                  go_roundg k4
                  case measure => have:=HJ6.out;have:=HJ8.out;have:=HJ15.out;have:=HK4.out;omega
                  case rel => exact ⟨(wrap64 ((wrap64 ((wrap64 (64 * x7_4)) + (wrap64 (bt a0 (ji20))))) - 128)),(wrap64 (x9_4 + 1)),(by first|rfl|(simp;done)|(simp only [← hji20] <;> (first|rfl|simp))|(simp [*];done)),(by first|rfl|(simp;done)|(simp;decide +kernel)|(simp [*];done)),(by first|exact H'|(subst_vars;exact H')),⟨by have:=HJ6.out;have:=HJ8.out;have:=HJ15.out;have:=HK4.out;omega⟩,by repeat (first|exact Drawn0.refl _|apply Drawn0.step)⟩
               ·rw [if_neg c22] at H
                exact absurd H (by simp)
              ·rw [if_neg c21] at H
               exact absurd H (by simp)
             ·rw [if_neg c19] at H
              have c19b0 : decide (x9_4 < x6_8) = false:=decide_eq_false c19
              clear c19
              by_cases c26 : x7_4 < x8_8
              ·rw [if_pos c26] at H
               have c26b0 : decide (x7_4 < x8_8) = true:=decide_eq_true c26
               clear c26
               obtain rfl:=Option.some.inj H
               go_wp2
               go_ret
               exact ⟨by first|rfl|(simp;done)|(simp;decide +kernel)|(simp [*];done),by repeat (first|exact Drawn0.refl _|apply Drawn0.step)⟩
              ·rw [if_neg c26] at H
               have c26b0 : decide (x7_4 < x8_8) = false:=decide_eq_false c26
               clear c26
               by_cases c27 : x7_4 > 1114111
               ·rw [if_pos c27] at H
                have c27b0 : decide (1114111 < x7_4) = true:=decide_eq_true c27
                clear c27
                obtain rfl:=Option.some.inj H
                go_wp2
                go_ret
                exact ⟨by first|rfl|(simp;done)|(simp;decide +kernel)|(simp [*];done),by repeat (first|exact Drawn0.refl _|apply Drawn0.step)⟩
               ·rw [if_neg c27] at H
                have c27b0 : decide (1114111 < x7_4) = false:=decide_eq_false c27
                clear c27
                by_cases c28 : x7_4 ≥ 55296
                ·rw [if_pos c28] at H
                 have c28b0 : decide (55296 ≤ x7_4) = true:=decide_eq_true c28
                 clear c28
                 by_cases c29 : x7_4 ≤ 57343
                 ·rw [if_pos c29] at H
                  have c29b0 : decide (x7_4 ≤ 57343) = true:=decide_eq_true c29
                  clear c29
                  obtain rfl:=Option.some.inj H
                  go_wp2
                  go_ret
                  exact ⟨by first|rfl|(simp;done)|(simp;decide +kernel)|(simp [*];done),by repeat (first|exact Drawn0.refl _|apply Drawn0.step)⟩
                 ·rw [if_neg c29] at H
                  have c29b0 : decide (x7_4 ≤ 57343) = false:=decide_eq_false c29
                  clear c29
                  obtain rfl:=Option.some.inj H
                  go_wp2
                  go_ret
                  exact ⟨by first|rfl|(simp;done)|(simp;decide +kernel)|(simp [*];done),by repeat (first|exact Drawn0.refl _|apply Drawn0.step)⟩
                ·rw [if_neg c28] at H
                 have c28b0 : decide (55296 ≤ x7_4) = false:=decide_eq_false c28
                 clear c28
                 obtain rfl:=Option.some.inj H
                 go_wp2
                 go_ret
                 exact ⟨by first|rfl|(simp;done)|(simp;decide +kernel)|(simp [*];done),by repeat (first|exact Drawn0.refl _|apply Drawn0.step)⟩
  ·rw [if_neg c4] at H
   exact absurd H (by simp)
 ·rw [if_neg c3] at H
  exact absurd H (by simp)
end Go.Proofs.YtadfkeipcebmfaaDoor.X
namespace Go.Proofs.YtadfkeipcebmfaaDoor.X
open Go.RowKit Go.Proofs.YtadfkeipcebmfaaDoorW.PrintWords Go.Proofs.YtadfkeipcebmfaaDoorW.PrintLast Go.Proofs.YtadfkeipcebmfaaDoorW.PrintMore
attribute [local go_sem] max2_int min2_int max_two min_two max_three min_three max_four min_four
set_option linter.unusedVariables false
set_option linter.unusedSimpArgs false
mutual
def racewayref25_four.l0 : Nat → ByteArray → Int → Int → Int → Option (Int)
 | 0,_,_,_,_ => none
 | k + 1,x0,x1,x5,x6 => if x6 < 4 then (if 0 ≤ (wrap64 (x1 + x6)) then (if (wrap64 (x1 + x6)) < (x0.size : Int) then (if (wrap64 (bt x0 (wrap64 (x1 + x6)))) ≥ 48 then (racewayref25_four.j1 k x0 x1 x5 x6 (wrap64 (bt x0 (wrap64 (x1 + x6)))) (-1) (decide ((wrap64 (bt x0 (wrap64 (x1 + x6)))) ≤ 57))) else (racewayref25_four.j1 k x0 x1 x5 x6 (wrap64 (bt x0 (wrap64 (x1 + x6)))) (-1) false)) else (none)) else (none)) else (some x5)
def racewayref25_four.j1 : Nat → ByteArray → Int → Int → Int → Int → Int → Bool → Option (Int)
 | 0,_,_,_,_,_,_,_ => none
 | k + 1,x0,x1,x5,x6,x7,x8,x29 => if x29 = true then (racewayref25_four.j2 k x0 x1 x5 x6 x7 (wrap64 (x7 - 48))) else (racewayref25_four.j2 k x0 x1 x5 x6 x7 x8)
def racewayref25_four.j2 : Nat → ByteArray → Int → Int → Int → Int → Int → Option (Int)
 | 0,_,_,_,_,_,_ => none
 | k + 1,x0,x1,x5,x6,x7,x8 => if x7 ≥ 97 then (racewayref25_four.j3 k x0 x1 x5 x6 x7 x8 (decide (x7 ≤ 102))) else (racewayref25_four.j3 k x0 x1 x5 x6 x7 x8 false)
def racewayref25_four.j3 : Nat → ByteArray → Int → Int → Int → Int → Int → Bool → Option (Int)
 | 0,_,_,_,_,_,_,_ => none
 | k + 1,x0,x1,x5,x6,x7,x8,x37 => if x37 = true then (racewayref25_four.j4 k x0 x1 x5 x6 x7 (wrap64 ((wrap64 (x7 - 97)) + 10))) else (racewayref25_four.j4 k x0 x1 x5 x6 x7 x8)
def racewayref25_four.j4 : Nat → ByteArray → Int → Int → Int → Int → Int → Option (Int)
 | 0,_,_,_,_,_,_ => none
 | k + 1,x0,x1,x5,x6,x7,x8 => if x7 ≥ 65 then (racewayref25_four.j5 k x0 x1 x5 x6 x7 x8 (decide (x7 ≤ 70))) else (racewayref25_four.j5 k x0 x1 x5 x6 x7 x8 false)
def racewayref25_four.j5 : Nat → ByteArray → Int → Int → Int → Int → Int → Bool → Option (Int)
 | 0,_,_,_,_,_,_,_ => none
 | k + 1,x0,x1,x5,x6,x7,x8,x46 => if x46 = true then (if (wrap64 ((wrap64 (x7 - 65)) + 10)) < 0 then (some (-1)) else (racewayref25_four.l0 k x0 x1 (wrap64 ((wrap64 (16 * x5)) + (wrap64 ((wrap64 (x7 - 65)) + 10)))) (wrap64 (x6 + 1)))) else (if x8 < 0 then (some (-1)) else (racewayref25_four.l0 k x0 x1 (wrap64 ((wrap64 (16 * x5)) + x8)) (wrap64 (x6 + 1))))
end
def racewayref25_four.f (k : Nat) (a0 : ByteArray) (a1 : Int) : Option (Int):=if (wrap64 (a1 + 4)) > (a0.size : Int) then (some (-1)) else (racewayref25_four.l0 k a0 a1 0 0)
set_option maxHeartbeats 8000000 in
set_option maxRecDepth 100000 in
theorem racewayref25_four.calls (k : Nat) (a0 : ByteArray) (a1 : Int) (r : Int) (w : World) (h : racewayref25_four.f k a0 a1 = some r) :
  Calls Tryd.prog 80 #[.string a0,.int .i64 a1] w fun e w' => e = .returned (.int .i64 r) ∧ Drawn0 w w':=by
 have H : (if (wrap64 (a1 + 4)) > (a0.size : Int) then (some (-1)) else (racewayref25_four.l0 k a0 a1 0 0)) = some r:=h
 clear h
 by_cases c3 : (wrap64 (a1 + 4)) > (a0.size : Int)
 ·rw [if_pos c3] at H
  have c3b0 : decide ((a0.size : Int) < (wrap64 (a1 + 4))) = true:=decide_eq_true c3
  clear c3
  obtain rfl:=Option.some.inj H
  go_enter Tryd.func80,Tryd.ntmps80
  go_wp2
  go_ret
  exact ⟨by first|rfl|(simp;done)|(simp;decide +kernel)|(simp [*];done),by repeat (first|exact Drawn0.refl _|apply Drawn0.step)⟩
 ·rw [if_neg c3] at H
  have c3b0 : decide ((a0.size : Int) < (wrap64 (a1 + 4))) = false:=decide_eq_false c3
  clear c3
  have H':=Aside0.mk H
  clear H
  go_enter Tryd.func80,Tryd.ntmps80
  go_wp2
  go_loopg [5,6] k (fun kq v5 v6 w' => ∃ (x5_1 : Int) (x6_1 : Int),v5 = .int .i64 x5_1 ∧ v6 = .int .i64 x6_1 ∧ Aside0 (racewayref25_four.l0 kq a0 a1 x5_1 x6_1 = some r) ∧ Aside0 (kq ≤ k) ∧ Drawn0 w w')
  case atStart => exact ⟨(0),(0),(by first|rfl|(simp;done)|(simp;decide +kernel)|(simp [*];done)),(by first|rfl|(simp;done)|(simp;decide +kernel)|(simp [*];done)),(by first|exact H'|(subst_vars;exact H')),⟨Nat.le_refl _⟩,by repeat (first|exact Drawn0.refl _|apply Drawn0.step)⟩
  case round =>
   clear H'
   try clear p2
   try clear c3
   try clear c3b0
   obtain ⟨x5_1,x6_1,rfl,rfl,HA,HK1,⟨m1,rfl⟩⟩:=hrel
   cases gk with
   | zero => exact absurd HA.out (by simp [racewayref25_four.l0])
   | succ k1 =>
    have H:=HA.out
    clear HA
    simp only [racewayref25_four.l0] at H
    by_cases c4 : x6_1 < 4
    ·rw [if_pos c4] at H
     have c4b0 : decide (x6_1 < 4) = true:=decide_eq_true c4
     clear c4
     obtain ⟨ji5,hji5⟩ : ∃ j_ : Int,(wrap64 (a1 + x6_1)) = j_:=⟨_,rfl⟩
     replace H : (if 0 ≤ (ji5) then (if (ji5) < (a0.size : Int) then (if (wrap64 (bt a0 (ji5))) ≥ 48 then (racewayref25_four.j1 k1 a0 a1 x5_1 x6_1 (wrap64 (bt a0 (ji5))) (-1) (decide ((wrap64 (bt a0 (ji5))) ≤ 57))) else (racewayref25_four.j1 k1 a0 a1 x5_1 x6_1 (wrap64 (bt a0 (ji5))) (-1) false)) else (none)) else (none)) = some r:=by first|(rw [hji5] at H;exact H)|(simp only [hji5] at H ⊢;exact H)
     have hji5w : (IntKind.i64.wrap (a1 + x6_1)) = ji5:=(i64_w _).trans hji5
     by_cases c6 : 0 ≤ (ji5)
     ·rw [if_pos c6] at H
      have c6b0 : decide (0 ≤ (ji5)) = true:=decide_eq_true c6
      clear c6
      by_cases c7 : (ji5) < (a0.size : Int)
      ·rw [if_pos c7] at H
       have c7b0 : decide ((ji5) < (a0.size : Int)) = true:=decide_eq_true c7
       clear c7
       have HC9:=Aside0.mk H
       clear H
       have p8 : 0 ≤ ((ji5) : Int):=of_decide_eq_true (by first|(with_reducible assumption)|assumption)
       have q8 : (ji5) < (a0.size : Int):=of_decide_eq_true (by first|(with_reducible assumption)|assumption)
       have hx8:=bt_at a0 (ji5)
       replace p8:=eq_true p8
       replace q8:=eq_true q8
       go_upto_region 9 with (fail)
       go_cut [29] (fun v29 wc => ∃ (kq : Nat) (x29_8 : Bool),v29 = .bool x29_8 ∧ Aside0 (racewayref25_four.j1 kq a0 a1 x5_1 x6_1 (wrap64 (bt a0 (ji5))) (-1) x29_8 = some r) ∧ Aside0 (kq ≤ k1) ∧ Drawn0 w wc)
       case first =>
        have H:=HC9.out
        clear HC9
        by_cases c10 : (wrap64 (bt a0 (ji5))) ≥ 48
        ·rw [if_pos c10] at H
         have c10b0 : decide (48 ≤ (wrap64 (bt a0 (ji5)))) = true:=decide_eq_true c10
         clear c10
         (first|rw [c10b0]|(simp only [i64_w,i32_w];rw [c10b0])|skip)
         have H':=Aside0.mk H
         clear H
         go_wp2
         go_meet
         case rel => exact ⟨_,(decide ((wrap64 (bt a0 (ji5))) ≤ 57)),(by first|rfl|(simp;done)|(simp only [← hji5] <;> (first|rfl|simp))|(simp [*];done)),(by first|exact H'|(subst_vars;exact H')),⟨by have:=HK1.out;first|omega|exact Nat.le_refl _⟩,by repeat (first|exact Drawn0.refl _|apply Drawn0.step)⟩
        ·rw [if_neg c10] at H
         have c10b0 : decide (48 ≤ (wrap64 (bt a0 (ji5)))) = false:=decide_eq_false c10
         clear c10
         (first|rw [c10b0]|(simp only [i64_w,i32_w];rw [c10b0])|skip)
         have H':=Aside0.mk H
         clear H
         go_wp2
         go_meet
         case rel => exact ⟨_,(false),(by first|rfl|(simp;done)|(simp;decide +kernel)|(simp [*];done)),(by first|exact H'|(subst_vars;exact H')),⟨by have:=HK1.out;first|omega|exact Nat.le_refl _⟩,by repeat (first|exact Drawn0.refl _|apply Drawn0.step)⟩
       case rest =>
        clear HC9
        try clear c1
        try clear p2
        try clear c3
        try clear c3b0
        try clear c4
        try clear c4b0
        try clear c6
        try clear c6b0
        try clear p6
        try clear c7
        try clear c7b0
        try clear c8
        try clear p8
        try clear q8
        try clear hx8
        try clear c10
        try clear c10b0
        try clear p2
        try clear p8
        try clear q8
        obtain ⟨kq,x29_8,rfl,HA,HJ8,⟨mc8,rfl⟩⟩:=hcut
        cases kq with
        | zero => exact absurd HA.out (by simp [racewayref25_four.j1])
        | succ kj8 =>
         have H:=HA.out
         clear HA
         simp only [racewayref25_four.j1] at H
         have HC11:=Aside0.mk H
         clear H
         go_upto_if 29 with (fail)
         go_cut [8] (fun v8 wc => ∃ (kq : Nat) (x8_10 : Int),v8 = .int .i64 x8_10 ∧ Aside0 (racewayref25_four.j2 kq a0 a1 x5_1 x6_1 (wrap64 (bt a0 (ji5))) x8_10 = some r) ∧ Aside0 (kq ≤ kj8) ∧ Drawn0 w wc)
         case first =>
          have H:=HC11.out
          clear HC11
          by_cases c12 : x29_8 = true
          ·subst c12
           have H1 : (racewayref25_four.j2 kj8 a0 a1 x5_1 x6_1 (wrap64 (bt a0 (ji5))) (wrap64 ((wrap64 (bt a0 (ji5))) - 48))) = some r:=by rw [if_pos rfl] at H;exact H
           clear H
           have H:=H1
           clear H1
           have H':=Aside0.mk H
           clear H
           go_wp2
           go_meet
           case rel => exact ⟨_,(wrap64 ((wrap64 (bt a0 (ji5))) - 48)),(by first|rfl|(simp;done)|(simp only [← hji5] <;> (first|rfl|simp))|(simp [*];done)),(by first|exact H'|(subst_vars;exact H')),⟨by have:=HK1.out;have:=HJ8.out;first|omega|exact Nat.le_refl _⟩,by repeat (first|exact Drawn0.refl _|apply Drawn0.step)⟩
          ·replace c12:=Bool.eq_false_iff.mpr c12
           subst c12
           have H1 : (racewayref25_four.j2 kj8 a0 a1 x5_1 x6_1 (wrap64 (bt a0 (ji5))) (-1)) = some r:=by rw [if_neg (show ¬ (false = true) by decide)] at H;exact H
           clear H
           have H:=H1
           clear H1
           have H':=Aside0.mk H
           clear H
           go_wp2
           go_meet
           case rel => exact ⟨_,((-1)),(by first|rfl|(simp;done)|(simp;decide +kernel)|(simp [*];done)),(by first|exact H'|(subst_vars;exact H')),⟨by have:=HK1.out;have:=HJ8.out;first|omega|exact Nat.le_refl _⟩,by repeat (first|exact Drawn0.refl _|apply Drawn0.step)⟩
         case rest =>
          clear HC11
          try clear c1
          try clear p2
          try clear c3
          try clear c3b0
          try clear c4
          try clear c4b0
          try clear c6
          try clear c6b0
          try clear p6
          try clear c7
          try clear c7b0
          try clear c8
          try clear p8
          try clear q8
          try clear hx8
          try clear c10
          try clear c10b0
          try clear c12
          try clear p2
          try clear p6
          try clear p8
          try clear q8
          obtain ⟨kq,x8_10,rfl,HA,HJ10,⟨mc10,rfl⟩⟩:=hcut
          cases kq with
          | zero => exact absurd HA.out (by simp [racewayref25_four.j2])
          | succ kj10 =>
           have H:=HA.out
           clear HA
           simp only [racewayref25_four.j2] at H
           have HC13:=Aside0.mk H
           clear H
           go_upto_region 11 with (fail)
           go_cut [37] (fun v37 wc => ∃ (kq : Nat) (x37_12 : Bool),v37 = .bool x37_12 ∧ Aside0 (racewayref25_four.j3 kq a0 a1 x5_1 x6_1 (wrap64 (bt a0 (ji5))) x8_10 x37_12 = some r) ∧ Aside0 (kq ≤ kj10) ∧ Drawn0 w wc)
           case first =>
            have H:=HC13.out
            clear HC13
            by_cases c14 : (wrap64 (bt a0 (ji5))) ≥ 97
            ·rw [if_pos c14] at H
             have c14b0 : decide (97 ≤ (wrap64 (bt a0 (ji5)))) = true:=decide_eq_true c14
             clear c14
             (first|rw [c14b0]|(simp only [i64_w,i32_w];rw [c14b0])|skip)
             have H':=Aside0.mk H
             clear H
             go_wp2
             go_meet
             case rel => exact ⟨_,(decide ((wrap64 (bt a0 (ji5))) ≤ 102)),(by first|rfl|(simp;done)|(simp only [← hji5] <;> (first|rfl|simp))|(simp [*];done)),(by first|exact H'|(subst_vars;exact H')),⟨by have:=HK1.out;have:=HJ8.out;have:=HJ10.out;first|omega|exact Nat.le_refl _⟩,by repeat (first|exact Drawn0.refl _|apply Drawn0.step)⟩
            ·rw [if_neg c14] at H
             have c14b0 : decide (97 ≤ (wrap64 (bt a0 (ji5)))) = false:=decide_eq_false c14
             clear c14
             (first|rw [c14b0]|(simp only [i64_w,i32_w];rw [c14b0])|skip)
             have H':=Aside0.mk H
             clear H
             go_wp2
             go_meet
             case rel => exact ⟨_,(false),(by first|rfl|(simp;done)|(simp;decide +kernel)|(simp [*];done)),(by first|exact H'|(subst_vars;exact H')),⟨by have:=HK1.out;have:=HJ8.out;have:=HJ10.out;first|omega|exact Nat.le_refl _⟩,by repeat (first|exact Drawn0.refl _|apply Drawn0.step)⟩
           case rest =>
            clear HC13
            try clear c1
            try clear p2
            try clear c3
            try clear c3b0
            try clear c4
            try clear c4b0
            try clear c6
            try clear c6b0
            try clear p6
            try clear c7
            try clear c7b0
            try clear c8
            try clear p8
            try clear q8
            try clear hx8
            try clear c10
            try clear c10b0
            try clear c12
            try clear c14
            try clear c14b0
            try clear p2
            try clear p6
            try clear p8
            try clear q8
            obtain ⟨kq,x37_12,rfl,HA,HJ12,⟨mc12,rfl⟩⟩:=hcut
            cases kq with
            | zero => exact absurd HA.out (by simp [racewayref25_four.j3])
            | succ kj12 =>
             have H:=HA.out
             clear HA
             simp only [racewayref25_four.j3] at H
             have HC15:=Aside0.mk H
             clear H
             go_upto_if 37 with (fail)
             go_cut [8] (fun v8 wc => ∃ (kq : Nat) (x8_14 : Int),v8 = .int .i64 x8_14 ∧ Aside0 (racewayref25_four.j4 kq a0 a1 x5_1 x6_1 (wrap64 (bt a0 (ji5))) x8_14 = some r) ∧ Aside0 (kq ≤ kj12) ∧ Drawn0 w wc)
             case first =>
              have H:=HC15.out
              clear HC15
              by_cases c16 : x37_12 = true
              ·subst c16
               have H1 : (racewayref25_four.j4 kj12 a0 a1 x5_1 x6_1 (wrap64 (bt a0 (ji5))) (wrap64 ((wrap64 ((wrap64 (bt a0 (ji5))) - 97)) + 10))) = some r:=by rw [if_pos rfl] at H;exact H
               clear H
               have H:=H1
               clear H1
               have H':=Aside0.mk H
               clear H
               go_wp2
               go_meet
               case rel => exact ⟨_,(wrap64 ((wrap64 ((wrap64 (bt a0 (ji5))) - 97)) + 10)),(by first|rfl|(simp;done)|(simp only [← hji5] <;> (first|rfl|simp))|(simp [*];done)),(by first|exact H'|(subst_vars;exact H')),⟨by have:=HK1.out;have:=HJ8.out;have:=HJ10.out;have:=HJ12.out;first|omega|exact Nat.le_refl _⟩,by repeat (first|exact Drawn0.refl _|apply Drawn0.step)⟩
              ·replace c16:=Bool.eq_false_iff.mpr c16
               subst c16
               have H1 : (racewayref25_four.j4 kj12 a0 a1 x5_1 x6_1 (wrap64 (bt a0 (ji5))) x8_10) = some r:=by rw [if_neg (show ¬ (false = true) by decide)] at H;exact H
               clear H
               have H:=H1
               clear H1
               have H':=Aside0.mk H
               clear H
               go_wp2
               go_meet
               case rel => exact ⟨_,(x8_10),(by first|rfl|(simp;done)|(simp;decide +kernel)|(simp [*];done)),(by first|exact H'|(subst_vars;exact H')),⟨by have:=HK1.out;have:=HJ8.out;have:=HJ10.out;have:=HJ12.out;first|omega|exact Nat.le_refl _⟩,by repeat (first|exact Drawn0.refl _|apply Drawn0.step)⟩
             case rest =>
              clear HC15
              try clear c1
              try clear p2
              try clear c3
              try clear c3b0
              try clear c4
              try clear c4b0
              try clear c6
              try clear c6b0
              try clear p6
              try clear c7
              try clear c7b0
              try clear c8
              try clear p8
              try clear q8
              try clear hx8
              try clear c10
              try clear c10b0
              try clear c12
              try clear c14
              try clear c14b0
              try clear c16
              try clear p2
              try clear p6
              try clear p8
              try clear q8
              obtain ⟨kq,x8_14,rfl,HA,HJ14,⟨mc14,rfl⟩⟩:=hcut
              cases kq with
              | zero => exact absurd HA.out (by simp [racewayref25_four.j4])
              | succ kj14 =>
               have H:=HA.out
               clear HA
               simp only [racewayref25_four.j4] at H
               have HC17:=Aside0.mk H
               clear H
               go_upto_region 13 with (fail)
               go_cut [46] (fun v46 wc => ∃ (kq : Nat) (x46_16 : Bool),v46 = .bool x46_16 ∧ Aside0 (racewayref25_four.j5 kq a0 a1 x5_1 x6_1 (wrap64 (bt a0 (ji5))) x8_14 x46_16 = some r) ∧ Aside0 (kq ≤ kj14) ∧ Drawn0 w wc)
               case first =>
                have H:=HC17.out
                clear HC17
                by_cases c18 : (wrap64 (bt a0 (ji5))) ≥ 65
                ·rw [if_pos c18] at H
                 have c18b0 : decide (65 ≤ (wrap64 (bt a0 (ji5)))) = true:=decide_eq_true c18
                 clear c18
                 (first|rw [c18b0]|(simp only [i64_w,i32_w];rw [c18b0])|skip)
                 have H':=Aside0.mk H
                 clear H
                 go_wp2
                 go_meet
                 case rel => exact ⟨_,(decide ((wrap64 (bt a0 (ji5))) ≤ 70)),(by first|rfl|(simp;done)|(simp only [← hji5] <;> (first|rfl|simp))|(simp [*];done)),(by first|exact H'|(subst_vars;exact H')),⟨by have:=HK1.out;have:=HJ8.out;have:=HJ10.out;have:=HJ12.out;have:=HJ14.out;first|omega|exact Nat.le_refl _⟩,by repeat (first|exact Drawn0.refl _|apply Drawn0.step)⟩
                ·rw [if_neg c18] at H
                 have c18b0 : decide (65 ≤ (wrap64 (bt a0 (ji5)))) = false:=decide_eq_false c18
                 clear c18
                 (first|rw [c18b0]|(simp only [i64_w,i32_w];rw [c18b0])|skip)
                 have H':=Aside0.mk H
                 clear H
                 go_wp2
                 go_meet
                 case rel => exact ⟨_,(false),(by first|rfl|(simp;done)|(simp;decide +kernel)|(simp [*];done)),(by first|exact H'|(subst_vars;exact H')),⟨by have:=HK1.out;have:=HJ8.out;have:=HJ10.out;have:=HJ12.out;have:=HJ14.out;first|omega|exact Nat.le_refl _⟩,by repeat (first|exact Drawn0.refl _|apply Drawn0.step)⟩
               case rest =>
                clear HC17
                try clear c1
                try clear p2
                try clear c3
                try clear c3b0
                try clear c4
                try clear c4b0
                try clear c6
                try clear c6b0
                try clear p6
                try clear c7
                try clear c7b0
                try clear c8
                try clear p8
                try clear q8
                try clear hx8
                try clear c10
                try clear c10b0
                try clear c12
                try clear c14
                try clear c14b0
                try clear c16
                try clear c18
                try clear c18b0
                try clear p2
                try clear p6
                try clear p8
                try clear q8
                obtain ⟨kq,x46_16,rfl,HA,HJ16,⟨mc16,rfl⟩⟩:=hcut
                cases kq with
                | zero => exact absurd HA.out (by simp [racewayref25_four.j5])
                | succ kj16 =>
                 have H:=HA.out
                 clear HA
                 simp only [racewayref25_four.j5] at H
                 by_cases c19 : x46_16 = true
                 ·subst c19
                  have H1 : (if (wrap64 ((wrap64 ((wrap64 (bt a0 (ji5))) - 65)) + 10)) < 0 then (some (-1)) else (racewayref25_four.l0 kj16 a0 a1 (wrap64 ((wrap64 (16 * x5_1)) + (wrap64 ((wrap64 ((wrap64 (bt a0 (ji5))) - 65)) + 10)))) (wrap64 (x6_1 + 1)))) = some r:=by rw [if_pos rfl] at H;exact H
                  clear H
                  have H:=H1
                  clear H1
                  by_cases c20 : (wrap64 ((wrap64 ((wrap64 (bt a0 (ji5))) - 65)) + 10)) < 0
                  ·rw [if_pos c20] at H
                   have c20b0 : decide ((wrap64 ((wrap64 ((wrap64 (bt a0 (ji5))) - 65)) + 10)) < 0) = true:=decide_eq_true c20
                   clear c20
                   obtain rfl:=Option.some.inj H
                   go_wp2
                   go_ret
                   exact ⟨by first|rfl|(simp;done)|(simp only [← hji5] <;> (first|rfl|simp))|(simp [*];done),by repeat (first|exact Drawn0.refl _|apply Drawn0.step)⟩
                  ·rw [if_neg c20] at H
                   have c20b0 : decide ((wrap64 ((wrap64 ((wrap64 (bt a0 (ji5))) - 65)) + 10)) < 0) = false:=decide_eq_false c20
                   clear c20
                   have H':=Aside0.mk H
                   clear H
                   go_wp2
                   go_roundg kj16
                   case measure => have:=HK1.out;have:=HJ8.out;have:=HJ10.out;have:=HJ12.out;have:=HJ14.out;have:=HJ16.out;omega
                   case rel => exact ⟨(wrap64 ((wrap64 (16 * x5_1)) + (wrap64 ((wrap64 ((wrap64 (bt a0 (ji5))) - 65)) + 10)))),(wrap64 (x6_1 + 1)),(by first|rfl|(simp;done)|(simp only [← hji5] <;> (first|rfl|simp))|(simp [*];done)),(by first|rfl|(simp;done)|(simp;decide +kernel)|(simp [*];done)),(by first|exact H'|(subst_vars;exact H')),⟨by have:=HK1.out;have:=HJ8.out;have:=HJ10.out;have:=HJ12.out;have:=HJ14.out;have:=HJ16.out;omega⟩,by repeat (first|exact Drawn0.refl _|apply Drawn0.step)⟩
                 ·replace c19:=Bool.eq_false_iff.mpr c19
                  subst c19
                  have H1 : (if x8_14 < 0 then (some (-1)) else (racewayref25_four.l0 kj16 a0 a1 (wrap64 ((wrap64 (16 * x5_1)) + x8_14)) (wrap64 (x6_1 + 1)))) = some r:=by rw [if_neg (show ¬ (false = true) by decide)] at H;exact H
                  clear H
                  have H:=H1
                  clear H1
                  by_cases c21 : x8_14 < 0
                  ·rw [if_pos c21] at H
                   have c21b0 : decide (x8_14 < 0) = true:=decide_eq_true c21
                   clear c21
                   obtain rfl:=Option.some.inj H
                   go_wp2
                   go_ret
                   exact ⟨by first|rfl|(simp;done)|(simp only [← hji5] <;> (first|rfl|simp))|(simp [*];done),by repeat (first|exact Drawn0.refl _|apply Drawn0.step)⟩
                  ·rw [if_neg c21] at H
                   have c21b0 : decide (x8_14 < 0) = false:=decide_eq_false c21
                   clear c21
                   have H':=Aside0.mk H
                   clear H
                   go_wp2
                   go_roundg kj16
                   case measure => have:=HK1.out;have:=HJ8.out;have:=HJ10.out;have:=HJ12.out;have:=HJ14.out;have:=HJ16.out;omega
                   case rel => exact ⟨(wrap64 ((wrap64 (16 * x5_1)) + x8_14)),(wrap64 (x6_1 + 1)),(by first|rfl|(simp;done)|(simp;decide +kernel)|(simp [*];done)),(by first|rfl|(simp;done)|(simp;decide +kernel)|(simp [*];done)),(by first|exact H'|(subst_vars;exact H')),⟨by have:=HK1.out;have:=HJ8.out;have:=HJ10.out;have:=HJ12.out;have:=HJ14.out;have:=HJ16.out;omega⟩,by repeat (first|exact Drawn0.refl _|apply Drawn0.step)⟩
      ·rw [if_neg c7] at H
       exact absurd H (by simp)
     ·rw [if_neg c6] at H
      exact absurd H (by simp)
    ·rw [if_neg c4] at H
     have c4b0 : decide (x6_1 < 4) = false:=decide_eq_false c4
     clear c4
     obtain rfl:=Option.some.inj H
     go_wp2
     go_ret
     exact ⟨by first|rfl|(simp;done)|(simp;decide +kernel)|(simp [*];done),by repeat (first|exact Drawn0.refl _|apply Drawn0.step)⟩
end Go.Proofs.YtadfkeipcebmfaaDoor.X
namespace Go.Proofs.YtadfkeipcebmfaaDoor.X
open Go.RowKit Go.Proofs.YtadfkeipcebmfaaDoorW.PrintWords Go.Proofs.YtadfkeipcebmfaaDoorW.PrintLast Go.Proofs.YtadfkeipcebmfaaDoorW.PrintMore
attribute [local go_sem] max2_int min2_int max_two min_two max_three min_three max_four min_four
set_option linter.unusedVariables false
set_option linter.unusedSimpArgs false
def racewayref25_encode.f (a0 : Int) : Option (ByteArray):=if a0 < 128 then (some (strOfNums (([(a0) % 256] : List Int)))) else (if a0 < 2048 then (some (strOfNums (([(wrap64 (192 + (wrap64 (Int.tdiv a0 64)))) % 256,(wrap64 (128 + (Int.tmod a0 64))) % 256] : List Int)))) else (if a0 < 65536 then (some (strOfNums (([(wrap64 (224 + (wrap64 (Int.tdiv a0 4096)))) % 256,(wrap64 (128 + (Int.tmod (wrap64 (Int.tdiv a0 64)) 64))) % 256,(wrap64 (128 + (Int.tmod a0 64))) % 256] : List Int)))) else (some (strOfNums (([(wrap64 (240 + (wrap64 (Int.tdiv a0 262144)))) % 256,(wrap64 (128 + (Int.tmod (wrap64 (Int.tdiv a0 4096)) 64))) % 256,(wrap64 (128 + (Int.tmod (wrap64 (Int.tdiv a0 64)) 64))) % 256,(wrap64 (128 + (Int.tmod a0 64))) % 256] : List Int))))))
set_option maxHeartbeats 8000000 in
set_option maxRecDepth 100000 in
theorem racewayref25_encode.calls (a0 : Int) (r : ByteArray) (w : World) (h : racewayref25_encode.f a0 = some r) :
  Calls Tryd.prog 81 #[.int .i64 a0] w fun e w' => e = .returned (.string r) ∧ Below w.heap.size w w':=by
 have HB:=Aside0.mk (Below.refl w.heap.size w)
 have H : (if a0 < 128 then (some (strOfNums (([(a0) % 256] : List Int)))) else (if a0 < 2048 then (some (strOfNums (([(wrap64 (192 + (wrap64 (Int.tdiv a0 64)))) % 256,(wrap64 (128 + (Int.tmod a0 64))) % 256] : List Int)))) else (if a0 < 65536 then (some (strOfNums (([(wrap64 (224 + (wrap64 (Int.tdiv a0 4096)))) % 256,(wrap64 (128 + (Int.tmod (wrap64 (Int.tdiv a0 64)) 64))) % 256,(wrap64 (128 + (Int.tmod a0 64))) % 256] : List Int)))) else (some (strOfNums (([(wrap64 (240 + (wrap64 (Int.tdiv a0 262144)))) % 256,(wrap64 (128 + (Int.tmod (wrap64 (Int.tdiv a0 4096)) 64))) % 256,(wrap64 (128 + (Int.tmod (wrap64 (Int.tdiv a0 64)) 64))) % 256,(wrap64 (128 + (Int.tmod a0 64))) % 256] : List Int))))))) = some r:=h
 clear h
 by_cases c2 : a0 < 128
 ·rw [if_pos c2] at H
  have c2b0 : decide (a0 < 128) = true:=decide_eq_true c2
  clear c2
  obtain ⟨y502,hy502⟩ : ∃ y_ : List Int,y_ = (([(a0) % 256] : List Int)):=⟨_,rfl⟩
  replace H : (some (strOfNums y502)) = some r:=by first|(rw [hy502];with_reducible exact H)|(have H2_:=(Option.bind_some _ _).symm.trans H;rw [hy502];with_reducible exact H2_)|(have H2_:=(Option.bind_some _ _).symm.trans H;with_reducible exact H2_)|with_reducible exact H|(rw [hy502];exact H)|exact H
  have Ny502:=Aside0.mk hy502
  clear hy502
  obtain rfl:=Option.some.inj H
  go_enter Tryd.func81,Tryd.ntmps81
  go_wp2_with (first|((with_reducible refine gate_dst (N:=7) rfl ?_);refine Kd.R_lit (Kd.int .u8) _ 5 ?hg (N:=7) ?hd (xs:=([(a0) % 256] : List Int)) (inner:=[.int .u8 ((a0) % 256)]) (ok:=fun _ => True) (okp:=fun _ => True) ?hr ?hp (fun _ hk => hk) trivial (Below.refl _ _) (Nat.le_refl _) (by simp) ?_;(case hd => rfl);(case hg => rfl);(case hr => first|(go_simp;done)|(go_simp;rfl));(case hp => exact (Reps.one (show Kd.M (Kd.int .u8) _ _ _ ((a0) % 256) [.int .u8 ((a0) % 256)] from rfl) (Reps.none _ _)));intro v503 w3 ho4 hb hg_ hnew_;clear hg_ hnew_;(first|rw [← Ny502.out] at ho4|(simp only [Int.reduceToNat] at ho4;rw [← Ny502.out] at ho4));have n0_:=Aside0.mk (Kd.R_lower ho4 (below_size (by repeat (first|(with_reducible first|exact HB.out|apply below_alloc|apply pw_below_drewN|apply below_drew1)|exact HB.out))));have n1_:=Aside0.mk (below_step (by repeat (first|(with_reducible first|exact HB.out|apply below_alloc|apply pw_below_drewN|apply below_drew1)|exact HB.out)) hb);clear HB;have HO504:=n0_;have HB:=n1_;clear n0_ n1_;clear hb ho4;have hcv5:=own_string (P:=Tryd.prog) Tryd.underlying36 Tryd.underlying5 Tryd.underlying9 (Kd.own_of_R HO504.out)))
  go_ret
  exact ⟨by first|rfl|(simp [errW_none,errW_some] <;> rfl)|(simp [*,errW_none,errW_some] <;> rfl),by repeat (first|(with_reducible first|exact HB.out|apply below_alloc|apply pw_below_drewN|apply below_drew1)|exact HB.out)⟩
 ·rw [if_neg c2] at H
  have c2b0 : decide (a0 < 128) = false:=decide_eq_false c2
  clear c2
  by_cases c6 : a0 < 2048
  ·rw [if_pos c6] at H
   have c6b0 : decide (a0 < 2048) = true:=decide_eq_true c6
   clear c6
   obtain ⟨y505,hy505⟩ : ∃ y_ : List Int,y_ = (([(wrap64 (192 + (wrap64 (Int.tdiv a0 64)))) % 256,(wrap64 (128 + (Int.tmod a0 64))) % 256] : List Int)):=⟨_,rfl⟩
   replace H : (some (strOfNums y505)) = some r:=by first|(rw [hy505];with_reducible exact H)|(have H2_:=(Option.bind_some _ _).symm.trans H;rw [hy505];with_reducible exact H2_)|(have H2_:=(Option.bind_some _ _).symm.trans H;with_reducible exact H2_)|with_reducible exact H|(rw [hy505];exact H)|exact H
   have Ny505:=Aside0.mk hy505
   clear hy505
   obtain rfl:=Option.some.inj H
   go_enter Tryd.func81,Tryd.ntmps81
   go_wp2_with (first|((with_reducible refine gate_dst (N:=19) rfl ?_);refine Kd.R_lit (Kd.int .u8) _ 5 ?hg (N:=19) ?hd (xs:=([(wrap64 (192 + (wrap64 (Int.tdiv a0 64)))) % 256,(wrap64 (128 + (Int.tmod a0 64))) % 256] : List Int)) (inner:=[.int .u8 ((wrap64 (192 + (wrap64 (Int.tdiv a0 64)))) % 256),.int .u8 ((wrap64 (128 + (Int.tmod a0 64))) % 256)]) (ok:=fun _ => True) (okp:=fun _ => True) ?hr ?hp (fun _ hk => hk) trivial (Below.refl _ _) (Nat.le_refl _) (by simp) ?_;(case hd => rfl);(case hg => rfl);(case hr => first|(go_simp;done)|(go_simp;rfl));(case hp => exact (Reps.one (show Kd.M (Kd.int .u8) _ _ _ ((wrap64 (192 + (wrap64 (Int.tdiv a0 64)))) % 256) [.int .u8 ((wrap64 (192 + (wrap64 (Int.tdiv a0 64)))) % 256)] from rfl) (Reps.one (show Kd.M (Kd.int .u8) _ _ _ ((wrap64 (128 + (Int.tmod a0 64))) % 256) [.int .u8 ((wrap64 (128 + (Int.tmod a0 64))) % 256)] from rfl) (Reps.none _ _))));intro v506 w7 ho8 hb hg_ hnew_;clear hg_ hnew_;(first|rw [← Ny505.out] at ho8|(simp only [Int.reduceToNat] at ho8;rw [← Ny505.out] at ho8));have n0_:=Aside0.mk (Kd.R_lower ho8 (below_size (by repeat (first|(with_reducible first|exact HB.out|apply below_alloc|apply pw_below_drewN|apply below_drew1)|exact HB.out))));have n1_:=Aside0.mk (below_step (by repeat (first|(with_reducible first|exact HB.out|apply below_alloc|apply pw_below_drewN|apply below_drew1)|exact HB.out)) hb);clear HB;have HO507:=n0_;have HB:=n1_;clear n0_ n1_;clear hb ho8;have hcv9:=own_string (P:=Tryd.prog) Tryd.underlying36 Tryd.underlying5 Tryd.underlying9 (Kd.own_of_R HO507.out)))
   go_ret
   exact ⟨by first|rfl|(simp [errW_none,errW_some] <;> rfl)|(simp [*,errW_none,errW_some] <;> rfl),by repeat (first|(with_reducible first|exact HB.out|apply below_alloc|apply pw_below_drewN|apply below_drew1)|exact HB.out)⟩
  ·rw [if_neg c6] at H
   have c6b0 : decide (a0 < 2048) = false:=decide_eq_false c6
   clear c6
   by_cases c10 : a0 < 65536
   ·rw [if_pos c10] at H
    have c10b0 : decide (a0 < 65536) = true:=decide_eq_true c10
    clear c10
    obtain ⟨y508,hy508⟩ : ∃ y_ : List Int,y_ = (([(wrap64 (224 + (wrap64 (Int.tdiv a0 4096)))) % 256,(wrap64 (128 + (Int.tmod (wrap64 (Int.tdiv a0 64)) 64))) % 256,(wrap64 (128 + (Int.tmod a0 64))) % 256] : List Int)):=⟨_,rfl⟩
    replace H : (some (strOfNums y508)) = some r:=by first|(rw [hy508];with_reducible exact H)|(have H2_:=(Option.bind_some _ _).symm.trans H;rw [hy508];with_reducible exact H2_)|(have H2_:=(Option.bind_some _ _).symm.trans H;with_reducible exact H2_)|with_reducible exact H|(rw [hy508];exact H)|exact H
    have Ny508:=Aside0.mk hy508
    clear hy508
    obtain rfl:=Option.some.inj H
    go_enter Tryd.func81,Tryd.ntmps81
    go_wp2_with (first|((with_reducible refine gate_dst (N:=36) rfl ?_);refine Kd.R_lit (Kd.int .u8) _ 5 ?hg (N:=36) ?hd (xs:=([(wrap64 (224 + (wrap64 (Int.tdiv a0 4096)))) % 256,(wrap64 (128 + (Int.tmod (wrap64 (Int.tdiv a0 64)) 64))) % 256,(wrap64 (128 + (Int.tmod a0 64))) % 256] : List Int)) (inner:=[.int .u8 ((wrap64 (224 + (wrap64 (Int.tdiv a0 4096)))) % 256),.int .u8 ((wrap64 (128 + (Int.tmod (wrap64 (Int.tdiv a0 64)) 64))) % 256),.int .u8 ((wrap64 (128 + (Int.tmod a0 64))) % 256)]) (ok:=fun _ => True) (okp:=fun _ => True) ?hr ?hp (fun _ hk => hk) trivial (Below.refl _ _) (Nat.le_refl _) (by simp) ?_;(case hd => rfl);(case hg => rfl);(case hr => first|(go_simp;done)|(go_simp;rfl));(case hp => exact (Reps.one (show Kd.M (Kd.int .u8) _ _ _ ((wrap64 (224 + (wrap64 (Int.tdiv a0 4096)))) % 256) [.int .u8 ((wrap64 (224 + (wrap64 (Int.tdiv a0 4096)))) % 256)] from rfl) (Reps.one (show Kd.M (Kd.int .u8) _ _ _ ((wrap64 (128 + (Int.tmod (wrap64 (Int.tdiv a0 64)) 64))) % 256) [.int .u8 ((wrap64 (128 + (Int.tmod (wrap64 (Int.tdiv a0 64)) 64))) % 256)] from rfl) (Reps.one (show Kd.M (Kd.int .u8) _ _ _ ((wrap64 (128 + (Int.tmod a0 64))) % 256) [.int .u8 ((wrap64 (128 + (Int.tmod a0 64))) % 256)] from rfl) (Reps.none _ _)))));intro v509 w11 ho12 hb hg_ hnew_;clear hg_ hnew_;(first|rw [← Ny508.out] at ho12|(simp only [Int.reduceToNat] at ho12;rw [← Ny508.out] at ho12));have n0_:=Aside0.mk (Kd.R_lower ho12 (below_size (by repeat (first|(with_reducible first|exact HB.out|apply below_alloc|apply pw_below_drewN|apply below_drew1)|exact HB.out))));have n1_:=Aside0.mk (below_step (by repeat (first|(with_reducible first|exact HB.out|apply below_alloc|apply pw_below_drewN|apply below_drew1)|exact HB.out)) hb);clear HB;have HO510:=n0_;have HB:=n1_;clear n0_ n1_;clear hb ho12;have hcv13:=own_string (P:=Tryd.prog) Tryd.underlying36 Tryd.underlying5 Tryd.underlying9 (Kd.own_of_R HO510.out)))
    go_ret
    exact ⟨by first|rfl|(simp [errW_none,errW_some] <;> rfl)|(simp [*,errW_none,errW_some] <;> rfl),by repeat (first|(with_reducible first|exact HB.out|apply below_alloc|apply pw_below_drewN|apply below_drew1)|exact HB.out)⟩
   ·rw [if_neg c10] at H
    have c10b0 : decide (a0 < 65536) = false:=decide_eq_false c10
    clear c10
    obtain ⟨y511,hy511⟩ : ∃ y_ : List Int,y_ = (([(wrap64 (240 + (wrap64 (Int.tdiv a0 262144)))) % 256,(wrap64 (128 + (Int.tmod (wrap64 (Int.tdiv a0 4096)) 64))) % 256,(wrap64 (128 + (Int.tmod (wrap64 (Int.tdiv a0 64)) 64))) % 256,(wrap64 (128 + (Int.tmod a0 64))) % 256] : List Int)):=⟨_,rfl⟩
    replace H : (some (strOfNums y511)) = some r:=by first|(rw [hy511];with_reducible exact H)|(have H2_:=(Option.bind_some _ _).symm.trans H;rw [hy511];with_reducible exact H2_)|(have H2_:=(Option.bind_some _ _).symm.trans H;with_reducible exact H2_)|with_reducible exact H|(rw [hy511];exact H)|exact H
    have Ny511:=Aside0.mk hy511
    clear hy511
    obtain rfl:=Option.some.inj H
    go_enter Tryd.func81,Tryd.ntmps81
    go_wp2_with (first|((with_reducible refine gate_dst (N:=56) rfl ?_);refine Kd.R_lit (Kd.int .u8) _ 5 ?hg (N:=56) ?hd (xs:=([(wrap64 (240 + (wrap64 (Int.tdiv a0 262144)))) % 256,(wrap64 (128 + (Int.tmod (wrap64 (Int.tdiv a0 4096)) 64))) % 256,(wrap64 (128 + (Int.tmod (wrap64 (Int.tdiv a0 64)) 64))) % 256,(wrap64 (128 + (Int.tmod a0 64))) % 256] : List Int)) (inner:=[.int .u8 ((wrap64 (240 + (wrap64 (Int.tdiv a0 262144)))) % 256),.int .u8 ((wrap64 (128 + (Int.tmod (wrap64 (Int.tdiv a0 4096)) 64))) % 256),.int .u8 ((wrap64 (128 + (Int.tmod (wrap64 (Int.tdiv a0 64)) 64))) % 256),.int .u8 ((wrap64 (128 + (Int.tmod a0 64))) % 256)]) (ok:=fun _ => True) (okp:=fun _ => True) ?hr ?hp (fun _ hk => hk) trivial (Below.refl _ _) (Nat.le_refl _) (by simp) ?_;(case hd => rfl);(case hg => rfl);(case hr => first|(go_simp;done)|(go_simp;rfl));(case hp => exact (Reps.one (show Kd.M (Kd.int .u8) _ _ _ ((wrap64 (240 + (wrap64 (Int.tdiv a0 262144)))) % 256) [.int .u8 ((wrap64 (240 + (wrap64 (Int.tdiv a0 262144)))) % 256)] from rfl) (Reps.one (show Kd.M (Kd.int .u8) _ _ _ ((wrap64 (128 + (Int.tmod (wrap64 (Int.tdiv a0 4096)) 64))) % 256) [.int .u8 ((wrap64 (128 + (Int.tmod (wrap64 (Int.tdiv a0 4096)) 64))) % 256)] from rfl) (Reps.one (show Kd.M (Kd.int .u8) _ _ _ ((wrap64 (128 + (Int.tmod (wrap64 (Int.tdiv a0 64)) 64))) % 256) [.int .u8 ((wrap64 (128 + (Int.tmod (wrap64 (Int.tdiv a0 64)) 64))) % 256)] from rfl) (Reps.one (show Kd.M (Kd.int .u8) _ _ _ ((wrap64 (128 + (Int.tmod a0 64))) % 256) [.int .u8 ((wrap64 (128 + (Int.tmod a0 64))) % 256)] from rfl) (Reps.none _ _))))));intro v512 w14 ho15 hb hg_ hnew_;clear hg_ hnew_;(first|rw [← Ny511.out] at ho15|(simp only [Int.reduceToNat] at ho15;rw [← Ny511.out] at ho15));have n0_:=Aside0.mk (Kd.R_lower ho15 (below_size (by repeat (first|(with_reducible first|exact HB.out|apply below_alloc|apply pw_below_drewN|apply below_drew1)|exact HB.out))));have n1_:=Aside0.mk (below_step (by repeat (first|(with_reducible first|exact HB.out|apply below_alloc|apply pw_below_drewN|apply below_drew1)|exact HB.out)) hb);clear HB;have HO513:=n0_;have HB:=n1_;clear n0_ n1_;clear hb ho15;have hcv16:=own_string (P:=Tryd.prog) Tryd.underlying36 Tryd.underlying5 Tryd.underlying9 (Kd.own_of_R HO513.out)))
    go_ret
    exact ⟨by first|rfl|(simp [errW_none,errW_some] <;> rfl)|(simp [*,errW_none,errW_some] <;> rfl),by repeat (first|(with_reducible first|exact HB.out|apply below_alloc|apply pw_below_drewN|apply below_drew1)|exact HB.out)⟩
end Go.Proofs.YtadfkeipcebmfaaDoor.X
