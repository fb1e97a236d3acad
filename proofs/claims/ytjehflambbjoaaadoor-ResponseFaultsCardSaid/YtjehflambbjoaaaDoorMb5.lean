/-
  What the claim's law rests on, part 5 of 7: printed walks, externals, plain lemmas; conditions: none of its own.
-/
import Derived.IntWalk
import Derived.Laws.BitsLemmas
import Derived.Laws.CopyOwn
import Derived.Lib.Hide
import Derived.Lib.Replace
import Derived.Lib.ValidLaws
import Derived.LoopIn
import Derived.LoopNIn
import Derived.OwnWalkIn
import Derived.RangeFuncBound
import Derived.RangeFuncCalls
import Derived.RangeFuncLeaves
import Derived.RangeFuncNested
import Derived.Shelf.Abstract
import Derived.Shelf.RegionOpen
import Derived.TacticsInMore
import Derived.Test.YtjehflambbjoaaaDoorProg
import Derived.WalkKit
import Derived.Test.YtjehflambbjoaaaDoorMb4
set_option linter.unusedVariables false
set_option linter.unusedSimpArgs false
namespace Go.Proofs.YtjehflambbjoaaaDoor.Pure
open Go.Proofs.YtjehflambbjoaaaDoor.X Go.RowKit Go.Proofs.YtjehflambbjoaaaDoorW.PrintWords Go.Proofs.YtjehflambbjoaaaDoorW.PrintMore
theorem decN_one (n b0 b1 b2 b3:Nat) (h0:¬ b0<128) (h:(Lib.decodeN n b0 b1 b2 b3).2=1):(Lib.decodeN n b0 b1 b2 b3).1=65533:=by
 unfold Lib.decodeN at *
 rw [if_neg h0] at h ⊢
 by_cases a1:b0 / 32=6∧(1<n∧b1 / 64=2)
 ·rw [if_pos a1] at h ⊢
  split at h
  ·cases h
  ·rename_i g
   rw [if_neg g]
 ·rw [if_neg a1] at h ⊢
  by_cases a2:b0 / 16=14∧(1<n∧b1 / 64=2)∧(2<n∧b2 / 64=2)
  ·rw [if_pos a2] at h ⊢
   split at h
   ·cases h
   ·rename_i g
    rw [if_neg g]
  ·rw [if_neg a2] at h ⊢
   by_cases a3:b0 / 8=30∧(1<n∧b1 / 64=2)∧(2<n∧b2 / 64=2)∧(3<n∧b3 / 64=2)
   ·rw [if_pos a3] at h ⊢
    split at h
    ·cases h
    ·rename_i g
     rw [if_neg g]
   ·rw [if_neg a3]
open Go.Proofs.YtjehflambbjoaaaDoor.X Go.RowKit Go.Proofs.YtjehflambbjoaaaDoorW.PrintWords
def leafB (d:Int) (t:Bs):Bool:=if d=4 then decide (t.length≤65536)&&isNum t else if d=5 then Lib.validD t else(d==1 || d==2 || d==3)&&t.isEmpty
def good:F→Nat→Bool→Bool
 | .nil,_,_=>true
 | .leaf k kd t r,d,keyed=>decide (0<d)&&(k.isEmpty || keyed)&&Lib.validD k&&leafB kd t&&good r d keyed
 | .node k kd ks r,d,keyed=>decide (0<d)&&(k.isEmpty || keyed)&&Lib.validD k&&(kd==6 || kd==7)&&good ks (d - 1) (kd==7)&&good r d keyed
def key:F→Bs
 | .leaf k _ _ _=>k
 | .node k _ _ _=>k
 | .nil=>[]
theorem good_app:∀(f g:F) (d:Nat) (keyed:Bool),good (f.app g) d keyed=(good f d keyed&&good g d keyed)
 | .nil,g,d,keyed=>by simp [F.app,good]
 | .leaf k kd t r,g,d,keyed=>by simp [F.app,good,good_app r g,Bool.and_assoc]
 | .node k kd ks r,g,d,keyed=>by simp [F.app,good,good_app r g,Bool.and_assoc]
def DecIs (d:Nat) (keyed:Bool) (t:F):Prop:=∀ r,dec d keyed (t.flat++r)=some (t,r)
theorem kids_is (d:Nat) (keyed:Bool):∀(f:F),(∀ t∈f.trees,DecIs d keyed t)→∀ r,kids (dec d keyed) f.count (f.flat++r)=some (f,r)
 | .nil,h,r=>rfl
 | .leaf k kd t f,h,r=>by
  have h1:=h (.leaf k kd t .nil) (by simp [F.trees]) (f.flat++r)
  have h2:=kids_is d keyed f (fun u hu=>h u (by simp [F.trees,hu])) r
  have e:(F.leaf k kd t f).flat++r=(F.leaf k kd t .nil).flat++(f.flat++r):=by simp [F.flat]
  rw [e,F.count,kids,h1]
  simp only
  rw [h2]
  rfl
 | .node k kd ks f,h,r=>by
  have h1:=h (.node k kd ks .nil) (by simp [F.trees]) (f.flat++r)
  have h2:=kids_is d keyed f (fun u hu=>h u (by simp [F.trees,hu])) r
  have e:(F.node k kd ks f).flat++r=(F.node k kd ks .nil).flat++(f.flat++r):=by simp [F.flat]
  rw [e,F.count,kids,h1]
  simp only
  rw [h2]
  rfl
theorem dec_is:∀(f:F) (d:Nat) (keyed:Bool),good f d keyed=true→∀ t∈f.trees,DecIs d keyed t
 | .nil,d,keyed,h,t,ht=>by simp [F.trees] at ht
 | .leaf k kd tx f,d,keyed,h,t,ht=>by
  simp only [good,Bool.and_eq_true,decide_eq_true_eq] at h
  simp only [F.trees,List.mem_cons] at ht
  rcases ht with rfl|ht
  ·obtain ⟨d,rfl⟩:∃ d',d=d'+1:=⟨d - 1,au0⟩
   intro r
   obtain ⟨⟨⟨⟨_,g2⟩,g3⟩,g4⟩,_⟩:=h
   have hk:(1≤kd∧kd≤5)∧(if kd=4 then decide ((str tx).size≤65536)&&isNum tx else if kd=5 then Lib.validD tx else tx.isEmpty)=true:=by
    unfold leafB at g4
    rw [str_size]
    split at g4
    ·rename_i h4
     rw [if_pos h4]
     exact ⟨au0,g4⟩
    ·rename_i h4
     rw [if_neg h4]
     split at g4
     ·rename_i h5
      rw [if_pos h5]
      exact ⟨au0,g4⟩
     ·rename_i h5
      rw [if_neg h5]
      simp only [Bool.and_eq_true,Bool.or_eq_true,beq_iff_eq] at g4
      exact ⟨au0,g4.2⟩
   obtain ⟨⟨k1,k2⟩,k3⟩:=hk
   have hok:okN (⟨kd,1,0,str k,str tx⟩:Nd) keyed=true:=by
    unfold okN
    simp only [str_list]
    rw [g2,g3,k3]
    have e1:decide (1≤kd)=true:=decide_eq_true k1
    have e2:decide (kd≤7)=true:=decide_eq_true au0
    rw [e1,e2]
    rfl
   show dec (d+1) keyed ((⟨kd,1,0,str k,str tx⟩:Nd) :: ([]++r))=_
   simp only [dec]
   rw [if_pos hok]
   simp only [Int.toNat_zero,kids,List.nil_append]
   rw [if_pos au5,if_pos au0]
   rfl
  ·exact dec_is f d keyed h.2 t ht
 | .node k kd ks f,d,keyed,h,t,ht=>by
  simp only [good,Bool.and_eq_true,decide_eq_true_eq,Bool.or_eq_true,beq_iff_eq] at h
  simp only [F.trees,List.mem_cons] at ht
  rcases ht with rfl|ht
  ·obtain ⟨d,rfl⟩:∃ d',d=d'+1:=⟨d - 1,au0⟩
   intro r
   obtain ⟨⟨⟨⟨⟨_,g2⟩,g3⟩,g4⟩,g5⟩,_⟩:=h
   have hks:=kids_is d (kd==7) ks (dec_is ks d (kd==7) g5) r
   have hok:okN (⟨kd,((ks.flat.length+1:Nat):Int),(ks.count:Nat),str k,str []⟩:Nd) keyed=true:=by
    unfold okN
    simp only [str_list]
    have g2':(k.isEmpty || keyed)=true:=by simpa using g2
    rw [g2',g3]
    rcases g4 with rfl|rfl<;>simp
   have e:(F.node k kd ks .nil).flat++r=(⟨kd,((ks.flat.length+1:Nat):Int),(ks.count:Nat),str k,str []⟩:Nd) :: (ks.flat++r):=by simp [F.flat]
   rw [e]
   simp only [dec]
   rw [if_pos hok]
   simp only [Int.toNat_natCast]
   rw [hks]
   simp only
   rw [if_pos au5,if_neg au0]
   rfl
  ·exact dec_is f d keyed h.2 t ht
theorem tree_is {f:F} (h1:f.one) (h:good f 32 false=true):tree? f.flat=some f:=by
 have hm:f∈f.trees:=by
  match f,h1 with
  | .leaf _ _ _ .nil,_=>simp [F.trees]
  | .node _ _ _ .nil,_=>simp [F.trees]
 have:=dec_is f 32 false h f hm []
 rw [List.append_nil] at this
 unfold tree?
 rw [this]
def nd:Bs→Bool
 | []=>true
 | c :: _=>!isDig c
open Go.Proofs.YtjehflambbjoaaaDoor.X Go.RowKit Go.Proofs.YtjehflambbjoaaaDoorW.PrintWords
def E57 {α:Type} (x:Rs α):Prop:=∀ r e,x=.bad r e→e=5∨e=7
theorem E57.map {α β:Type} {f:α→β} {x:Rs α} (h:E57 x):E57 (x.map f):=by
 intro r e h'
 cases x with
 | bad a b =>
  injection h' with _ h2
  exact h2 ▸ h a b rfl
 | ok a b=>cases h'
theorem out_one {t:F} (h:t.one) (ob first:Bool):t.out ob first=(if first then [] else [44])++(if ob then quote (key t)++[58] else [])++t.out false true:=by
 match t,h with
 | .leaf k kd tx .nil,_=>simp [F.out,key]
 | .node k kd ks .nil,_=>simp [F.out,key]
theorem out_app {t:F} (h:t.one) (g:F) (ob first:Bool):(t.app g).out ob first=t.out ob first++g.out ob false:=by
 match t,h with
 | .leaf k kd tx .nil,_=>simp [F.app,F.out]
 | .node k kd ks .nil,_=>simp [F.app,F.out]
theorem valid_step (c:UInt8) (r:Bs):Lib.validD (c :: r)=if sgn (c :: r)=0 then false else Lib.validD ((c :: r).drop (sgn (c :: r))):=by
 by_cases hc:c.toNat<128
 ·have e:sgn (c :: r)=1:=by simp only [sgn];rw [if_pos hc]
  rw [Lib.validD_cons c r hc,e,if_neg au1]
  rfl
 ·have hN:(Lib.decodeL (c :: r)).2=1→(Lib.decodeL (c :: r)).1=65533:=by
   rw [Lib.decodeL_N]
   exact decN_one _ _ _ _ _ (by simpa using hc)
  rw [Lib.validD_step _ au5]
  by_cases h1:(Lib.decodeL (c :: r)).2=1
  ·have e:sgn (c :: r)=0:=by simp only [sgn];rw [if_neg hc,if_pos h1]
   rw [if_pos ⟨hN h1,h1⟩,if_pos e]
  ·have e:sgn (c :: r)=(Lib.decodeL (c :: r)).2:=by simp only [sgn];rw [if_neg hc,if_neg h1]
   have hw:=Lib.decodeL_width (c :: r)
   rw [if_neg (fun h=>h1 h.2),e,if_neg au0]
theorem valid_l0 (s:ByteArray) (hs:s.size≤1000000):∀(n:Nat) (l:Bs) (p k:Nat),l.length≤n→At s p l→n+30≤k→racewayref25_Valid.l0 k s (p:Int)=some (Lib.validD l)
 | n,[],p,0,hn,ha,hk=>by omega
 | n,[],p,k+1,hn,ha,hk=>by
  rw [racewayref25_Valid.l0,if_neg ha.ge]
  rfl
 | n,c :: r,p,0,hn,ha,hk=>by omega
 | 0,c :: r,p,k+1,hn,ha,hk=>by simp at hn
 | n+1,c :: r,p,k+1,hn,ha,hk=>by
  rw [racewayref25_Valid.l0,if_pos ha.lti,sign_is s p (c :: r) ha au5 au0 k au0,Option.bind_some,valid_step]
  by_cases h:sgn (c :: r)=0
  ·rw [if_pos h,if_pos au0]
  ·have hsl:=sgn_le (c :: r)
   have had:=ha.add _ hsl
   have hdl:=had.le
   rw [if_neg h,if_neg au0,w64v au0 au0,show((p:Int)+((sgn (c :: r):Nat):Int))=((p+sgn (c :: r):Nat):Int) by omega]
   exact valid_l0 s hs n _ _ k (by rw [List.length_drop];simp only [List.length_cons] at hn ⊢;omega) had au0
theorem valid_is (s:ByteArray) (hs:s.size≤1000000) (k:Nat) (hk:s.size+30≤k):racewayref25_Valid.f k s=some (Lib.validD s.data.toList):=by
 rw [racewayref25_Valid.f]
 exact valid_l0 s hs s.size _ 0 k au5 (At.start s) hk
theorem number_is0 (s:ByteArray) (hs:s.size≤1000000) (k:Nat) (hk:3*s.size+20≤k):∃(a e:Int) (T:List S24) (S:ByteArray),racewayref25_number.f k s 0=some (a,e,T,S)∧(isNum s.data.toList=true ↔ e=0∧a=(s.size:Int)):=by
 have hl:s.data.toList.length=s.size:=by simp
 have h:racewayref25_number.f k s 0=nres s 0 (num s.data.toList):=number_R (At.start s) au0 k au0
 rw [h]
 cases hn:num s.data.toList with
 | bad r e =>
  have h5:=num_five _ _ _ hn
  refine ⟨_,_,_,_,rfl,?_⟩
  rw [isNum,hn]
  simp only
  constructor
  ·intro h;cases h
  ·intro h;omega
 | ok r u =>
  have hlt:=num_len _ _ _ hn
  refine ⟨_,_,_,_,rfl,?_⟩
  rw [isNum,hn]
  cases r with
  | nil =>
   simp only [List.length_nil,Nat.sub_zero,true_iff]
   exact ⟨trivial,trivial⟩
  | cons c r =>
   simp only [List.length_cons] at hlt ⊢
   constructor
   ·intro h;cases h
   ·intro h;omega
def okHead (x:S24) (keyed:Bool):Bool:=decide (1≤x.f0)&&decide (x.f0≤7)&&decide (0≤x.f2)&&(decide (x.f2≤0) || decide (6≤x.f0))&&(x.f3.data.toList.isEmpty || keyed)&&Lib.validD x.f3.data.toList
def okTail (x:S24):Bool:=if x.f0=4 then decide (x.f4.size≤65536)&&isNum x.f4.data.toList else if x.f0=5 then Lib.validD x.f4.data.toList else x.f4.data.toList.isEmpty
theorem ok_two (x:S24) (keyed:Bool):okN x keyed=(okHead x keyed&&okTail x):=rfl
theorem may_head (l:List S24) (p en k:Nat) (keyed:Bool) (deep:Int) (x:S24) (hx:rd_T24 l (p:Int)=x) (hp:p<en) (hl:p<l.length) (h3:x.f3.size≤1000000) (hk:x.f3.size+30≤k) :
  racewayref25_may.f (k+1) l (p:Int) (en:Int) keyed deep=racewayref25_may.j0 k l (p:Int) (en:Int) deep (!(okHead x keyed&&decide (deep<32))) x.f0 x.f1 x.f2 x.f3 x.f4:=by
 rw [racewayref25_may.f,if_pos au0,if_pos au0,if_neg au0,hx,valid_is x.f3 h3 k hk,tl]
 simp only [Option.bind_some]
 unfold okHead
 generalize Lib.validD x.f3.data.toList=V
 by_cases a1:x.f0<1
 ·rw [if_pos a1,decide_eq_false au0];rfl
 ·rw [if_neg a1,decide_eq_true (show 1≤x.f0 by omega)]
  by_cases a2:x.f0 > 7
  ·rw [if_pos a2,decide_eq_false (show ¬ x.f0≤7 by omega)];rfl
  ·rw [if_neg a2,decide_eq_true (show x.f0≤7 by omega)]
   by_cases a4:x.f2<0
   ·rw [if_pos a4,decide_eq_false (show ¬ 0≤x.f2 by omega)];rfl
   ·rw [if_neg a4,decide_eq_true (show 0≤x.f2 by omega)]
    by_cases a5:deep≥32
    ·rw [if_pos a5,decide_eq_false (show ¬ deep<32 by omega),Bool.and_false];rfl
    ·rw [if_neg a5,decide_eq_true (show deep<32 by omega),Bool.and_true]
     by_cases a6:x.f2 > 0
     ·rw [if_pos a6,decide_eq_false (show ¬ x.f2≤0 by omega)]
      by_cases a7:x.f0<6
      ·rw [if_pos a7,decide_eq_false (show ¬ 6≤x.f0 by omega)];rfl
      ·rw [if_neg a7,decide_eq_true (show 6≤x.f0 by omega)]
       cases hk2:x.f3.data.toList with
       | nil=>rw [if_pos rfl];simp
       | cons c r =>
        rw [if_neg au5]
        cases keyed with
        | true=>rw [if_pos rfl];simp
        | false=>rw [if_neg au1];simp
     ·rw [if_neg a6,decide_eq_true (show x.f2≤0 by omega)]
      cases hk2:x.f3.data.toList with
      | nil=>rw [if_pos rfl];simp
      | cons c r =>
       rw [if_neg au5]
       cases keyed with
       | true=>rw [if_pos rfl];simp
       | false=>rw [if_neg au1];simp
theorem may_tail (l:List S24) (p en k:Nat) (deep:Int) (x:S24) (h4:x.f4.size≤1000000) (hk:3*x.f4.size+30≤k) :
  racewayref25_may.j0 (k+3) l (p:Int) (en:Int) deep false x.f0 x.f1 x.f2 x.f3 x.f4=if okTail x then racewayref25_may.l0 k l (p:Int) (en:Int) deep (wrap64 ((p:Int)+1)) 0 x.f0 x.f1 x.f2 x.f3 x.f4 else some (-1):=by
 obtain ⟨f0,f1,f2,f3,f4⟩:=x
 simp only at h4 hk ⊢
 unfold okTail
 simp only
 have j2f:racewayref25_may.j2 (k+1) l (p:Int) (en:Int) deep false f0 f1 f2 f3 f4=racewayref25_may.l0 k l (p:Int) (en:Int) deep (wrap64 ((p:Int)+1)) 0 f0 f1 f2 f3 f4:=by rw [racewayref25_may.j2,if_neg au1]
 have j2t:racewayref25_may.j2 (k+1) l (p:Int) (en:Int) deep true f0 f1 f2 f3 f4=some (-1):=by rw [racewayref25_may.j2,if_pos rfl]
 rw [racewayref25_may.j0,if_neg au1]
 by_cases c4:f0=4
 ·rw [if_pos c4,if_pos c4]
  by_cases c5:(f4.size:Int) > 65536
  ·rw [if_pos c5,decide_eq_false (show ¬ f4.size≤65536 by omega)]
   rfl
  ·rw [if_neg c5,decide_eq_true (show f4.size≤65536 by omega),Bool.true_and]
   obtain ⟨a,e,T,S,hn,hiff⟩:=number_is0 f4 h4 (k+2) au0
   rw [hn,Option.bind_some]
   simp only
   by_cases hN:isNum f4.data.toList=true
   ·obtain ⟨e0,ea⟩:=hiff.mp hN
    rw [if_pos e0,if_pos ea,if_pos hN,racewayref25_may.j1,if_neg au0,if_pos c4,j2f]
   ·rw [if_neg hN]
    by_cases e0:e=0
    ·rw [if_pos e0,if_neg (fun ea=>hN (hiff.mpr ⟨e0,ea⟩))]
    ·rw [if_neg e0]
 ·rw [if_neg c4,if_neg c4,racewayref25_may.j1,valid_is f4 h4 (k+1) au0,Option.bind_some,tl]
  by_cases c5:f0=5
  ·rw [if_pos c5,if_pos c5]
   cases Lib.validD f4.data.toList with
   | true=>rw [if_pos rfl,if_neg c4,j2f];rfl
   | false=>rw [if_neg au1,j2t];rfl
  ·rw [if_neg c5,if_neg c5,if_neg c4]
   cases f4.data.toList with
   | nil=>exact j2f
   | cons c r=>exact j2t
def mayA (o:Option (F × List S24)) (p en:Nat):Int:=match o with
 | some (t,_)=>if p+t.flat.length≤en then((p+t.flat.length:Nat):Int) else -1
 | none => -1
def MayOk (l:List S24) (d:Nat):Prop:=∀(deep:Nat) (keyed:Bool) (p en k:Nat),d+deep=32→p<en→en≤l.length→10*(l.length - p)+4000000≤k→racewayref25_may.f k l (p:Int) (en:Int) keyed (deep:Int)=some (mayA (dec d keyed (l.drop p)) p en)
def mayB (o:Option (F × List S24)) (at_:Nat) (f1:Int) (p en:Nat):Int:=match o with
 | some (t,_)=>if p+t.flat.length≤en then(if f1=((p+t.flat.length - at_:Nat):Int) then((p+t.flat.length:Nat):Int) else -1) else -1
 | none => -1
theorem may_loop (l:List S24) (hl:l.length≤1000000) (d:Nat) (hd:MayOk l d) (deep:Nat) (hdd:d+1+deep=32) (f0 f1 f2:Int) (f3 f4:ByteArray) (at_ en:Nat) (hen:en≤l.length) (hN:f2≤9223372036854775807) :
  ∀(n p:Nat) (i:Int) (k:Nat),0≤i→i+n=f2→at_≤p→p≤en→10*(l.length - p)+4000005≤k →
   racewayref25_may.l0 k l (at_:Int) (en:Int) (deep:Int) (p:Int) i f0 f1 f2 f3 f4=some (mayB (kids (dec d (f0==7)) n (l.drop p)) at_ f1 p en)
 | 0,p,i,k,h0,hi,hap,hp,hk=>by
  obtain ⟨k,rfl⟩:∃ k',k=k'+1:=⟨k - 1,au0⟩
  rw [racewayref25_may.l0,if_neg au0,w64v au0 au0]
  have e:mayB (kids (dec d (f0==7)) 0 (l.drop p)) at_ f1 p en=if p≤en then(if f1=((p - at_:Nat):Int) then(p:Int) else -1) else -1:=rfl
  rw [e,if_pos hp,show(p:Int) - (at_:Int)=((p - at_:Nat):Int) by omega]
  split<;>rfl
 | n+1,p,i,k,h0,hi,hap,hp,hk=>by
  obtain ⟨k,rfl⟩:∃ k',k=k'+1:=⟨k - 1,au0⟩
  rw [racewayref25_may.l0,if_pos au0]
  by_cases hpe:(p:Int)≥(en:Int)
  ·rw [if_pos hpe]
   congr 1
   simp only [kids,mayB]
   cases h1:dec d (f0==7) (l.drop p) with
   | none=>rfl
   | some x =>
    obtain ⟨t,r⟩:=x
    obtain ⟨a1,a2,a3⟩:=dec_ok _ _ _ _ _ h1
    have:=one_pos a2
    simp only
    cases h2:kids (dec d (f0==7)) n r with
    | none=>rfl
    | some y =>
     simp only [F.flat_app,List.length_append]
     rw [if_neg au0]
  ·rw [if_neg hpe,w64v (x:=(deep:Int)+1) au0 au0]
   have hc:=hd (deep+1) (f0==7) p en k au0 au0 hen au0
   rw [show((deep:Int)+1)=((deep+1:Nat):Int) by omega,hc]
   simp only [Option.bind_some,kids,mayA]
   cases h1:dec d (f0==7) (l.drop p) with
   | none=>rfl
   | some x =>
    obtain ⟨t,r⟩:=x
    obtain ⟨a1,a2,a3⟩:=dec_ok _ _ _ _ _ h1
    have hpos:=one_pos a2
    simp only
    by_cases hle:p+t.flat.length≤en
    ·rw [if_pos hle,if_neg au0,w64v (x:=i+1) au0 au0]
     have hr:r=l.drop (p+t.flat.length):=by
      rw [← List.drop_drop,a1]
      simp
     have:=may_loop l hl d hd deep hdd f0 f1 f2 f3 f4 at_ en hen hN n (p+t.flat.length) (i+1) k au0 au0 au0 hle au0
     rw [this,← hr]
     simp only [mayB]
     cases h2:kids (dec d (f0==7)) n r with
     | none=>rfl
     | some y =>
      simp only [F.flat_app,List.length_append,Nat.add_assoc]
    ·rw [if_neg hle,if_pos au1]
     congr 1
     simp only [mayB]
     cases h2:kids (dec d (f0==7)) n r with
     | none=>rfl
     | some y =>
      simp only [F.flat_app,List.length_append]
      rw [if_neg au0]
theorem may_law (l:List S24) (hl:fit l=true) (hlen:l.length≤1000000):∀ d,MayOk l d
 | d,deep,keyed,p,en,k,hdd,hp,hen,hk=>by
  obtain ⟨k,rfl⟩:∃ k',k=k'+4:=⟨k - 4,au0⟩
  obtain ⟨x,r,hx⟩:∃ x r,l.drop p=x :: r:=⟨_,_,List.drop_eq_getElem_cons (show p<l.length by omega)⟩
  obtain ⟨e1,e2,e3,e4⟩:=rd_cast l p x r hx
  obtain ⟨s3,s4,hn2,hs0,hs1⟩:=fit_at hl e4
  rw [may_head l p en (k+3) keyed deep x e1 hp e2 s3 au0]
  match d,hdd with
  | 0,hdd =>
   rw [decide_eq_false (show ¬ (deep:Int)<32 by omega),Bool.and_false,racewayref25_may.j0,if_pos au1]
   rfl
  | d+1,hdd =>
   have hdec:dec (d+1) keyed (x :: r)=if okN x keyed then match kids (dec d (x.f0==7)) x.f2.toNat r with
    | none=>none
    | some (ks,r')=>if x.f1=((r.length - r'.length+1:Nat):Int) then some (if x.f0<6 then .leaf x.f3.data.toList x.f0 x.f4.data.toList .nil else .node x.f3.data.toList x.f0 ks .nil,r') else none
    else none:=rfl
   rw [hx,decide_eq_true (show(deep:Int)<32 by omega),Bool.and_true,hdec,ok_two]
   by_cases hh:okHead x keyed=true
   ·rw [hh,Bool.true_and]
    show racewayref25_may.j0 (k+3) l (p:Int) (en:Int) (deep:Int) false x.f0 x.f1 x.f2 x.f3 x.f4=_
    rw [may_tail l p en k deep x s4 au0]
    by_cases ht:okTail x=true
    ·rw [if_pos ht,if_pos ht,w64v au0 au0,show((p:Int)+1)=((p+1:Nat):Int) by omega]
     have h0:0≤x.f2:=by
      simp only [okHead,Bool.and_eq_true,decide_eq_true_eq] at hh
      omega
     rw [may_loop l hlen d (may_law l hl hlen d) deep hdd x.f0 x.f1 x.f2 x.f3 x.f4 p en hen hn2 x.f2.toNat (p+1) 0 k au0 au0 au0 au0 au0,e3]
     congr 1
     cases hk2:kids (dec d (x.f0==7)) x.f2.toNat r with
     | none=>rfl
     | some y =>
      obtain ⟨ks,r'⟩:=y
      have h6:=(kids_ok (dec_ok d (x.f0==7)) _ _ _ _ hk2).1
      have h7:=congrArg List.length h6
      simp only [List.length_append] at h7
      simp only [mayB]
      by_cases hsz:x.f1=((r.length - r'.length+1:Nat):Int)
      ·rw [if_pos hsz]
       have hfl:=(dec_ok (d+1) keyed (x :: r) _ r' (by rw [hdec,ok_two,hh,ht,if_pos au6,hk2];simp only;rw [if_pos hsz])).1
       have h8:=congrArg List.length hfl
       simp only [List.length_append,List.length_cons] at h8
       simp only [mayA]
       rw [if_pos (show x.f1=((p+1+ks.flat.length - p:Nat):Int) by omega)]
       by_cases hle:p+1+ks.flat.length≤en
       ·rw [if_pos hle,if_pos au0]
        congr 1
        omega
       ·rw [if_neg hle,if_neg au0]
      ·rw [if_neg hsz,if_neg (show ¬ x.f1=((p+1+ks.flat.length - p:Nat):Int) by omega)]
       split<;>rfl
    ·rw [if_neg ht,if_neg ht]
     rfl
   ·have hf:okHead x keyed=false:=by simpa using hh
    rw [hf,racewayref25_may.j0,if_pos au1]
    rfl
theorem rCheck_law (l:List S24) (hl:fit l=true) (hlen:l.length≤1000000) (k:Nat) (hk:10*l.length+4000000≤k):racewayref25_Check.f k l=some (if(tree? l).isSome then 0 else 2):=by
 rw [racewayref25_Check.f]
 cases l with
 | nil=>rfl
 | cons x r =>
  rw [if_neg (by simp only [List.length_cons];omega)]
  have hc:racewayref25_may.f k (x :: r) 0 (((x :: r).length:Nat):Int) false 0=some (mayA (dec 32 false ((x :: r).drop 0)) 0 (x :: r).length):=may_law (x :: r) hl hlen 32 0 false 0 (x :: r).length k rfl au5 (Nat.le_refl _) au0
  rw [hc,List.drop_zero,Option.bind_some]
  cases hd:dec 32 false (x :: r) with
  | none =>
   have ht:tree? (x :: r)=none:=by unfold tree?;rw [hd]
   have e:mayA none 0 (x :: r).length = -1:=rfl
   rw [ht,e,if_neg au0]
   rfl
  | some y =>
   obtain ⟨t,r'⟩:=y
   have hf:=congrArg List.length (dec_ok _ _ _ _ _ hd).1
   simp only [List.length_append] at hf
   have e:mayA (some (t,r')) 0 (x :: r).length=((t.flat.length:Nat):Int):=by
    show(if 0+t.flat.length≤(x :: r).length then((0+t.flat.length:Nat):Int) else -1)=_
    rw [if_pos au0,Nat.zero_add]
   rw [e]
   cases r' with
   | nil =>
    have ht:tree? (x :: r)=some t:=by unfold tree?;rw [hd]
    rw [ht,if_pos (by simp only [List.length_nil] at hf;omega)]
    rfl
   | cons a b =>
    have ht:tree? (x :: r)=none:=by unfold tree?;rw [hd]
    rw [ht,if_neg (by simp only [List.length_cons] at hf ⊢;omega)]
    rfl
end Go.Proofs.YtjehflambbjoaaaDoor.Pure
namespace Go.Proofs.YtjehflambbjoaaaDoor.X
open Go.RowKit Go.Proofs.YtjehflambbjoaaaDoorW.PrintWords Go.Proofs.YtjehflambbjoaaaDoorW.PrintLast Go.Proofs.YtjehflambbjoaaaDoorW.PrintMore
attribute [local go_sem] max2_int min2_int max_two min_two max_three min_three max_four min_four
class Recracewayref29element where
 f:Nat→ByteArray→(List (S24))→Int→Option (ByteArray)
 calls (k:Nat) (a0:ByteArray) (A1:Option Addr) (c1:Nat) (l1:List (S24)) (a2:Int) (r:ByteArray) (w:World) (hr1:Kd.C k24 w A1 l1.length l1) (hc1:l1.length≤c1) (h:f k a0 l1 a2=some r) :
  Calls Tryd.prog 19 #[.string a0,.slice A1 l1.length c1,.int .i64 a2] w fun e w'=>e=.returned (.string r)∧Below w.heap.size w w'
section
variable [Recracewayref29element]
mutual
def racewayref29_insideO.j0:Nat→ByteArray→List (S24)→Int→ByteArray→Bool→Int→Int→Int→ByteArray→ByteArray→Option (ByteArray)
 | 0,_,_,_,_,_,_,_,_,_,_=>none
 | k+1,x0,x1,x2,x8,x30,x103000,x103001,x103002,x103003,x103004=>if x30=true then(racewayref29_insideO.l0 k x8 0 x103000 x103001 x103002 x103003 x103004) else(racewayref29_insideO.l1 k x0 x1 x8 (wrap64 (x2+1)) 0 x103000 x103001 x103002 x103003 x103004)
def racewayref29_insideO.l0:Nat→ByteArray→Int→Int→Int→Int→ByteArray→ByteArray→Option (ByteArray)
 | 0,_,_,_,_,_,_,_=>none
 | k+1,x8,x9,x103000,x103001,x103002,x103003,x103004=>if x9<(x103004.size:Int) then(if 0≤x9 then(if(bt x103004 x9)=38 then(if x8.size+5≤9223372036854775807 then(racewayref29_insideO.l0 k (x8++(⟨#[38,97,109,112,59]⟩:ByteArray)) (wrap64 (x9+1)) x103000 x103001 x103002 x103003 x103004) else(none)) else(if(bt x103004 x9)=60 then(if x8.size+4≤9223372036854775807 then(racewayref29_insideO.l0 k (x8++(⟨#[38,108,116,59]⟩:ByteArray)) (wrap64 (x9+1)) x103000 x103001 x103002 x103003 x103004) else(none)) else(if(bt x103004 x9)=62 then(if x8.size+4≤9223372036854775807 then(racewayref29_insideO.l0 k (x8++(⟨#[38,103,116,59]⟩:ByteArray)) (wrap64 (x9+1)) x103000 x103001 x103002 x103003 x103004) else(none)) else(if(bt x103004 x9)=34 then(if x8.size+6≤9223372036854775807 then(racewayref29_insideO.l0 k (x8++(⟨#[38,113,117,111,116,59]⟩:ByteArray)) (wrap64 (x9+1)) x103000 x103001 x103002 x103003 x103004) else(none)) else(if x9≤(wrap64 (x9+1)) then(if(wrap64 (x9+1))≤(x103004.size:Int) then(if x8.size+(x103004.extract (x9:Int).toNat ((wrap64 (x9+1)):Int).toNat).size≤9223372036854775807 then(racewayref29_insideO.l0 k (x8++(x103004.extract (x9:Int).toNat ((wrap64 (x9+1)):Int).toNat)) (wrap64 (x9+1)) x103000 x103001 x103002 x103003 x103004) else(none)) else(none)) else(none)))))) else(none)) else(some x8)
def racewayref29_insideO.l1:Nat→ByteArray→List (S24)→ByteArray→Int→Int→Int→Int→Int→ByteArray→ByteArray→Option (ByteArray)
 | 0,_,_,_,_,_,_,_,_,_,_=>none
 | k+1,x0,x1,x8,x10,x11,x103000,x103001,x103002,x103003,x103004=>if x11<x103002 then(if x103000=7 then(if 0≤x10 then(if x10<(x1.length:Int) then((Recracewayref29element.f k ((rd_T24 x1 x10).f3) x1 x10).bind fun t104=>(if x8.size+t104.size≤9223372036854775807 then(racewayref29_insideO.l1 k x0 x1 (x8++t104) (wrap64 (x10+((rd_T24 x1 x10).f1))) (wrap64 (x11+1)) x103000 x103001 x103002 x103003 x103004) else(none))) else(none)) else(none)) else((Recracewayref29element.f k x0 x1 x10).bind fun t106=>(if x8.size+t106.size≤9223372036854775807 then(if 0≤x10 then(if x10<(x1.length:Int) then(racewayref29_insideO.l1 k x0 x1 (x8++t106) (wrap64 (x10+((rd_T24 x1 x10).f1))) (wrap64 (x11+1)) x103000 x103001 x103002 x103003 x103004) else(none)) else(none)) else(none)))) else(some x8)
end
def racewayref29_insideO.f (k:Nat) (a0:ByteArray) (l1:List (S24)) (a2:Int):Option (ByteArray):=if 0≤a2 then(if a2<(l1.length:Int) then(if((rd_T24 l1 a2).f0)=2 then(some (⟨#[116,114,117,101]⟩:ByteArray)) else(if((rd_T24 l1 a2).f0)=3 then(some (⟨#[102,97,108,115,101]⟩:ByteArray)) else(if((rd_T24 l1 a2).f0)=4 then(racewayref29_insideO.j0 k a0 l1 a2 (⟨#[]⟩:ByteArray) true ((rd_T24 l1 a2).f0) ((rd_T24 l1 a2).f1) ((rd_T24 l1 a2).f2) ((rd_T24 l1 a2).f3) ((rd_T24 l1 a2).f4)) else(racewayref29_insideO.j0 k a0 l1 a2 (⟨#[]⟩:ByteArray) (((rd_T24 l1 a2).f0)==5) ((rd_T24 l1 a2).f0) ((rd_T24 l1 a2).f1) ((rd_T24 l1 a2).f2) ((rd_T24 l1 a2).f3) ((rd_T24 l1 a2).f4))))) else(none)) else(none)
set_option maxHeartbeats 8000000 in
set_option maxRecDepth 100000 in
theorem racewayref29_insideO.calls (k:Nat) (a0:ByteArray) (A1:Option Addr) (c1:Nat) (l1:List (S24)) (a2:Int) (r:ByteArray) (w:World) (hr1:Kd.C k24 w A1 l1.length l1) (hc1:l1.length≤c1) (h:racewayref29_insideO.f k a0 l1 a2=some r) :
  Calls Tryd.prog 36 #[.string a0,.slice A1 l1.length c1,.int .i64 a2] w fun e w'=>e=.returned (.string r)∧Below w.heap.size w w':=by
 have hu24:=Tryd.underlying24
 have HR1:=Aside0.mk hr1
 have HC1:=Aside0.mk hc1
 clear hr1 hc1
 have HB:=Aside0.mk (Below.refl w.heap.size w)
 have H:(if 0≤a2 then(if a2<(l1.length:Int) then(if((rd_T24 l1 a2).f0)=2 then(some (⟨#[116,114,117,101]⟩:ByteArray)) else(if((rd_T24 l1 a2).f0)=3 then(some (⟨#[102,97,108,115,101]⟩:ByteArray)) else(if((rd_T24 l1 a2).f0)=4 then(racewayref29_insideO.j0 k a0 l1 a2 (⟨#[]⟩:ByteArray) true ((rd_T24 l1 a2).f0) ((rd_T24 l1 a2).f1) ((rd_T24 l1 a2).f2) ((rd_T24 l1 a2).f3) ((rd_T24 l1 a2).f4)) else(racewayref29_insideO.j0 k a0 l1 a2 (⟨#[]⟩:ByteArray) (((rd_T24 l1 a2).f0)==5) ((rd_T24 l1 a2).f0) ((rd_T24 l1 a2).f1) ((rd_T24 l1 a2).f2) ((rd_T24 l1 a2).f3) ((rd_T24 l1 a2).f4))))) else(none)) else(none))=some r:=h
 clear h
 by_cases c4:0≤a2
 ·rw [if_pos c4] at H
  have c4b0:decide (0≤a2)=true:=decide_eq_true c4
  clear c4
  by_cases c5:a2<(l1.length:Int)
  ·rw [if_pos c5] at H
   have c5b0:decide (a2<(l1.length:Int))=true:=decide_eq_true c5
   clear c5
   by_cases c6:((rd_T24 l1 a2).f0)=2
   ·rw [if_pos c6] at H
    have c6b0:(((rd_T24 l1 a2).f0)==2)=true:=beq_iff_eq.mpr c6
    have c6b1:(((rd_T24 l1 a2).f0) != 2)=false:=bne_eq_false_iff_eq.mpr c6
    clear c6
    obtain rfl:=Option.some.inj H
    have p101:0≤(a2:Int):=of_decide_eq_true au7
    have q101:a2<(l1.length:Int):=of_decide_eq_true au7
    obtain ⟨ad101,e101,hx101_0,hx101_1,hx101_2,hx101_3,hx101_4⟩:=at_T24 HR1.out a2 p101 q101
    cases e101
    replace p101:=eq_true p101
    replace q101:=eq_true q101
    go_enter Tryd.func36,Tryd.ntmps36
    go_wp2_with (first|((with_reducible refine gate_dst (N:=7) rfl ?_);refine box_event ?hg (N:=7) ?hd (cs:=#[.int .i64 0,.int .i64 0,.int .i64 0,.string (⟨#[]⟩:ByteArray),.string (⟨#[]⟩:ByteArray)]) (t:=24) ?hr ?_;(case hd=>rfl);(case hg=>rfl);(case hr=>first|(go_simp;done)|(go_simp;rfl));intro gb102 hg w7 hbox hb;have n0_:=Aside0.mk (below_step au3 hb);have n1_:=Aside0.mk (hbox);have n2_:=Aside0.mk ((by rw [hg];exact(below_size au3):w.heap.size≤gb102));have n3_:=Aside0.mk ((by rw [hg];exact(below_size au3):w.heap.size≤gb102));clear HB;have HB:=n0_;have BK102:=n1_;have GW102:=n2_;have GE102:=n3_;clear n0_ n1_ n2_ n3_;clear hb hbox hg;have hcz8_0:w7.cell? ⟨gb102,0,none⟩=some (.int .i64 0):=(blk_cell BK102.out 0).trans rfl;have hcz8_1:w7.cell? ⟨gb102,1,none⟩=some (.int .i64 0):=(blk_cell BK102.out 1).trans rfl;have hcz8_2:w7.cell? ⟨gb102,2,none⟩=some (.int .i64 0):=(blk_cell BK102.out 2).trans rfl;have hcz8_3:w7.cell? ⟨gb102,3,none⟩=some (.string (⟨#[]⟩:ByteArray)):=(blk_cell BK102.out 3).trans rfl;have hcz8_4:w7.cell? ⟨gb102,4,none⟩=some (.string (⟨#[]⟩:ByteArray)):=(blk_cell BK102.out 4).trans rfl;have hfz8_0:=blk_frozen BK102.out 0;have hfz8_1:=blk_frozen BK102.out 1;have hfz8_2:=blk_frozen BK102.out 2;have hfz8_3:=blk_frozen BK102.out 3;have hfz8_4:=blk_frozen BK102.out 4))
    go_ret
    exact ⟨au12,by repeat(first|(with_reducible first|exact HB.out|apply below_alloc|apply pw_below_drewN|apply below_drew1|refine below_set ?_ GE102.out)|exact HB.out)⟩
   ·rw [if_neg c6] at H
    have c6b0:(((rd_T24 l1 a2).f0)==2)=false:=beq_eq_false_iff_ne.mpr c6
    have c6b1:(((rd_T24 l1 a2).f0) != 2)=true:=bne_iff_ne.mpr c6
    by_cases c9:((rd_T24 l1 a2).f0)=3
    ·rw [if_pos c9] at H
     have c9b0:(((rd_T24 l1 a2).f0)==3)=true:=beq_iff_eq.mpr c9
     have c9b1:(((rd_T24 l1 a2).f0) != 3)=false:=bne_eq_false_iff_eq.mpr c9
     clear c9
     obtain rfl:=Option.some.inj H
     have p101:0≤(a2:Int):=of_decide_eq_true au7
     have q101:a2<(l1.length:Int):=of_decide_eq_true au7
     obtain ⟨ad101,e101,hx101_0,hx101_1,hx101_2,hx101_3,hx101_4⟩:=at_T24 HR1.out a2 p101 q101
     cases e101
     replace p101:=eq_true p101
     replace q101:=eq_true q101
     go_enter Tryd.func36,Tryd.ntmps36
     go_wp2_with (first|((with_reducible refine gate_dst (N:=7) rfl ?_);refine box_event ?hg (N:=7) ?hd (cs:=#[.int .i64 0,.int .i64 0,.int .i64 0,.string (⟨#[]⟩:ByteArray),.string (⟨#[]⟩:ByteArray)]) (t:=24) ?hr ?_;(case hd=>rfl);(case hg=>rfl);(case hr=>first|(go_simp;done)|(go_simp;rfl));intro gb102 hg w10 hbox hb;have n0_:=Aside0.mk (below_step au3 hb);have n1_:=Aside0.mk (hbox);have n2_:=Aside0.mk ((by rw [hg];exact(below_size au3):w.heap.size≤gb102));have n3_:=Aside0.mk ((by rw [hg];exact(below_size au3):w.heap.size≤gb102));clear HB;have HB:=n0_;have BK102:=n1_;have GW102:=n2_;have GE102:=n3_;clear n0_ n1_ n2_ n3_;clear hb hbox hg;have hcz11_0:w10.cell? ⟨gb102,0,none⟩=some (.int .i64 0):=(blk_cell BK102.out 0).trans rfl;have hcz11_1:w10.cell? ⟨gb102,1,none⟩=some (.int .i64 0):=(blk_cell BK102.out 1).trans rfl;have hcz11_2:w10.cell? ⟨gb102,2,none⟩=some (.int .i64 0):=(blk_cell BK102.out 2).trans rfl;have hcz11_3:w10.cell? ⟨gb102,3,none⟩=some (.string (⟨#[]⟩:ByteArray)):=(blk_cell BK102.out 3).trans rfl;have hcz11_4:w10.cell? ⟨gb102,4,none⟩=some (.string (⟨#[]⟩:ByteArray)):=(blk_cell BK102.out 4).trans rfl;have hfz11_0:=blk_frozen BK102.out 0;have hfz11_1:=blk_frozen BK102.out 1;have hfz11_2:=blk_frozen BK102.out 2;have hfz11_3:=blk_frozen BK102.out 3;have hfz11_4:=blk_frozen BK102.out 4))
     go_ret
     exact ⟨au12,by repeat(first|(with_reducible first|exact HB.out|apply below_alloc|apply pw_below_drewN|apply below_drew1|refine below_set ?_ GE102.out)|exact HB.out)⟩
    ·rw [if_neg c9] at H
     have c9b0:(((rd_T24 l1 a2).f0)==3)=false:=beq_eq_false_iff_ne.mpr c9
     have c9b1:(((rd_T24 l1 a2).f0) != 3)=true:=bne_iff_ne.mpr c9
     have HC12:=Aside0.mk H
     clear H
     have p101:0≤(a2:Int):=of_decide_eq_true au7
     have q101:a2<(l1.length:Int):=of_decide_eq_true au7
     obtain ⟨ad101,e101,hx101_0,hx101_1,hx101_2,hx101_3,hx101_4⟩:=at_T24 HR1.out a2 p101 q101
     cases e101
     replace p101:=eq_true p101
     replace q101:=eq_true q101
     go_enter Tryd.func36,Tryd.ntmps36
     go_upto_region 7 with(first|((with_reducible refine gate_dst (N:=7) rfl ?_);refine box_event ?hg (N:=7) ?hd (cs:=#[.int .i64 0,.int .i64 0,.int .i64 0,.string (⟨#[]⟩:ByteArray),.string (⟨#[]⟩:ByteArray)]) (t:=24) ?hr ?_;(case hd=>rfl);(case hg=>rfl);(case hr=>first|(go_simp;done)|(go_simp;rfl));intro gb102 hg w13 hbox hb;have n0_:=Aside0.mk (below_step au3 hb);have n1_:=Aside0.mk (hbox);have n2_:=Aside0.mk ((by rw [hg];exact(below_size au3):w.heap.size≤gb102));have n3_:=Aside0.mk ((by rw [hg];exact(below_size au3):w.heap.size≤gb102));clear HB;have HB:=n0_;have BK102:=n1_;have GW102:=n2_;have GE102:=n3_;clear n0_ n1_ n2_ n3_;clear hb hbox hg;have hcz14_0:w13.cell? ⟨gb102,0,none⟩=some (.int .i64 0):=(blk_cell BK102.out 0).trans rfl;have hcz14_1:w13.cell? ⟨gb102,1,none⟩=some (.int .i64 0):=(blk_cell BK102.out 1).trans rfl;have hcz14_2:w13.cell? ⟨gb102,2,none⟩=some (.int .i64 0):=(blk_cell BK102.out 2).trans rfl;have hcz14_3:w13.cell? ⟨gb102,3,none⟩=some (.string (⟨#[]⟩:ByteArray)):=(blk_cell BK102.out 3).trans rfl;have hcz14_4:w13.cell? ⟨gb102,4,none⟩=some (.string (⟨#[]⟩:ByteArray)):=(blk_cell BK102.out 4).trans rfl;have hfz14_0:=blk_frozen BK102.out 0;have hfz14_1:=blk_frozen BK102.out 1;have hfz14_2:=blk_frozen BK102.out 2;have hfz14_3:=blk_frozen BK102.out 3;have hfz14_4:=blk_frozen BK102.out 4))
     (try simp only [Act.put,List.setIfInBounds_toArray,List.set_cons_zero,List.set_cons_succ])
     go_cut [30] (fun v30 wc=>∃(kq:Nat) (x30_11:Bool),v30=.bool x30_11∧Aside0 (racewayref29_insideO.j0 kq a0 l1 a2 (⟨#[]⟩:ByteArray) x30_11 ((rd_T24 l1 a2).f0) ((rd_T24 l1 a2).f1) ((rd_T24 l1 a2).f2) ((rd_T24 l1 a2).f3) ((rd_T24 l1 a2).f4)=some r)∧Aside0 (kq≤k)∧Aside0 (wc.heap[gb102]?=some (.cells #[.int .i64 ((rd_T24 l1 a2).f0),.int .i64 ((rd_T24 l1 a2).f1),.int .i64 ((rd_T24 l1 a2).f2),.string ((rd_T24 l1 a2).f3),.string ((rd_T24 l1 a2).f4)] 24 (0,0)))∧Aside0 (Below w.heap.size w wc))
     case first =>
      have H:=HC12.out
      clear HC12
      by_cases c15:((rd_T24 l1 a2).f0)=4
      ·rw [if_pos c15] at H
       have c15b0:(((rd_T24 l1 a2).f0)==4)=true:=beq_iff_eq.mpr c15
       have c15b1:(((rd_T24 l1 a2).f0) != 4)=false:=bne_eq_false_iff_eq.mpr c15
       clear c15
       (first|rw [c15b0]|(simp only [i64_w,i32_w];rw [c15b0])|skip)
       have H':=Aside0.mk H
       clear H
       go_wp2
       go_meet
       case rel=>exact ⟨_,(true),au4,au9,⟨au14⟩,⟨by(with_reducible repeat(first|refine blk_drewN ?_ _|refine blk_drew ?_|refine blk_alloc ?_ _));refine blk_put (cs:=#[.int .i64 ((rd_T24 l1 a2).f0),.int .i64 ((rd_T24 l1 a2).f1),.int .i64 ((rd_T24 l1 a2).f2),.string ((rd_T24 l1 a2).f3),.string (⟨#[]⟩:ByteArray)]) ?_ 4 _ rfl;(with_reducible repeat(first|refine blk_drewN ?_ _|refine blk_drew ?_|refine blk_alloc ?_ _));refine blk_put (cs:=#[.int .i64 ((rd_T24 l1 a2).f0),.int .i64 ((rd_T24 l1 a2).f1),.int .i64 ((rd_T24 l1 a2).f2),.string (⟨#[]⟩:ByteArray),.string (⟨#[]⟩:ByteArray)]) ?_ 3 _ rfl;(with_reducible repeat(first|refine blk_drewN ?_ _|refine blk_drew ?_|refine blk_alloc ?_ _));refine blk_put (cs:=#[.int .i64 ((rd_T24 l1 a2).f0),.int .i64 ((rd_T24 l1 a2).f1),.int .i64 0,.string (⟨#[]⟩:ByteArray),.string (⟨#[]⟩:ByteArray)]) ?_ 2 _ rfl;(with_reducible repeat(first|refine blk_drewN ?_ _|refine blk_drew ?_|refine blk_alloc ?_ _));refine blk_put (cs:=#[.int .i64 ((rd_T24 l1 a2).f0),.int .i64 0,.int .i64 0,.string (⟨#[]⟩:ByteArray),.string (⟨#[]⟩:ByteArray)]) ?_ 1 _ rfl;(with_reducible repeat(first|refine blk_drewN ?_ _|refine blk_drew ?_|refine blk_alloc ?_ _));refine blk_put (cs:=#[.int .i64 0,.int .i64 0,.int .i64 0,.string (⟨#[]⟩:ByteArray),.string (⟨#[]⟩:ByteArray)]) ?_ 0 _ rfl;(with_reducible repeat(first|refine blk_drewN ?_ _|refine blk_drew ?_|refine blk_alloc ?_ _));exact BK102.out⟩,⟨by repeat(first|(with_reducible first|exact HB.out|apply below_alloc|apply pw_below_drewN|apply below_drew1|refine below_set ?_ GE102.out)|exact HB.out)⟩⟩
      ·rw [if_neg c15] at H
       have c15b0:(((rd_T24 l1 a2).f0)==4)=false:=beq_eq_false_iff_ne.mpr c15
       have c15b1:(((rd_T24 l1 a2).f0) != 4)=true:=bne_iff_ne.mpr c15
       (first|rw [c15b0]|(simp only [i64_w,i32_w];rw [c15b0])|skip)
       have H':=Aside0.mk H
       clear H
       go_wp2
       go_meet
       case rel=>exact ⟨_,((((rd_T24 l1 a2).f0)==5)),au4,au9,⟨au14⟩,⟨by(with_reducible repeat(first|refine blk_drewN ?_ _|refine blk_drew ?_|refine blk_alloc ?_ _));refine blk_put (cs:=#[.int .i64 ((rd_T24 l1 a2).f0),.int .i64 ((rd_T24 l1 a2).f1),.int .i64 ((rd_T24 l1 a2).f2),.string ((rd_T24 l1 a2).f3),.string (⟨#[]⟩:ByteArray)]) ?_ 4 _ rfl;(with_reducible repeat(first|refine blk_drewN ?_ _|refine blk_drew ?_|refine blk_alloc ?_ _));refine blk_put (cs:=#[.int .i64 ((rd_T24 l1 a2).f0),.int .i64 ((rd_T24 l1 a2).f1),.int .i64 ((rd_T24 l1 a2).f2),.string (⟨#[]⟩:ByteArray),.string (⟨#[]⟩:ByteArray)]) ?_ 3 _ rfl;(with_reducible repeat(first|refine blk_drewN ?_ _|refine blk_drew ?_|refine blk_alloc ?_ _));refine blk_put (cs:=#[.int .i64 ((rd_T24 l1 a2).f0),.int .i64 ((rd_T24 l1 a2).f1),.int .i64 0,.string (⟨#[]⟩:ByteArray),.string (⟨#[]⟩:ByteArray)]) ?_ 2 _ rfl;(with_reducible repeat(first|refine blk_drewN ?_ _|refine blk_drew ?_|refine blk_alloc ?_ _));refine blk_put (cs:=#[.int .i64 ((rd_T24 l1 a2).f0),.int .i64 0,.int .i64 0,.string (⟨#[]⟩:ByteArray),.string (⟨#[]⟩:ByteArray)]) ?_ 1 _ rfl;(with_reducible repeat(first|refine blk_drewN ?_ _|refine blk_drew ?_|refine blk_alloc ?_ _));refine blk_put (cs:=#[.int .i64 0,.int .i64 0,.int .i64 0,.string (⟨#[]⟩:ByteArray),.string (⟨#[]⟩:ByteArray)]) ?_ 0 _ rfl;(with_reducible repeat(first|refine blk_drewN ?_ _|refine blk_drew ?_|refine blk_alloc ?_ _));exact BK102.out⟩,⟨by repeat(first|(with_reducible first|exact HB.out|apply below_alloc|apply pw_below_drewN|apply below_drew1|refine below_set ?_ GE102.out)|exact HB.out)⟩⟩
     case rest =>
      clear HC12
      obtain ⟨kq,x30_11,rfl,HA,HJ11,BK102,HB⟩:=hcut
      cases kq with
      | zero=>exact absurd HA.out (by simp [racewayref29_insideO.j0])
      | succ kj11 =>
       have H:=HA.out
       clear HA
       simp only [racewayref29_insideO.j0] at H
       by_cases c18:x30_11=true
       ·subst c18
        replace H:(racewayref29_insideO.l0 kj11 (⟨#[]⟩:ByteArray) 0 ((rd_T24 l1 a2).f0) ((rd_T24 l1 a2).f1) ((rd_T24 l1 a2).f2) ((rd_T24 l1 a2).f3) ((rd_T24 l1 a2).f4))=some r:=by rw [if_pos rfl] at H;exact H
        have H':=Aside0.mk H
        clear H
        go_wp2
        go_simp
        go_loopg [8,9] kj11 (fun kq v8 v9 w'=>∃(x8_2:ByteArray) (x9_2:Int),v8=.string x8_2∧v9=.int .i64 x9_2∧Aside0 (racewayref29_insideO.l0 kq x8_2 x9_2 ((rd_T24 l1 a2).f0) ((rd_T24 l1 a2).f1) ((rd_T24 l1 a2).f2) ((rd_T24 l1 a2).f3) ((rd_T24 l1 a2).f4)=some r)∧Aside0 (kq≤kj11)∧Aside0 (w'.heap[gb102]?=some (.cells #[.int .i64 ((rd_T24 l1 a2).f0),.int .i64 ((rd_T24 l1 a2).f1),.int .i64 ((rd_T24 l1 a2).f2),.string ((rd_T24 l1 a2).f3),.string ((rd_T24 l1 a2).f4)] 24 (0,0)))∧Aside0 (Below w.heap.size w w'))
        case atStart=>exact ⟨((⟨#[]⟩:ByteArray)),(0),au4,au4,au9,⟨Nat.le_refl _⟩,⟨by(with_reducible repeat(first|refine blk_drewN ?_ _|refine blk_drew ?_|refine blk_alloc ?_ _));exact BK102.out⟩,⟨by repeat(first|(with_reducible first|exact HB.out|apply below_alloc|apply pw_below_drewN|apply below_drew1|refine below_set ?_ GE102.out)|exact HB.out)⟩⟩
        case round =>
         clear H'
         obtain ⟨x8_2,x9_2,rfl,rfl,HA,HK2,BK102,HB⟩:=hrel
         cases gk with
         | zero=>exact absurd HA.out (by simp [racewayref29_insideO.l0])
         | succ k2 =>
          have H:=HA.out
          clear HA
          simp only [racewayref29_insideO.l0] at H
          by_cases c19:x9_2<(((rd_T24 l1 a2).f4).size:Int)
          ·rw [if_pos c19] at H
           have c19b0:decide (x9_2<(((rd_T24 l1 a2).f4).size:Int))=true:=decide_eq_true c19
           clear c19
           by_cases c20:0≤x9_2
           ·rw [if_pos c20] at H
            have c20b0:decide (0≤x9_2)=true:=decide_eq_true c20
            clear c20
            by_cases c22:(bt ((rd_T24 l1 a2).f4) x9_2)=38
            ·rw [if_pos c22] at H
             have c22b0:((bt ((rd_T24 l1 a2).f4) x9_2)==38)=true:=beq_iff_eq.mpr c22
             have c22b1:((bt ((rd_T24 l1 a2).f4) x9_2) != 38)=false:=bne_eq_false_iff_eq.mpr c22
             clear c22
             by_cases c23:x8_2.size+5≤9223372036854775807
             ·rw [if_pos c23] at H
              have c23b0:=eq_true c23
              have c23b1:decide (x8_2.size+5≤9223372036854775807)=true:=decide_eq_true c23
              try have c23b2:(9223372036854775807<x8_2.size+5)=False:=eq_false (Nat.not_lt.2 c23)
              have H':=Aside0.mk H
              clear H
              have hcz24_3:wr.cell? ⟨gb102,3,none⟩=some (.string ((rd_T24 l1 a2).f3)):=(blk_cell BK102.out 3).trans rfl
              have hcz24_4:wr.cell? ⟨gb102,4,none⟩=some (.string ((rd_T24 l1 a2).f4)):=(blk_cell BK102.out 4).trans rfl
              have p21:0≤(x9_2:Int):=of_decide_eq_true au7
              have q21:x9_2<(((rd_T24 l1 a2).f4).size:Int):=of_decide_eq_true au7
              have hx21:=bt_at ((rd_T24 l1 a2).f4) x9_2
              replace p21:=eq_true p21
              replace q21:=eq_true q21
              go_wp2
              go_roundg k2
              case measure=>have:=HJ11.out;have:=HK2.out;omega
              case rel=>exact ⟨(x8_2++(⟨#[38,97,109,112,59]⟩:ByteArray)),(wrap64 (x9_2+1)),au4,au4,au9,⟨au32⟩,⟨by(with_reducible repeat(first|refine blk_drewN ?_ _|refine blk_drew ?_|refine blk_alloc ?_ _));exact BK102.out⟩,⟨by repeat(first|(with_reducible first|exact HB.out|apply below_alloc|apply pw_below_drewN|apply below_drew1|refine below_set ?_ GE102.out)|exact HB.out)⟩⟩
             ·rw [if_neg c23] at H
              exact absurd H au5
            ·rw [if_neg c22] at H
             have c22b0:((bt ((rd_T24 l1 a2).f4) x9_2)==38)=false:=beq_eq_false_iff_ne.mpr c22
             have c22b1:((bt ((rd_T24 l1 a2).f4) x9_2) != 38)=true:=bne_iff_ne.mpr c22
             by_cases c25:(bt ((rd_T24 l1 a2).f4) x9_2)=60
             ·rw [if_pos c25] at H
              have c25b0:((bt ((rd_T24 l1 a2).f4) x9_2)==60)=true:=beq_iff_eq.mpr c25
              have c25b1:((bt ((rd_T24 l1 a2).f4) x9_2) != 60)=false:=bne_eq_false_iff_eq.mpr c25
              clear c25
              by_cases c26:x8_2.size+4≤9223372036854775807
              ·rw [if_pos c26] at H
               have c26b0:=eq_true c26
               have c26b1:decide (x8_2.size+4≤9223372036854775807)=true:=decide_eq_true c26
               try have c26b2:(9223372036854775807<x8_2.size+4)=False:=eq_false (Nat.not_lt.2 c26)
               have H':=Aside0.mk H
               clear H
               have hcz27_0:wr.cell? ⟨gb102,0,none⟩=some (.int .i64 ((rd_T24 l1 a2).f0)):=(blk_cell BK102.out 0).trans rfl
               have hcz27_1:wr.cell? ⟨gb102,1,none⟩=some (.int .i64 ((rd_T24 l1 a2).f1)):=(blk_cell BK102.out 1).trans rfl
               have hcz27_2:wr.cell? ⟨gb102,2,none⟩=some (.int .i64 ((rd_T24 l1 a2).f2)):=(blk_cell BK102.out 2).trans rfl
               have hcz27_3:wr.cell? ⟨gb102,3,none⟩=some (.string ((rd_T24 l1 a2).f3)):=(blk_cell BK102.out 3).trans rfl
               have hcz27_4:wr.cell? ⟨gb102,4,none⟩=some (.string ((rd_T24 l1 a2).f4)):=(blk_cell BK102.out 4).trans rfl
               have p21:0≤(x9_2:Int):=of_decide_eq_true au7
               have q21:x9_2<(((rd_T24 l1 a2).f4).size:Int):=of_decide_eq_true au7
               have hx21:=bt_at ((rd_T24 l1 a2).f4) x9_2
               replace p21:=eq_true p21
               replace q21:=eq_true q21
               go_wp2
               go_roundg k2
               case measure=>have:=HJ11.out;have:=HK2.out;omega
               case rel=>exact ⟨(x8_2++(⟨#[38,108,116,59]⟩:ByteArray)),(wrap64 (x9_2+1)),au4,au4,au9,⟨au32⟩,⟨by(with_reducible repeat(first|refine blk_drewN ?_ _|refine blk_drew ?_|refine blk_alloc ?_ _));exact BK102.out⟩,⟨by repeat(first|(with_reducible first|exact HB.out|apply below_alloc|apply pw_below_drewN|apply below_drew1|refine below_set ?_ GE102.out)|exact HB.out)⟩⟩
              ·rw [if_neg c26] at H
               exact absurd H au5
             ·rw [if_neg c25] at H
              have c25b0:((bt ((rd_T24 l1 a2).f4) x9_2)==60)=false:=beq_eq_false_iff_ne.mpr c25
              have c25b1:((bt ((rd_T24 l1 a2).f4) x9_2) != 60)=true:=bne_iff_ne.mpr c25
              by_cases c28:(bt ((rd_T24 l1 a2).f4) x9_2)=62
              ·rw [if_pos c28] at H
               have c28b0:((bt ((rd_T24 l1 a2).f4) x9_2)==62)=true:=beq_iff_eq.mpr c28
               have c28b1:((bt ((rd_T24 l1 a2).f4) x9_2) != 62)=false:=bne_eq_false_iff_eq.mpr c28
               clear c28
               by_cases c29:x8_2.size+4≤9223372036854775807
               ·rw [if_pos c29] at H
                have c29b0:=eq_true c29
                have c29b1:decide (x8_2.size+4≤9223372036854775807)=true:=decide_eq_true c29
                try have c29b2:(9223372036854775807<x8_2.size+4)=False:=eq_false (Nat.not_lt.2 c29)
                have H':=Aside0.mk H
                clear H
                have hcz30_0:wr.cell? ⟨gb102,0,none⟩=some (.int .i64 ((rd_T24 l1 a2).f0)):=(blk_cell BK102.out 0).trans rfl
                have hcz30_1:wr.cell? ⟨gb102,1,none⟩=some (.int .i64 ((rd_T24 l1 a2).f1)):=(blk_cell BK102.out 1).trans rfl
                have hcz30_2:wr.cell? ⟨gb102,2,none⟩=some (.int .i64 ((rd_T24 l1 a2).f2)):=(blk_cell BK102.out 2).trans rfl
                have hcz30_3:wr.cell? ⟨gb102,3,none⟩=some (.string ((rd_T24 l1 a2).f3)):=(blk_cell BK102.out 3).trans rfl
                have hcz30_4:wr.cell? ⟨gb102,4,none⟩=some (.string ((rd_T24 l1 a2).f4)):=(blk_cell BK102.out 4).trans rfl
                have p21:0≤(x9_2:Int):=of_decide_eq_true au7
                have q21:x9_2<(((rd_T24 l1 a2).f4).size:Int):=of_decide_eq_true au7
                have hx21:=bt_at ((rd_T24 l1 a2).f4) x9_2
                replace p21:=eq_true p21
                replace q21:=eq_true q21
                go_wp2
                go_roundg k2
                case measure=>have:=HJ11.out;have:=HK2.out;omega
                case rel=>exact ⟨(x8_2++(⟨#[38,103,116,59]⟩:ByteArray)),(wrap64 (x9_2+1)),au4,au4,au9,⟨au32⟩,⟨by(with_reducible repeat(first|refine blk_drewN ?_ _|refine blk_drew ?_|refine blk_alloc ?_ _));exact BK102.out⟩,⟨by repeat(first|(with_reducible first|exact HB.out|apply below_alloc|apply pw_below_drewN|apply below_drew1|refine below_set ?_ GE102.out)|exact HB.out)⟩⟩
               ·rw [if_neg c29] at H
                exact absurd H au5
              ·rw [if_neg c28] at H
               have c28b0:((bt ((rd_T24 l1 a2).f4) x9_2)==62)=false:=beq_eq_false_iff_ne.mpr c28
               have c28b1:((bt ((rd_T24 l1 a2).f4) x9_2) != 62)=true:=bne_iff_ne.mpr c28
               by_cases c31:(bt ((rd_T24 l1 a2).f4) x9_2)=34
               ·rw [if_pos c31] at H
                have c31b0:((bt ((rd_T24 l1 a2).f4) x9_2)==34)=true:=beq_iff_eq.mpr c31
                have c31b1:((bt ((rd_T24 l1 a2).f4) x9_2) != 34)=false:=bne_eq_false_iff_eq.mpr c31
                clear c31
                by_cases c32:x8_2.size+6≤9223372036854775807
                ·rw [if_pos c32] at H
                 have c32b0:=eq_true c32
                 have c32b1:decide (x8_2.size+6≤9223372036854775807)=true:=decide_eq_true c32
                 try have c32b2:(9223372036854775807<x8_2.size+6)=False:=eq_false (Nat.not_lt.2 c32)
                 have H':=Aside0.mk H
                 clear H
                 have hcz33_0:wr.cell? ⟨gb102,0,none⟩=some (.int .i64 ((rd_T24 l1 a2).f0)):=(blk_cell BK102.out 0).trans rfl
                 have hcz33_1:wr.cell? ⟨gb102,1,none⟩=some (.int .i64 ((rd_T24 l1 a2).f1)):=(blk_cell BK102.out 1).trans rfl
                 have hcz33_2:wr.cell? ⟨gb102,2,none⟩=some (.int .i64 ((rd_T24 l1 a2).f2)):=(blk_cell BK102.out 2).trans rfl
                 have hcz33_3:wr.cell? ⟨gb102,3,none⟩=some (.string ((rd_T24 l1 a2).f3)):=(blk_cell BK102.out 3).trans rfl
                 have hcz33_4:wr.cell? ⟨gb102,4,none⟩=some (.string ((rd_T24 l1 a2).f4)):=(blk_cell BK102.out 4).trans rfl
                 have p21:0≤(x9_2:Int):=of_decide_eq_true au7
                 have q21:x9_2<(((rd_T24 l1 a2).f4).size:Int):=of_decide_eq_true au7
                 have hx21:=bt_at ((rd_T24 l1 a2).f4) x9_2
                 replace p21:=eq_true p21
                 replace q21:=eq_true q21
                 go_wp2
                 go_roundg k2
                 case measure=>have:=HJ11.out;have:=HK2.out;omega
                 case rel=>exact ⟨(x8_2++(⟨#[38,113,117,111,116,59]⟩:ByteArray)),(wrap64 (x9_2+1)),au4,au4,au9,⟨au32⟩,⟨by(with_reducible repeat(first|refine blk_drewN ?_ _|refine blk_drew ?_|refine blk_alloc ?_ _));exact BK102.out⟩,⟨by repeat(first|(with_reducible first|exact HB.out|apply below_alloc|apply pw_below_drewN|apply below_drew1|refine below_set ?_ GE102.out)|exact HB.out)⟩⟩
                ·rw [if_neg c32] at H
                 exact absurd H au5
               ·rw [if_neg c31] at H
                have c31b0:((bt ((rd_T24 l1 a2).f4) x9_2)==34)=false:=beq_eq_false_iff_ne.mpr c31
                have c31b1:((bt ((rd_T24 l1 a2).f4) x9_2) != 34)=true:=bne_iff_ne.mpr c31
                have c34b0:=eq_true (of_decide_eq_true au7:0≤x9_2)
                by_cases c35:x9_2≤(wrap64 (x9_2+1))
                ·rw [if_pos c35] at H
                 have c35b0:=eq_true c35
                 have c35b1:decide (x9_2≤(wrap64 (x9_2+1)))=true:=decide_eq_true c35
                 by_cases c36:(wrap64 (x9_2+1))≤(((rd_T24 l1 a2).f4).size:Int)
                 ·rw [if_pos c36] at H
                  have c36b0:=eq_true c36
                  have c36b1:decide ((wrap64 (x9_2+1))≤(((rd_T24 l1 a2).f4).size:Int))=true:=decide_eq_true c36
                  by_cases c37:x8_2.size+(((rd_T24 l1 a2).f4).extract (x9_2:Int).toNat ((wrap64 (x9_2+1)):Int).toNat).size≤9223372036854775807
                  ·rw [if_pos c37] at H
                   have c37b0:=eq_true c37
                   have c37b1:decide (x8_2.size+(((rd_T24 l1 a2).f4).extract (x9_2:Int).toNat ((wrap64 (x9_2+1)):Int).toNat).size≤9223372036854775807)=true:=decide_eq_true c37
                   try have c37b2:(9223372036854775807<x8_2.size+(((rd_T24 l1 a2).f4).extract (x9_2:Int).toNat ((wrap64 (x9_2+1)):Int).toNat).size)=False:=eq_false (Nat.not_lt.2 c37)
                   have H':=Aside0.mk H
                   clear H
                   have hcz38_0:wr.cell? ⟨gb102,0,none⟩=some (.int .i64 ((rd_T24 l1 a2).f0)):=(blk_cell BK102.out 0).trans rfl
                   have hcz38_1:wr.cell? ⟨gb102,1,none⟩=some (.int .i64 ((rd_T24 l1 a2).f1)):=(blk_cell BK102.out 1).trans rfl
                   have hcz38_2:wr.cell? ⟨gb102,2,none⟩=some (.int .i64 ((rd_T24 l1 a2).f2)):=(blk_cell BK102.out 2).trans rfl
                   have hcz38_3:wr.cell? ⟨gb102,3,none⟩=some (.string ((rd_T24 l1 a2).f3)):=(blk_cell BK102.out 3).trans rfl
                   have hcz38_4:wr.cell? ⟨gb102,4,none⟩=some (.string ((rd_T24 l1 a2).f4)):=(blk_cell BK102.out 4).trans rfl
                   have p21:0≤(x9_2:Int):=of_decide_eq_true au7
                   have q21:x9_2<(((rd_T24 l1 a2).f4).size:Int):=of_decide_eq_true au7
                   have hx21:=bt_at ((rd_T24 l1 a2).f4) x9_2
                   replace p21:=eq_true p21
                   replace q21:=eq_true q21
                   go_wp2
                   go_roundg k2
                   case measure=>have:=HJ11.out;have:=HK2.out;omega
                   case rel=>exact ⟨(x8_2++(((rd_T24 l1 a2).f4).extract (x9_2:Int).toNat ((wrap64 (x9_2+1)):Int).toNat)),(wrap64 (x9_2+1)),au4,au4,au9,⟨au32⟩,⟨by(with_reducible repeat(first|refine blk_drewN ?_ _|refine blk_drew ?_|refine blk_alloc ?_ _));exact BK102.out⟩,⟨by repeat(first|(with_reducible first|exact HB.out|apply below_alloc|apply pw_below_drewN|apply below_drew1|refine below_set ?_ GE102.out)|exact HB.out)⟩⟩
                  ·rw [if_neg c37] at H
                   exact absurd H au5
                 ·rw [if_neg c36] at H
                  exact absurd H au5
                ·rw [if_neg c35] at H
                 exact absurd H au5
           ·rw [if_neg c20] at H
            exact absurd H au5
          ·rw [if_neg c19] at H
           have c19b0:decide (x9_2<(((rd_T24 l1 a2).f4).size:Int))=false:=decide_eq_false c19
           clear c19
           obtain rfl:=Option.some.inj H
           have hcz39_0:wr.cell? ⟨gb102,0,none⟩=some (.int .i64 ((rd_T24 l1 a2).f0)):=(blk_cell BK102.out 0).trans rfl
           have hcz39_1:wr.cell? ⟨gb102,1,none⟩=some (.int .i64 ((rd_T24 l1 a2).f1)):=(blk_cell BK102.out 1).trans rfl
           have hcz39_2:wr.cell? ⟨gb102,2,none⟩=some (.int .i64 ((rd_T24 l1 a2).f2)):=(blk_cell BK102.out 2).trans rfl
           have hcz39_3:wr.cell? ⟨gb102,3,none⟩=some (.string ((rd_T24 l1 a2).f3)):=(blk_cell BK102.out 3).trans rfl
           have hcz39_4:wr.cell? ⟨gb102,4,none⟩=some (.string ((rd_T24 l1 a2).f4)):=(blk_cell BK102.out 4).trans rfl
           go_wp2
           go_ret
           exact ⟨au12,by repeat(first|(with_reducible first|exact HB.out|apply below_alloc|apply pw_below_drewN|apply below_drew1|refine below_set ?_ GE102.out)|exact HB.out)⟩
       ·replace c18:=Bool.eq_false_iff.mpr c18
        subst c18
        replace H:(racewayref29_insideO.l1 kj11 a0 l1 (⟨#[]⟩:ByteArray) (wrap64 (a2+1)) 0 ((rd_T24 l1 a2).f0) ((rd_T24 l1 a2).f1) ((rd_T24 l1 a2).f2) ((rd_T24 l1 a2).f3) ((rd_T24 l1 a2).f4))=some r:=by rw [if_neg (show ¬ (false=true) by decide)] at H;exact H
        have H':=Aside0.mk H
        clear H
        go_wp2
        go_simp
        go_loopg [8,10,11] kj11 (fun kq v8 v10 v11 w'=>∃(x8_2:ByteArray) (x10_2:Int) (x11_2:Int),v8=.string x8_2∧v10=.int .i64 x10_2∧v11=.int .i64 x11_2∧Aside0 (racewayref29_insideO.l1 kq a0 l1 x8_2 x10_2 x11_2 ((rd_T24 l1 a2).f0) ((rd_T24 l1 a2).f1) ((rd_T24 l1 a2).f2) ((rd_T24 l1 a2).f3) ((rd_T24 l1 a2).f4)=some r)∧Aside0 (kq≤kj11)∧Aside0 (w'.heap[gb102]?=some (.cells #[.int .i64 ((rd_T24 l1 a2).f0),.int .i64 ((rd_T24 l1 a2).f1),.int .i64 ((rd_T24 l1 a2).f2),.string ((rd_T24 l1 a2).f3),.string ((rd_T24 l1 a2).f4)] 24 (0,0)))∧Aside0 (Below w.heap.size w w'))
        case atStart=>exact ⟨((⟨#[]⟩:ByteArray)),(wrap64 (a2+1)),(0),au4,au4,au4,au9,⟨Nat.le_refl _⟩,⟨by(with_reducible repeat(first|refine blk_drewN ?_ _|refine blk_drew ?_|refine blk_alloc ?_ _));exact BK102.out⟩,⟨by repeat(first|(with_reducible first|exact HB.out|apply below_alloc|apply pw_below_drewN|apply below_drew1|refine below_set ?_ GE102.out)|exact HB.out)⟩⟩
        case round =>
         clear H'
         obtain ⟨x8_2,x10_2,x11_2,rfl,rfl,rfl,HA,HK2,BK102,HB⟩:=hrel
         cases gk with
         | zero=>exact absurd HA.out (by simp [racewayref29_insideO.l1])
         | succ k2 =>
          have H:=HA.out
          clear HA
          simp only [racewayref29_insideO.l1] at H
          by_cases c40:x11_2<((rd_T24 l1 a2).f2)
          ·rw [if_pos c40] at H
           have c40b0:decide (x11_2<((rd_T24 l1 a2).f2))=true:=decide_eq_true c40
           clear c40
           by_cases c41:((rd_T24 l1 a2).f0)=7
           ·rw [if_pos c41] at H
            have c41b0:(((rd_T24 l1 a2).f0)==7)=true:=beq_iff_eq.mpr c41
            have c41b1:(((rd_T24 l1 a2).f0) != 7)=false:=bne_eq_false_iff_eq.mpr c41
            clear c41
            by_cases c42:0≤x10_2
            ·rw [if_pos c42] at H
             have c42b0:decide (0≤x10_2)=true:=decide_eq_true c42
             clear c42
             by_cases c43:x10_2<(l1.length:Int)
             ·rw [if_pos c43] at H
              have c43b0:decide (x10_2<(l1.length:Int))=true:=decide_eq_true c43
              clear c43
              replace H:=Option.bind_eq_some_iff.mp H
              obtain ⟨t104,A440,H⟩:=H
              replace H:(if x8_2.size+t104.size≤9223372036854775807 then(racewayref29_insideO.l1 k2 a0 l1 (x8_2++t104) (wrap64 (x10_2+((rd_T24 l1 x10_2).f1))) (wrap64 (x11_2+1)) ((rd_T24 l1 a2).f0) ((rd_T24 l1 a2).f1) ((rd_T24 l1 a2).f2) ((rd_T24 l1 a2).f3) ((rd_T24 l1 a2).f4)) else(none))=some r:=H
              have A44:=Aside0.mk A440
              clear A440
              by_cases c45:x8_2.size+t104.size≤9223372036854775807
              ·rw [if_pos c45] at H
               have c45b0:=eq_true c45
               have c45b1:decide (x8_2.size+t104.size≤9223372036854775807)=true:=decide_eq_true c45
               try have c45b2:(9223372036854775807<x8_2.size+t104.size)=False:=eq_false (Nat.not_lt.2 c45)
               have H':=Aside0.mk H
               clear H
               have hcz46_0:wr.cell? ⟨gb102,0,none⟩=some (.int .i64 ((rd_T24 l1 a2).f0)):=(blk_cell BK102.out 0).trans rfl
               have hcz46_1:wr.cell? ⟨gb102,1,none⟩=some (.int .i64 ((rd_T24 l1 a2).f1)):=(blk_cell BK102.out 1).trans rfl
               have hcz46_2:wr.cell? ⟨gb102,2,none⟩=some (.int .i64 ((rd_T24 l1 a2).f2)):=(blk_cell BK102.out 2).trans rfl
               have hcz46_3:wr.cell? ⟨gb102,3,none⟩=some (.string ((rd_T24 l1 a2).f3)):=(blk_cell BK102.out 3).trans rfl
               have hcz46_4:wr.cell? ⟨gb102,4,none⟩=some (.string ((rd_T24 l1 a2).f4)):=(blk_cell BK102.out 4).trans rfl
               have p103:0≤(x10_2:Int):=of_decide_eq_true au7
               have q103:x10_2<(l1.length:Int):=of_decide_eq_true au7
               obtain ⟨ad103,e103,hx103_0,hx103_1,hx103_2,hx103_3,hx103_4⟩:=at_T24 HR1.out x10_2 p103 q103
               obtain rfl:ad101=ad103:=(by injection e103)
               replace hx103_0:=(HB.out.cell (World.block_lt_of_cell? w _ hx103_0)).trans hx103_0
               replace hx103_1:=(HB.out.cell (World.block_lt_of_cell? w _ hx103_1)).trans hx103_1
               replace hx103_2:=(HB.out.cell (World.block_lt_of_cell? w _ hx103_2)).trans hx103_2
               replace hx103_3:=(HB.out.cell (World.block_lt_of_cell? w _ hx103_3)).trans hx103_3
               replace hx103_4:=(HB.out.cell (World.block_lt_of_cell? w _ hx103_4)).trans hx103_4
               replace p103:=eq_true p103
               replace q103:=eq_true q103
               go_wp2_with (first|((with_reducible refine gate_callee (f:=19) rfl ?_);refine goesL_ (some 88) rfl rfl Tryd.func19 au2 rfl #[.string ((rd_T24 l1 x10_2).f3),.slice (some ad101) l1.length c1,.int .i64 x10_2] rfl au10 ?_;(with_reducible refine(Recracewayref29element.calls k2 ((rd_T24 l1 x10_2).f3) _ _ l1 x10_2 t104 _ ?side1 ?side2 A44.out).mono ?_);(case side1=>repeat(first|exact(Kd.C_below HR1.out HB.out)|(with_reducible refine Kd.C_alloc ?_ _)|(with_reducible refine Kd.C_drewN ?_ _)|(with_reducible refine Kd.C_drew ?_)));(case side2=>exact HC1.out);rintro e w47 ⟨rfl,hb⟩;refine ⟨_,rfl,?_⟩;have n0_:=Aside0.mk (blk_below (g:=gb102) (o:=.cells #[.int .i64 ((rd_T24 l1 a2).f0),.int .i64 ((rd_T24 l1 a2).f1),.int .i64 ((rd_T24 l1 a2).f2),.string ((rd_T24 l1 a2).f3),.string ((rd_T24 l1 a2).f4)] 24 (0,0)) (by(with_reducible repeat(first|refine blk_drewN ?_ _|refine blk_drew ?_|refine blk_alloc ?_ _));exact BK102.out) hb);have n1_:=Aside0.mk (below_step (by repeat(first|(with_reducible first|exact HB.out|apply below_alloc|apply pw_below_drewN|apply below_drew1|refine below_set ?_ GE102.out)|exact HB.out)) hb);clear BK102;clear HB;have BK102:=n0_;have HB:=n1_;clear n0_ n1_;(try clear hb);(try clear hb2);(try clear hk);(try clear hi);have p105:0≤(x10_2:Int):=of_decide_eq_true au7;have q105:x10_2<(l1.length:Int):=of_decide_eq_true au7;obtain ⟨ad105,e105,hx105_0,hx105_1,hx105_2,hx105_3,hx105_4⟩:=at_T24 HR1.out x10_2 p105 q105;obtain rfl:ad101=ad105:=(by injection e105);replace hx105_0:=(HB.out.cell (World.block_lt_of_cell? w _ hx105_0)).trans hx105_0;replace hx105_1:=(HB.out.cell (World.block_lt_of_cell? w _ hx105_1)).trans hx105_1;replace hx105_2:=(HB.out.cell (World.block_lt_of_cell? w _ hx105_2)).trans hx105_2;replace hx105_3:=(HB.out.cell (World.block_lt_of_cell? w _ hx105_3)).trans hx105_3;replace hx105_4:=(HB.out.cell (World.block_lt_of_cell? w _ hx105_4)).trans hx105_4;replace p105:=eq_true p105;replace q105:=eq_true q105))
               go_roundg k2
               case measure=>have:=HJ11.out;have:=HK2.out;omega
               case rel=>exact ⟨(x8_2++t104),(wrap64 (x10_2+((rd_T24 l1 x10_2).f1))),(wrap64 (x11_2+1)),au4,au4,au4,au9,⟨au32⟩,⟨by(with_reducible repeat(first|refine blk_drewN ?_ _|refine blk_drew ?_|refine blk_alloc ?_ _));exact BK102.out⟩,⟨by repeat(first|(with_reducible first|exact HB.out|apply below_alloc|apply pw_below_drewN|apply below_drew1|refine below_set ?_ GE102.out)|exact HB.out)⟩⟩
              ·rw [if_neg c45] at H
               exact absurd H au5
             ·rw [if_neg c43] at H
              exact absurd H au5
            ·rw [if_neg c42] at H
             exact absurd H au5
           ·rw [if_neg c41] at H
            have c41b0:(((rd_T24 l1 a2).f0)==7)=false:=beq_eq_false_iff_ne.mpr c41
            have c41b1:(((rd_T24 l1 a2).f0) != 7)=true:=bne_iff_ne.mpr c41
            replace H:=Option.bind_eq_some_iff.mp H
            obtain ⟨t106,A480,H⟩:=H
            replace H:(if x8_2.size+t106.size≤9223372036854775807 then(if 0≤x10_2 then(if x10_2<(l1.length:Int) then(racewayref29_insideO.l1 k2 a0 l1 (x8_2++t106) (wrap64 (x10_2+((rd_T24 l1 x10_2).f1))) (wrap64 (x11_2+1)) ((rd_T24 l1 a2).f0) ((rd_T24 l1 a2).f1) ((rd_T24 l1 a2).f2) ((rd_T24 l1 a2).f3) ((rd_T24 l1 a2).f4)) else(none)) else(none)) else(none))=some r:=H
            have A48:=Aside0.mk A480
            clear A480
            by_cases c49:x8_2.size+t106.size≤9223372036854775807
            ·rw [if_pos c49] at H
             have c49b0:=eq_true c49
             have c49b1:decide (x8_2.size+t106.size≤9223372036854775807)=true:=decide_eq_true c49
             try have c49b2:(9223372036854775807<x8_2.size+t106.size)=False:=eq_false (Nat.not_lt.2 c49)
             by_cases c50:0≤x10_2
             ·rw [if_pos c50] at H
              have c50b0:decide (0≤x10_2)=true:=decide_eq_true c50
              clear c50
              by_cases c51:x10_2<(l1.length:Int)
              ·rw [if_pos c51] at H
               have c51b0:decide (x10_2<(l1.length:Int))=true:=decide_eq_true c51
               clear c51
               have H':=Aside0.mk H
               clear H
               have hcz52_0:wr.cell? ⟨gb102,0,none⟩=some (.int .i64 ((rd_T24 l1 a2).f0)):=(blk_cell BK102.out 0).trans rfl
               have hcz52_1:wr.cell? ⟨gb102,1,none⟩=some (.int .i64 ((rd_T24 l1 a2).f1)):=(blk_cell BK102.out 1).trans rfl
               have hcz52_2:wr.cell? ⟨gb102,2,none⟩=some (.int .i64 ((rd_T24 l1 a2).f2)):=(blk_cell BK102.out 2).trans rfl
               have hcz52_3:wr.cell? ⟨gb102,3,none⟩=some (.string ((rd_T24 l1 a2).f3)):=(blk_cell BK102.out 3).trans rfl
               have hcz52_4:wr.cell? ⟨gb102,4,none⟩=some (.string ((rd_T24 l1 a2).f4)):=(blk_cell BK102.out 4).trans rfl
               go_wp2_with (first|((with_reducible refine gate_callee (f:=19) rfl ?_);refine goesL_ (some 88) rfl rfl Tryd.func19 au2 rfl #[.string a0,.slice (some ad101) l1.length c1,.int .i64 x10_2] rfl au10 ?_;(with_reducible refine(Recracewayref29element.calls k2 a0 _ _ l1 x10_2 t106 _ ?side1 ?side2 A48.out).mono ?_);(case side1=>repeat(first|exact(Kd.C_below HR1.out HB.out)|(with_reducible refine Kd.C_alloc ?_ _)|(with_reducible refine Kd.C_drewN ?_ _)|(with_reducible refine Kd.C_drew ?_)));(case side2=>exact HC1.out);rintro e w53 ⟨rfl,hb⟩;refine ⟨_,rfl,?_⟩;have n0_:=Aside0.mk (blk_below (g:=gb102) (o:=.cells #[.int .i64 ((rd_T24 l1 a2).f0),.int .i64 ((rd_T24 l1 a2).f1),.int .i64 ((rd_T24 l1 a2).f2),.string ((rd_T24 l1 a2).f3),.string ((rd_T24 l1 a2).f4)] 24 (0,0)) (by(with_reducible repeat(first|refine blk_drewN ?_ _|refine blk_drew ?_|refine blk_alloc ?_ _));exact BK102.out) hb);have n1_:=Aside0.mk (below_step (by repeat(first|(with_reducible first|exact HB.out|apply below_alloc|apply pw_below_drewN|apply below_drew1|refine below_set ?_ GE102.out)|exact HB.out)) hb);clear BK102;clear HB;have BK102:=n0_;have HB:=n1_;clear n0_ n1_;(try clear hb);(try clear hb2);(try clear hk);(try clear hi);have p107:0≤(x10_2:Int):=of_decide_eq_true au7;have q107:x10_2<(l1.length:Int):=of_decide_eq_true au7;obtain ⟨ad107,e107,hx107_0,hx107_1,hx107_2,hx107_3,hx107_4⟩:=at_T24 HR1.out x10_2 p107 q107;obtain rfl:ad101=ad107:=(by injection e107);replace hx107_0:=(HB.out.cell (World.block_lt_of_cell? w _ hx107_0)).trans hx107_0;replace hx107_1:=(HB.out.cell (World.block_lt_of_cell? w _ hx107_1)).trans hx107_1;replace hx107_2:=(HB.out.cell (World.block_lt_of_cell? w _ hx107_2)).trans hx107_2;replace hx107_3:=(HB.out.cell (World.block_lt_of_cell? w _ hx107_3)).trans hx107_3;replace hx107_4:=(HB.out.cell (World.block_lt_of_cell? w _ hx107_4)).trans hx107_4;replace p107:=eq_true p107;replace q107:=eq_true q107))
               go_roundg k2
               case measure=>have:=HJ11.out;have:=HK2.out;omega
               case rel=>exact ⟨(x8_2++t106),(wrap64 (x10_2+((rd_T24 l1 x10_2).f1))),(wrap64 (x11_2+1)),au4,au4,au4,au9,⟨au32⟩,⟨by(with_reducible repeat(first|refine blk_drewN ?_ _|refine blk_drew ?_|refine blk_alloc ?_ _));exact BK102.out⟩,⟨by repeat(first|(with_reducible first|exact HB.out|apply below_alloc|apply pw_below_drewN|apply below_drew1|refine below_set ?_ GE102.out)|exact HB.out)⟩⟩
              ·rw [if_neg c51] at H
               exact absurd H au5
             ·rw [if_neg c50] at H
              exact absurd H au5
            ·rw [if_neg c49] at H
             exact absurd H au5
          ·rw [if_neg c40] at H
           have c40b0:decide (x11_2<((rd_T24 l1 a2).f2))=false:=decide_eq_false c40
           clear c40
           obtain rfl:=Option.some.inj H
           have hcz54_0:wr.cell? ⟨gb102,0,none⟩=some (.int .i64 ((rd_T24 l1 a2).f0)):=(blk_cell BK102.out 0).trans rfl
           have hcz54_1:wr.cell? ⟨gb102,1,none⟩=some (.int .i64 ((rd_T24 l1 a2).f1)):=(blk_cell BK102.out 1).trans rfl
           have hcz54_2:wr.cell? ⟨gb102,2,none⟩=some (.int .i64 ((rd_T24 l1 a2).f2)):=(blk_cell BK102.out 2).trans rfl
           have hcz54_3:wr.cell? ⟨gb102,3,none⟩=some (.string ((rd_T24 l1 a2).f3)):=(blk_cell BK102.out 3).trans rfl
           have hcz54_4:wr.cell? ⟨gb102,4,none⟩=some (.string ((rd_T24 l1 a2).f4)):=(blk_cell BK102.out 4).trans rfl
           go_wp2
           go_ret
           exact ⟨au12,by repeat(first|(with_reducible first|exact HB.out|apply below_alloc|apply pw_below_drewN|apply below_drew1|refine below_set ?_ GE102.out)|exact HB.out)⟩
  ·rw [if_neg c5] at H
   exact absurd H au5
 ·rw [if_neg c4] at H
  exact absurd H au5
def racewayref29_elementO.f (k:Nat) (a0:ByteArray) (l1:List (S24)) (a2:Int):Option (ByteArray):=if 0≤a2 then(if a2<(l1.length:Int) then(if((rd_T24 l1 a2).f0)=6 then((racewayref29_insideO.f k a0 l1 a2).bind fun t102=>(some t102)) else(if 1+a0.size≤9223372036854775807 then(if 1+a0.size+1≤9223372036854775807 then((racewayref29_insideO.f k a0 l1 a2).bind fun t103=>(if 1+a0.size+1+t103.size≤9223372036854775807 then(if 1+a0.size+1+t103.size+2≤9223372036854775807 then(if 1+a0.size+1+t103.size+2+a0.size≤9223372036854775807 then(if 1+a0.size+1+t103.size+2+a0.size+1≤9223372036854775807 then(some (((((((⟨#[60]⟩:ByteArray)++a0)++(⟨#[62]⟩:ByteArray))++t103)++(⟨#[60,47]⟩:ByteArray))++a0)++(⟨#[62]⟩:ByteArray))) else(none)) else(none)) else(none)) else(none))) else(none)) else(none))) else(none)) else(none)
set_option maxHeartbeats 8000000 in
set_option maxRecDepth 100000 in
theorem racewayref29_elementO.calls (k:Nat) (a0:ByteArray) (A1:Option Addr) (c1:Nat) (l1:List (S24)) (a2:Int) (r:ByteArray) (w:World) (hr1:Kd.C k24 w A1 l1.length l1) (hc1:l1.length≤c1) (h:racewayref29_elementO.f k a0 l1 a2=some r) :
  Calls Tryd.prog 19 #[.string a0,.slice A1 l1.length c1,.int .i64 a2] w fun e w'=>e=.returned (.string r)∧Below w.heap.size w w':=by
 have HR1:=Aside0.mk hr1
 have HC1:=Aside0.mk hc1
 clear hr1 hc1
 have HB:=Aside0.mk (Below.refl w.heap.size w)
 have H:(if 0≤a2 then(if a2<(l1.length:Int) then(if((rd_T24 l1 a2).f0)=6 then((racewayref29_insideO.f k a0 l1 a2).bind fun t102=>(some t102)) else(if 1+a0.size≤9223372036854775807 then(if 1+a0.size+1≤9223372036854775807 then((racewayref29_insideO.f k a0 l1 a2).bind fun t103=>(if 1+a0.size+1+t103.size≤9223372036854775807 then(if 1+a0.size+1+t103.size+2≤9223372036854775807 then(if 1+a0.size+1+t103.size+2+a0.size≤9223372036854775807 then(if 1+a0.size+1+t103.size+2+a0.size+1≤9223372036854775807 then(some (((((((⟨#[60]⟩:ByteArray)++a0)++(⟨#[62]⟩:ByteArray))++t103)++(⟨#[60,47]⟩:ByteArray))++a0)++(⟨#[62]⟩:ByteArray))) else(none)) else(none)) else(none)) else(none))) else(none)) else(none))) else(none)) else(none))=some r:=h
 clear h
 by_cases c4:0≤a2
 ·rw [if_pos c4] at H
  have c4b0:decide (0≤a2)=true:=decide_eq_true c4
  clear c4
  by_cases c5:a2<(l1.length:Int)
  ·rw [if_pos c5] at H
   have c5b0:decide (a2<(l1.length:Int))=true:=decide_eq_true c5
   clear c5
   by_cases c6:((rd_T24 l1 a2).f0)=6
   ·rw [if_pos c6] at H
    have c6b0:(((rd_T24 l1 a2).f0)==6)=true:=beq_iff_eq.mpr c6
    have c6b1:(((rd_T24 l1 a2).f0) != 6)=false:=bne_eq_false_iff_eq.mpr c6
    clear c6
    replace H:=Option.bind_eq_some_iff.mp H
    obtain ⟨t102,A70,H⟩:=H
    replace H:(some t102)=some r:=H
    have A7:=Aside0.mk A70
    clear A70
    obtain rfl:=Option.some.inj H
    have p101:0≤(a2:Int):=of_decide_eq_true au7
    have q101:a2<(l1.length:Int):=of_decide_eq_true au7
    obtain ⟨ad101,e101,hx101_0,hx101_1,hx101_2,hx101_3,hx101_4⟩:=at_T24 HR1.out a2 p101 q101
    cases e101
    replace p101:=eq_true p101
    replace q101:=eq_true q101
    go_enter Tryd.func19,Tryd.ntmps19
    go_wp2_with (first|((with_reducible refine gate_callee (f:=36) rfl ?_);refine goesL_ (some 16) rfl rfl Tryd.func36 au2 rfl #[.string a0,.slice (some ad101) l1.length c1,.int .i64 a2] rfl au10 ?_;(with_reducible refine(racewayref29_insideO.calls k a0 _ _ l1 a2 t102 _ ?side1 ?side2 A7.out).mono ?_);(case side1=>repeat(first|exact HR1.out|(with_reducible refine Kd.C_alloc ?_ _)|(with_reducible refine Kd.C_drewN ?_ _)|(with_reducible refine Kd.C_drew ?_)));(case side2=>exact HC1.out);rintro e w8 ⟨rfl,hb⟩;refine ⟨_,rfl,?_⟩;have n0_:=Aside0.mk (below_step au3 hb);clear HB;have HB:=n0_;clear n0_;(try clear hb);(try clear hb2);(try clear hk);(try clear hi)))
    go_ret
    exact ⟨au12,au3⟩
   ·rw [if_neg c6] at H
    have c6b0:(((rd_T24 l1 a2).f0)==6)=false:=beq_eq_false_iff_ne.mpr c6
    have c6b1:(((rd_T24 l1 a2).f0) != 6)=true:=bne_iff_ne.mpr c6
    by_cases c9:1+a0.size≤9223372036854775807
    ·rw [if_pos c9] at H
     have c9b0:=eq_true c9
     have c9b1:decide (1+a0.size≤9223372036854775807)=true:=decide_eq_true c9
     try have c9b2:(9223372036854775807<1+a0.size)=False:=eq_false (Nat.not_lt.2 c9)
     by_cases c10:1+a0.size+1≤9223372036854775807
     ·rw [if_pos c10] at H
      have c10b0:=eq_true c10
      have c10b1:decide (1+a0.size+1≤9223372036854775807)=true:=decide_eq_true c10
      try have c10b2:(9223372036854775807<1+a0.size+1)=False:=eq_false (Nat.not_lt.2 c10)
      replace H:=Option.bind_eq_some_iff.mp H
      obtain ⟨t103,A110,H⟩:=H
      replace H:(if 1+a0.size+1+t103.size≤9223372036854775807 then(if 1+a0.size+1+t103.size+2≤9223372036854775807 then(if 1+a0.size+1+t103.size+2+a0.size≤9223372036854775807 then(if 1+a0.size+1+t103.size+2+a0.size+1≤9223372036854775807 then(some (((((((⟨#[60]⟩:ByteArray)++a0)++(⟨#[62]⟩:ByteArray))++t103)++(⟨#[60,47]⟩:ByteArray))++a0)++(⟨#[62]⟩:ByteArray))) else(none)) else(none)) else(none)) else(none))=some r:=H
      have A11:=Aside0.mk A110
      clear A110
      by_cases c12:1+a0.size+1+t103.size≤9223372036854775807
      ·rw [if_pos c12] at H
       have c12b0:=eq_true c12
       have c12b1:decide (1+a0.size+1+t103.size≤9223372036854775807)=true:=decide_eq_true c12
       try have c12b2:(9223372036854775807<1+a0.size+1+t103.size)=False:=eq_false (Nat.not_lt.2 c12)
       by_cases c13:1+a0.size+1+t103.size+2≤9223372036854775807
       ·rw [if_pos c13] at H
        have c13b0:=eq_true c13
        have c13b1:decide (1+a0.size+1+t103.size+2≤9223372036854775807)=true:=decide_eq_true c13
        try have c13b2:(9223372036854775807<1+a0.size+1+t103.size+2)=False:=eq_false (Nat.not_lt.2 c13)
        by_cases c14:1+a0.size+1+t103.size+2+a0.size≤9223372036854775807
        ·rw [if_pos c14] at H
         have c14b0:=eq_true c14
         have c14b1:decide (1+a0.size+1+t103.size+2+a0.size≤9223372036854775807)=true:=decide_eq_true c14
         try have c14b2:(9223372036854775807<1+a0.size+1+t103.size+2+a0.size)=False:=eq_false (Nat.not_lt.2 c14)
         by_cases c15:1+a0.size+1+t103.size+2+a0.size+1≤9223372036854775807
         ·rw [if_pos c15] at H
          have c15b0:=eq_true c15
          have c15b1:decide (1+a0.size+1+t103.size+2+a0.size+1≤9223372036854775807)=true:=decide_eq_true c15
          try have c15b2:(9223372036854775807<1+a0.size+1+t103.size+2+a0.size+1)=False:=eq_false (Nat.not_lt.2 c15)
          obtain rfl:=Option.some.inj H
          have p101:0≤(a2:Int):=of_decide_eq_true au7
          have q101:a2<(l1.length:Int):=of_decide_eq_true au7
          obtain ⟨ad101,e101,hx101_0,hx101_1,hx101_2,hx101_3,hx101_4⟩:=at_T24 HR1.out a2 p101 q101
          cases e101
          replace p101:=eq_true p101
          replace q101:=eq_true q101
          go_enter Tryd.func19,Tryd.ntmps19
          go_wp2_with (first|((with_reducible refine gate_callee (f:=36) rfl ?_);refine goesL_ (some 23) rfl rfl Tryd.func36 au2 rfl #[.string a0,.slice (some ad101) l1.length c1,.int .i64 a2] rfl au10 ?_;(with_reducible refine(racewayref29_insideO.calls k a0 _ _ l1 a2 t103 _ ?side1 ?side2 A11.out).mono ?_);(case side1=>repeat(first|exact HR1.out|(with_reducible refine Kd.C_alloc ?_ _)|(with_reducible refine Kd.C_drewN ?_ _)|(with_reducible refine Kd.C_drew ?_)));(case side2=>exact HC1.out);rintro e w16 ⟨rfl,hb⟩;refine ⟨_,rfl,?_⟩;have n0_:=Aside0.mk (below_step au3 hb);clear HB;have HB:=n0_;clear n0_;(try clear hb);(try clear hb2);(try clear hk);(try clear hi)))
          go_ret
          exact ⟨au12,au3⟩
         ·rw [if_neg c15] at H
          exact absurd H au5
        ·rw [if_neg c14] at H
         exact absurd H au5
       ·rw [if_neg c13] at H
        exact absurd H au5
      ·rw [if_neg c12] at H
       exact absurd H au5
     ·rw [if_neg c10] at H
      exact absurd H au5
    ·rw [if_neg c9] at H
     exact absurd H au5
  ·rw [if_neg c5] at H
   exact absurd H au5
 ·rw [if_neg c4] at H
  exact absurd H au5
end
@[reducible] def recracewayref29_element:Nat→Recracewayref29element
 | 0=>⟨fun _ _ _ _=>none,by intros;contradiction⟩
 | d+1=>⟨@racewayref29_elementO.f (recracewayref29_element d),@racewayref29_elementO.calls (recracewayref29_element d)⟩
def racewayref29_element.f:Nat→ByteArray→(List (S24))→Int→Option (ByteArray):=(recracewayref29_element 70).f
theorem racewayref29_element.calls (k:Nat) (a0:ByteArray) (A1:Option Addr) (c1:Nat) (l1:List (S24)) (a2:Int) (r:ByteArray) (w:World) (hr1:Kd.C k24 w A1 l1.length l1) (hc1:l1.length≤c1) (h:racewayref29_element.f k a0 l1 a2=some r) :
  Calls Tryd.prog 19 #[.string a0,.slice A1 l1.length c1,.int .i64 a2] w fun e w'=>e=.returned (.string r)∧Below w.heap.size w w':=by
 first|exact(recracewayref29_element 70).calls ..|(apply(recracewayref29_element 70).calls<;>assumption)
end Go.Proofs.YtjehflambbjoaaaDoor.X
namespace Go.Proofs.YtjehflambbjoaaaDoor.Pure
open Go.Lib
theorem index_ne (b c:UInt8) (l:List UInt8) (h:b≠c):index (b :: l) [c]=if index l [c] == -1 then -1 else index l [c]+1:=by
 have hp:([c]:List UInt8).isPrefixOf (b :: l)=false:=by simp [List.isPrefixOf,Ne.symm h]
 rw [index,hp];simp
theorem index_eq (c:UInt8) (l:List UInt8):index (c :: l) [c]=((0:Nat):Int):=by
 rw [index];simp [List.isPrefixOf]
def one (c:UInt8) (new:List UInt8) (b:UInt8):List UInt8:=if b=c then new else [b]
theorem repl_miss (c:UInt8) (new:List UInt8) (k:Nat) (s:List UInt8) (h:index s [c] = -1):replaceK [c] new k s=s:=by
 cases k with
 | zero=>rfl
 | succ k=>rw [replaceK,if_pos (by rw [h];rfl)]
theorem repl_k (c:UInt8) (new:List UInt8):∀(s:List UInt8) (k:Nat),s.count c≤k→replaceK [c] new k s=s.flatMap (one c new)
 | [],k,h=>by rw [repl_miss c new k [] (by simp [index])];rfl
 | b :: l,k,h=>by
  by_cases hb:b=c
  ·subst hb
   rw [List.count_cons_self] at h
   obtain ⟨k,rfl⟩:∃ k',k=k'+1:=⟨k - 1,au0⟩
   rw [replaceK_hit [b] new k (b :: l) 0 (index_eq b l)]
   simp only [List.take_zero,List.nil_append,Nat.zero_add,List.length_cons,List.length_nil,List.drop_succ_cons,List.drop_zero,List.flatMap_cons]
   rw [repl_k b new l k au0,one,if_pos rfl]
  ·rw [List.count_cons_of_ne (by simpa using hb)] at h
   have ih:=repl_k c new l k h
   rw [List.flatMap_cons,one,if_neg hb]
   by_cases hm:index l [c] = -1
   ·rw [repl_miss c new k l hm] at ih
    rw [repl_miss c new k (b :: l) (by rw [index_ne b c l hb,if_pos (by rw [hm];rfl)]),← ih]
    rfl
   ·have hge:=index_ge l [c]
    obtain ⟨j,hj⟩:∃ j:Nat,index l [c]=j:=⟨(index l [c]).toNat,au0⟩
    cases k with
    | zero=>rw [← ih];rfl
    | succ k =>
     rw [replaceK_hit [c] new k l j hj] at ih
     rw [replaceK_hit [c] new k (b :: l) (j+1) (by rw [index_ne b c l hb,if_neg (by rw [beq_iff_eq];exact hm),hj];rfl),← ih]
     simp
theorem replaceAll_one (c:UInt8) (new s:List UInt8) (h:new≠[c]):replaceAll s [c] new=s.flatMap (one c new):=by
 unfold replaceAll replace
 rw [if_neg (by rw [beq_iff_eq];exact fun e=>h e.symm)]
 have hn:replaceNum s [c] (-1)=s.count c:=by unfold replaceNum;rw [if_pos (.inl au1),count_one]
 rw [hn]
 exact repl_k c new s _ (Nat.le_refl _)
def esc (b:UInt8):List UInt8 :=
 if b=38 then [38,97,109,112,59] else if b=60 then [38,108,116,59] else if b=62 then [38,103,116,59] else if b=34 then [38,113,117,111,116,59] else [b]
theorem esc_all (s:List UInt8):replaceAll (replaceAll (replaceAll (replaceAll s [38] [38,97,109,112,59]) [60] [38,108,116,59]) [62] [38,103,116,59]) [34] [38,113,117,111,116,59]=s.flatMap esc:=by
 rw [replaceAll_one 38 _ _ au1,replaceAll_one 60 _ _ au1,replaceAll_one 62 _ _ au1,replaceAll_one 34 _ _ au1,List.flatMap_assoc,List.flatMap_assoc,List.flatMap_assoc]
 congr 1
 funext b
 unfold one esc
 by_cases h1:b=38
 ·subst h1;decide
 ·by_cases h2:b=60
  ·subst h2;decide
  ·by_cases h3:b=62
   ·subst h3;decide
   ·by_cases h4:b=34
    ·subst h4;decide
    ·simp [h1,h2,h3,h4]
theorem esc_size (b:UInt8):(esc b).length≤6:=by
 unfold esc
 repeat' split
 all_goals simp
theorem escs_size:∀ s:List UInt8,(s.flatMap esc).length≤6*s.length
 | []=>by simp
 | b :: l=>by
  have:=escs_size l
  have:=esc_size b
  simp only [List.flatMap_cons,List.length_append,List.length_cons]
  omega
end Go.Proofs.YtjehflambbjoaaaDoor.Pure
namespace Go.Proofs.YtjehflambbjoaaaDoor.Pure
open Go.Proofs.YtjehflambbjoaaaDoor.X Go.RowKit Go.Proofs.YtjehflambbjoaaaDoorW.PrintWords Go.Proofs.YtjehflambbjoaaaDoorW.PrintMore
def leafIn (d:Int) (t:Bs):Bs:=if d=2 then [116,114,117,101] else if d=3 then [102,97,108,115,101] else if d=4∨d=5 then t.flatMap esc else []
def tag (n s:Bs):Bs:=[60]++n++[62]++s++[60,47]++n++[62]
def mkup:Option Bs→F→Bs
 | _,.nil=>[]
 | nm,.leaf k d t r=>tag (nm.getD k) (leafIn d t)++mkup nm r
 | nm,.node k d ks r=>(if d=6 then mkup (some (nm.getD k)) ks else tag (nm.getD k) (mkup none ks))++mkup nm r
def cost (K:Nat):F→Nat
 | .nil=>0
 | .leaf k d t r=>2*K+10+6*t.length+cost K r
 | .node k d ks r=>2*K+10+cost K ks+cost K r
def keysIn (K:Nat):F→Prop
 | .nil=>True
 | .leaf k d t r=>k.length≤K∧keysIn K r
 | .node k d ks r=>k.length≤K∧keysIn K ks∧keysIn K r
theorem tag_size (n s:Bs):(tag n s).length=2*n.length+5+s.length:=by
 simp only [tag,List.length_append,List.length_cons,List.length_nil]
 omega
theorem leafIn_size (d:Int) (t:Bs):(leafIn d t).length≤5+6*t.length:=by
 have:=escs_size t
 unfold leafIn
 split
 ·simp only [List.length_cons,List.length_nil];omega
 ·split
  ·simp only [List.length_cons,List.length_nil];omega
  ·split
   ·omega
   ·simp
theorem mkup_size (K:Nat):∀(f:F) (nm:Option Bs),keysIn K f→(∀ n,nm=some n→n.length≤K)→(mkup nm f).length≤cost K f
 | .nil,nm,_,_=>by simp [mkup]
 | .leaf k d t r,nm,hk,hn=>by
  have h1:=mkup_size K r nm hk.2 hn
  have h2:(nm.getD k).length≤K:=by
   cases nm with
   | none=>exact hk.1
   | some n=>exact hn n rfl
  have h3:=leafIn_size d t
  simp only [mkup,cost,List.length_append,tag_size]
  omega
 | .node k d ks r,nm,hk,hn=>by
  have h1:=mkup_size K r nm hk.2.2 hn
  have h2:(nm.getD k).length≤K:=by
   cases nm with
   | none=>exact hk.1
   | some n=>exact hn n rfl
  have h3:=mkup_size K ks none hk.2.1 (fun n h=>nomatch h)
  have h4:=mkup_size K ks (some (nm.getD k)) hk.2.1 (fun n h=>by cases h;exact h2)
  simp only [mkup,cost,List.length_append]
  split
  ·omega
  ·rw [tag_size];omega
theorem mstr_app (a b:Bs):str a++str b=str (a++b):=by
 unfold str
 apply ByteArray.ext
 simp
theorem byte_is {c:UInt8} {n:Nat} (h:(c.toNat:Int)=(n:Int)) (hn:n<256):c=UInt8.ofNat n:=by
 apply UInt8.toNat_inj.1
 rw [UInt8.toNat_ofNat']
 omega
theorem cut_one {s:ByteArray} {p:Nat} {c:UInt8} {r:Bs} (ha:At s p (c :: r)):s.extract p (p+1)=str [c]:=by
 have h:=ha.drop
 apply ByteArray.ext
 simp only [ByteArray.data_extract,str]
 apply Array.toList_inj.1
 rw [Array.toList_extract,List.extract_eq_take_drop,h]
 simp
section
variable [I:Recracewayref29element]
theorem esc_l0 (s:ByteArray) (hs:s.size≤1000000) (x y z:Int) (q:ByteArray):∀(m:Bs) (p k:Nat) (acc:Bs),At s p m→m.length+1≤k→acc.length+6*m.length≤1000000000 →
  racewayref29_insideO.l0 k (str acc) (p:Int) x y z q s=some (str (acc++m.flatMap esc))
 | m,p,0,acc,ha,hk,hn=>by omega
 | [],p,k+1,acc,ha,hk,hn=>by
  rw [racewayref29_insideO.l0,if_neg ha.ge]
  simp
 | c :: r,p,k+1,acc,ha,hk,hn=>by
  have hlt:=ha.lt
  simp only [List.length_cons] at hk hn
  have hz:(str acc).size=acc.length:=by simp [str,ByteArray.size]
  have hw:wrap64 ((p:Int)+1)=((p+1:Nat):Int):=by unfold wrap64;omega
  have hx:(s.extract ((p:Int)).toNat (((p+1:Nat):Int)).toNat)=str [c]:=by
   rw [Int.toNat_natCast,Int.toNat_natCast]
   exact cut_one ha
  rw [racewayref29_insideO.l0,if_pos ha.lti,if_pos au0,ha.bt,hw,hz,hx]
  have step:∀(b:Bs),esc c=b→b.length≤6→racewayref29_insideO.l0 k (str acc++str b) ((p+1:Nat):Int) x y z q s=some (str (acc++(c :: r).flatMap esc)):=by
   intro b hb hl
   rw [mstr_app,esc_l0 s hs x y z q r (p+1) k (acc++b) ha.next au0 (by rw [List.length_append];omega),List.flatMap_cons,hb,List.append_assoc]
  by_cases h1:(c.toNat:Int)=38
  ·have:=byte_is (n:=38) h1 au1
   rw [if_pos h1,if_pos au0]
   exact step _ (by rw [this];rfl) au1
  ·by_cases h2:(c.toNat:Int)=60
   ·have:=byte_is (n:=60) h2 au1
    rw [if_neg h1,if_pos h2,if_pos au0]
    exact step _ (by rw [this];rfl) au1
   ·by_cases h3:(c.toNat:Int)=62
    ·have:=byte_is (n:=62) h3 au1
     rw [if_neg h1,if_neg h2,if_pos h3,if_pos au0]
     exact step _ (by rw [this];rfl) au1
    ·by_cases h4:(c.toNat:Int)=34
     ·have:=byte_is (n:=34) h4 au1
      rw [if_neg h1,if_neg h2,if_neg h3,if_pos h4,if_pos au0]
      exact step _ (by rw [this];rfl) au1
     ·rw [if_neg h1,if_neg h2,if_neg h3,if_neg h4,if_pos au0,if_pos au0,if_pos (by simp [str,ByteArray.size];omega)]
      refine step [c] ?_ au5
      have n1:c≠38:=fun e=>h1 (by rw [e];rfl)
      have n2:c≠60:=fun e=>h2 (by rw [e];rfl)
      have n3:c≠62:=fun e=>h3 (by rw [e];rfl)
      have n4:c≠34:=fun e=>h4 (by rw [e];rfl)
      unfold esc
      rw [if_neg n1,if_neg n2,if_neg n3,if_neg n4]
end
theorem rd_here (l:List S24) (p:Nat) (x:S24) (r:List S24) (h:l.drop p=x :: r):rd_T24 l (p:Int)=x∧p<l.length∧l.drop (p+1)=r:=by
 have hp:p<l.length:=by
  have:=congrArg List.length h
  simp at this
  omega
 have e:=List.drop_eq_getElem_cons hp
 rw [h] at e
 injection e with e1 e2
 refine ⟨?_,hp,e2.symm⟩
 unfold rd_T24
 rw [Int.toNat_natCast,List.getD_eq_getElem?_getD,List.getElem?_eq_getElem hp]
 exact e1.symm
def fine (M T:Nat):F→Prop
 | .nil=>True
 | .leaf k d t r=>k.length≤M∧t.length≤T∧1≤d∧d≤5∧fine M T r
 | .node k d ks r=>k.length≤M∧(d=6∨d=7)∧fine M T ks∧fine M T r
theorem fine_keys (M T:Nat):∀ f:F,fine M T f→keysIn M f
 | .nil,h=>trivial
 | .leaf k d t r,h=>⟨h.1,fine_keys M T r h.2.2.2.2⟩
 | .node k d ks r,h=>⟨h.1,fine_keys M T ks h.2.2.1,fine_keys M T r h.2.2.2⟩
theorem flat_count:∀ f:F,f.count≤f.flat.length
 | .nil=>Nat.le_refl _
 | .leaf k d t r=>by have:=flat_count r;simp only [F.count,F.flat,List.length_cons];omega
 | .node k d ks r=>by have:=flat_count r;simp only [F.count,F.flat,List.length_cons,List.length_append];omega
theorem flat_nil:∀ f:F,f.count=0→f=.nil
 | .nil,_=>rfl
def dep:F→Nat
 | .nil=>0
 | .leaf _ _ _ r=>max 1 (dep r)
 | .node _ _ ks r=>max (dep ks+1) (dep r)
def OkEl (l:List S24) (I:Recracewayref29element) (K0 d M T:Nat):Prop:=∀(u:F) (r:List S24) (p k:Nat) (name:Bs),u.count=1→dep u≤d→l.drop p=u.flat++r→fine M T u→name.length≤M→cost M u≤500000000→K0≤k →
 I.f k (str name) l (p:Int)=some (str (mkup (some name) u))
theorem msize (a:Bs):(str a).size=a.length:=by simp [str,ByteArray.size]
section
variable [I:Recracewayref29element]
theorem l1_step (l:List S24) (hlen:l.length≤1000000) (x:S24) (next cnt k s:Nat) (hx:rd_T24 l (next:Int)=x) (hlt:next<l.length) (name nm acc m:Bs) (kind sz N:Int) (key text:ByteArray)
  (hN:(cnt:Int)<N) (hc:cnt≤1000000) (hs:x.f1=(s:Int)) (hs2:s≤1000000) (hnm:nm=if kind=7 then x.f3.data.toList else name) (h3:str x.f3.data.toList=x.f3) (e:I.f k (str nm) l (next:Int)=some (str m)) (hm:acc.length+m.length≤1100000000) :
  racewayref29_insideO.l1 (k+1) (str name) l (str acc) (next:Int) (cnt:Int) kind sz N key text=racewayref29_insideO.l1 k (str name) l (str (acc++m)) ((next+s:Nat):Int) ((cnt+1:Nat):Int) kind sz N key text:=by
 have w1:wrap64 ((next:Int)+(s:Int))=((next+s:Nat):Int):=by unfold wrap64;omega
 have w2:wrap64 ((cnt:Int)+1)=((cnt+1:Nat):Int):=by unfold wrap64;omega
 rw [racewayref29_insideO.l1,if_pos hN,hx]
 by_cases h7:kind=7
 ·rw [if_pos h7] at hnm
  rw [hnm,h3] at e
  rw [if_pos h7,if_pos au0,if_pos au0,e,Option.bind_some,msize,msize,if_pos au0,mstr_app,hs,w1,w2]
 ·rw [if_neg h7] at hnm
  rw [hnm] at e
  rw [if_neg h7,e,Option.bind_some,msize,msize,if_pos au0,if_pos au0,if_pos au0,mstr_app,hs,w1,w2]
theorem kids_l1 (l:List S24) (hlen:l.length≤1000000) (K0 d M T:Nat) (hI:OkEl l I K0 d M T) (name:Bs) (hname:name.length≤M) (kind sz N:Int) (key text:ByteArray) (hk7:kind=6∨kind=7):∀(f:F) (rest:List S24) (next cnt k:Nat) (acc:Bs),dep f≤d→l.drop next=f.flat++rest→fine M T f→N=((cnt+f.count:Nat):Int)→cnt+f.count≤1000000→acc.length+cost M f≤500000000→K0+f.count+1≤k →
  racewayref29_insideO.l1 k (str name) l (str acc) (next:Int) (cnt:Int) kind sz N key text=some (str (acc++mkup (if kind=7 then none else some name) f))
 | f,rest,next,cnt,0,acc,hd,h,hf,hN,hc,ha,hk=>by omega
 | .nil,rest,next,cnt,k+1,acc,hd,h,hf,hN,hc,ha,hk=>by
  rw [racewayref29_insideO.l1,if_neg (by rw [hN];simp [F.count])]
  simp [mkup]
 | .leaf kk d0 t g,rest,next,cnt,k+1,acc,hd,h,hf,hN,hc,ha,hk=>by
  simp only [F.flat,List.cons_append] at h
  simp only [F.count] at hN hc hk
  simp only [dep] at hd
  simp only [cost] at ha
  obtain ⟨e1,e2,e3⟩:=rd_here l next _ _ h
  have hnl:(if kind=7 then kk else name).length≤M:=by split;exact hf.1;exact hname
  have hF:fine M T (.leaf kk d0 t .nil):=⟨hf.1,hf.2.1,hf.2.2.1,hf.2.2.2.1,trivial⟩
  have e:=hI (.leaf kk d0 t .nil) (g.flat++rest) next k (if kind=7 then kk else name) rfl au36 (by simpa [F.flat] using h) hF hnl (by simp only [cost];omega) au0
  have hms:=mkup_size M (.leaf kk d0 t .nil) (some (if kind=7 then kk else name)) (fine_keys M T _ hF) (fun n hn=>by cases hn;exact hnl)
  simp only [cost] at hms
  rw [l1_step l hlen _ next cnt k 1 e1 e2 name (if kind=7 then kk else name) acc _ kind sz N key text au0 au0 rfl au1 (by simp [str]) (by simp [str]) e au0,
   kids_l1 l hlen K0 d M T hI name hname kind sz N key text hk7 g rest (next+1) (cnt+1) k _ au0 e3 hf.2.2.2.2 (by rw [hN];congr 1;omega) au0 (by rw [List.length_append];omega) au0,List.append_assoc]
  congr 3
  by_cases h7:kind=7
  ·simp [h7,mkup]
  ·simp [h7,mkup]
 | .node kk d0 ks g,rest,next,cnt,k+1,acc,hd,h,hf,hN,hc,ha,hk=>by
  simp only [F.flat,List.cons_append] at h
  simp only [F.count] at hN hc hk
  simp only [dep] at hd
  simp only [cost] at ha
  obtain ⟨e1,e2,e3⟩:=rd_here l next _ _ h
  have hnl:(if kind=7 then kk else name).length≤M:=by split;exact hf.1;exact hname
  have hF:fine M T (.node kk d0 ks .nil):=⟨hf.1,hf.2.1,hf.2.2.1,trivial⟩
  have e:=hI (.node kk d0 ks .nil) (g.flat++rest) next k (if kind=7 then kk else name) rfl au36 (by simpa [F.flat] using h) hF hnl (by simp only [cost];omega) au0
  have hms:=mkup_size M (.node kk d0 ks .nil) (some (if kind=7 then kk else name)) (fine_keys M T _ hF) (fun n hn=>by cases hn;exact hnl)
  simp only [cost] at hms
  have hsz:ks.flat.length+1≤l.length:=by
   have:=congrArg List.length h
   simp only [List.length_drop,List.length_cons,List.length_append] at this
   omega
  have e4:l.drop (next+(ks.flat.length+1))=g.flat++rest:=by
   rw [show next+(ks.flat.length+1)=(next+1)+ks.flat.length by omega,← List.drop_drop,e3]
   simp
  rw [l1_step l hlen _ next cnt k (ks.flat.length+1) e1 e2 name (if kind=7 then kk else name) acc _ kind sz N key text au0 au0 rfl au0 (by simp [str]) (by simp [str]) e au0,
   kids_l1 l hlen K0 d M T hI name hname kind sz N key text hk7 g rest (next+(ks.flat.length+1)) (cnt+1) k _ au0 e4 hf.2.2.2 (by rw [hN];congr 1;omega) au0 (by rw [List.length_append];omega) au0,List.append_assoc]
  congr 3
  by_cases h7:kind=7
  ·simp [h7,mkup]
  ·simp [h7,mkup]
theorem in_leaf (l:List S24) (kk:Bs) (d0:Int) (t:Bs) (name:Bs) (p k:Nat) (r:List S24) (h:l.drop p=⟨d0,1,0,str kk,str t⟩ :: r) (ht:t.length≤1000000) (h1:1≤d0) (h5:d0≤5) (hk:t.length+10≤k) :
  racewayref29_insideO.f k (str name) l (p:Int)=some (str (leafIn d0 t)):=by
 obtain ⟨e1,e2,e3⟩:=rd_here l p _ _ h
 obtain ⟨k,rfl⟩:∃ k',k=k'+2:=⟨k - 2,au0⟩
 have hL:=esc_l0 (str t) (by rw [msize];exact ht)
 have hAt:At (str t) 0 t:=⟨au25,by simp [str]⟩
 rw [racewayref29_insideO.f,if_pos au0,if_pos au0,e1]
 unfold leafIn
 by_cases c2:d0=2
 ·rw [if_pos c2,if_pos c2]
  rfl
 ·by_cases c3:d0=3
  ·rw [if_neg c2,if_pos c3,if_neg c2,if_pos c3]
   rfl
  ·rw [if_neg c2,if_neg c3,if_neg c2,if_neg c3]
   by_cases c4:d0=4
   ·rw [if_pos c4,if_pos (.inl c4),racewayref29_insideO.j0,if_pos rfl]
    exact hL _ _ _ _ t 0 (k+1) [] hAt au0 au16
   ·rw [if_neg c4]
    by_cases c5:d0=5
    ·rw [if_pos (.inr c5),racewayref29_insideO.j0,if_pos (by simp [c5])]
     exact hL _ _ _ _ t 0 (k+1) [] hAt au0 au16
    ·rw [if_neg au0,racewayref29_insideO.j0,if_neg (by simp [c5]),racewayref29_insideO.l1,if_neg (show ¬ (0:Int)<0 by decide)]
     rfl
theorem in_node (l:List S24) (hlen:l.length≤1000000) (K0 d M T:Nat) (hI:OkEl l I K0 d M T) (kk:Bs) (d0:Int) (ks:F) (name:Bs) (p k:Nat) (r:List S24) (hname:name.length≤M) (hd:dep ks≤d) (h67:d0=6∨d0=7) (hf:fine M T ks) (hc:cost M ks≤500000000)
  (h:l.drop p=⟨d0,(ks.flat.length+1:Nat),(ks.count:Nat),str kk,str []⟩ :: (ks.flat++r)) (hcnt:ks.count≤ks.flat.length) (hk:K0+l.length+10≤k) :
  racewayref29_insideO.f k (str name) l (p:Int)=some (str (mkup (if d0=7 then none else some name) ks)):=by
 obtain ⟨e1,e2,e3⟩:=rd_here l p _ _ h
 obtain ⟨k,rfl⟩:∃ k',k=k'+1:=⟨k - 1,au0⟩
 have hsz:ks.flat.length+1≤l.length:=by
  have:=congrArg List.length h
  simp only [List.length_drop,List.length_cons,List.length_append] at this
  omega
 have hw:wrap64 ((p:Int)+1)=((p+1:Nat):Int):=by unfold wrap64;omega
 have n2:¬ d0=2:=by clear hw;omega
 have n3:¬ d0=3:=by clear hw;omega
 have n4:¬ d0=4:=by clear hw;omega
 have n5:(d0==5)=false:=beq_eq_false_iff_ne.2 (by clear hw;omega)
 have hp0:(0:Int)≤(p:Int):=Int.natCast_nonneg p
 have hpl:(p:Int)<(l.length:Int):=Int.ofNat_lt.2 e2
 rw [racewayref29_insideO.f,if_pos hp0,if_pos hpl,e1,if_neg n2,if_neg n3,if_neg n4]
 show racewayref29_insideO.j0 (k+1) (str name) l (p:Int) (⟨#[]⟩:ByteArray) (d0==5) d0 ((ks.flat.length+1:Nat):Int) ((ks.count:Nat):Int) (str kk) (str [])=_
 rw [n5,racewayref29_insideO.j0,if_neg Bool.false_ne_true,hw]
 exact kids_l1 l hlen K0 d M T hI name hname d0 ((ks.flat.length+1:Nat):Int) ((ks.count:Nat):Int) (str kk) (str []) h67 ks r (p+1) 0 k [] hd e3 hf (by rw [Nat.zero_add]) (by clear hw;omega) (by rw [List.length_nil,Nat.zero_add];exact hc) (by clear hw;omega)
theorem el_tag (l:List S24) (name b:Bs) (p k:Nat) (hp:p<l.length) (h6:¬ (rd_T24 l (p:Int)).f0=6) (e:racewayref29_insideO.f k (str name) l (p:Int)=some (str b)) (hn:2*name.length+b.length≤1200000000):racewayref29_elementO.f k (str name) l (p:Int)=some (str (tag name b)):=by
 rw [racewayref29_elementO.f,if_pos au0,if_pos au0,if_neg h6,msize,if_pos au0,if_pos au0,e,Option.bind_some,msize,if_pos au0,if_pos au0,if_pos au0,if_pos au0]
 show some (str [60]++str name++str [62]++str b++str [60,47]++str name++str [62])=_
 rw [mstr_app,mstr_app,mstr_app,mstr_app,mstr_app,mstr_app]
 rfl
theorem el_law (l:List S24) (hlen:l.length≤1000000) (K0 d M T:Nat) (hM:M≤1000000) (hT:T≤1000000) (hI:OkEl l I K0 d M T) (u:F) (r:List S24) (p k:Nat) (name:Bs) (h1:u.count=1) (hd:dep u≤d+1) (h:l.drop p=u.flat++r) (hf:fine M T u) (hn:name.length≤M) (hc:cost M u≤500000000) (hk:K0+l.length+T+10≤k) :
  racewayref29_elementO.f k (str name) l (p:Int)=some (str (mkup (some name) u)):=by
 match u,h1,hd,h,hf,hc with
 | .leaf kk d0 t g,h1,hd,h,hf,hc =>
  obtain rfl:=flat_nil g (by simpa [F.count] using h1)
  simp only [F.flat,List.cons_append,List.nil_append] at h
  obtain ⟨e1,e2,e3⟩:=rd_here l p _ _ h
  have:=leafIn_size d0 t
  rw [el_tag l name (leafIn d0 t) p k e2 (by rw [e1];have:=hf.2.2.2.1;show ¬ d0=6;omega) (in_leaf l kk d0 t name p k r h (by have:=hf.2.1;omega) hf.2.2.1 hf.2.2.2.1 (by have:=hf.2.1;omega)) (by have:=hf.2.1;omega)]
  simp [mkup]
 | .node kk d0 ks g,h1,hd,h,hf,hc =>
  obtain rfl:=flat_nil g (by simpa [F.count] using h1)
  simp only [F.flat,List.cons_append,List.append_nil] at h
  obtain ⟨e1,e2,e3⟩:=rd_here l p _ _ h
  simp only [dep] at hd
  simp only [cost] at hc
  have e:=in_node l hlen K0 d M T hI kk d0 ks name p k r hn au0 hf.2.1 hf.2.2.1 au0 h (flat_count ks) au0
  have hms:=mkup_size M ks none (fine_keys M T _ hf.2.2.1) (fun n hn=>nomatch hn)
  rcases hf.2.1 with h6|h7
  ·rw [if_neg au0] at e
   rw [racewayref29_elementO.f,if_pos au0,if_pos au0,e1,if_pos h6,e]
   simp [mkup,h6]
  ·rw [if_pos h7] at e
   rw [el_tag l name (mkup none ks) p k e2 (by rw [e1];show ¬ d0=6;omega) e au0]
   simp [mkup,h7]
end
theorem rel_law (l:List S24) (hlen:l.length≤1000000) (M T:Nat) (hM:M≤1000000) (hT:T≤1000000):∀ d:Nat,OkEl l (recracewayref29_element d) (d*(l.length+T+10)) d M T
 | 0=>fun u r p k name h1 hd h hf hn hc hk=>by
  cases u with
  | nil=>simp [F.count] at h1
  | leaf=>simp only [dep] at hd;omega
  | node=>simp only [dep] at hd;omega
 | d+1=>fun u r p k name h1 hd h hf hn hc hk=>by
  have:=rel_law l hlen M T hM hT d
  exact @el_law (recracewayref29_element d) l hlen (d*(l.length+T+10)) d M T hM hT this u r p k name h1 hd h hf hn hc (by rw [Nat.succ_mul] at hk;omega)
theorem good_up:∀(f:F) (d d':Nat) (keyed:Bool),d≤d'→good f d keyed=true→good f d' keyed=true
 | .nil,_,_,_,_,_=>rfl
 | .leaf k kd t r,d,d',keyed,hd,h=>by
  simp only [good,Bool.and_eq_true,decide_eq_true_eq] at h ⊢
  exact ⟨⟨⟨⟨au0,h.1.1.1.2⟩,h.1.1.2⟩,h.1.2⟩,good_up r d d' keyed hd h.2⟩
 | .node k kd ks r,d,d',keyed,hd,h=>by
  simp only [good,Bool.and_eq_true,decide_eq_true_eq] at h ⊢
  exact ⟨⟨⟨⟨⟨au0,h.1.1.1.1.2⟩,h.1.1.1.2⟩,h.1.1.2⟩,good_up ks (d - 1) (d' - 1) (kd==7) au0 h.1.2⟩,good_up r d d' keyed hd h.2⟩
structure Tr (d B:Nat) (u:F):Prop where
 one:u.one
 good:good u d false=true
 fit:fit u.flat=true
 len:u.flat.length≤B
theorem Tr.tree {d B:Nat} {u:F} (h:Tr d B u) (hd:d≤32):tree? u.flat=some u:=tree_is h.one (good_up u d 32 false hd h.good)
theorem Tr.checks {d B:Nat} {u:F} (h:Tr d B u) (hd:d≤32) (hB:B≤1000000) (k:Nat) (hk:14000000≤k):jsontext_Check.f k u.flat=some 0∧racewayref25_Check.f k u.flat=some 0:=by
 have hC:=Check_law u.flat h.fit k (by have:=h.len;omega)
 have hR:=rCheck_law u.flat h.fit (by have:=h.len;omega) k (by have:=h.len;omega)
 rw [h.tree hd] at hC hR
 exact ⟨hC,hR⟩
theorem setKey_flat (k:Bs) (u:F) (h:u.one):∃ x tl,u.flat=x :: tl∧(F.setKey k u).flat=(⟨x.f0,x.f1,x.f2,str k,x.f4⟩:S24) :: tl∧(F.setKey k u).count=1:=by
 match u,h with
 | .leaf _ _ _ .nil,_=>exact ⟨_,_,rfl,rfl,rfl⟩
 | .node _ _ _ .nil,_=>exact ⟨_,_,rfl,rfl,rfl⟩
def rowF:List (Bs × F)→F
 | []=>.nil
 | m :: r=>(F.setKey m.1 m.2).app (rowF r)
def objF (m:List (Bs × F)):F:=.node [] 7 (rowF m) .nil
theorem rowF_count:∀ m:List (Bs × F),(∀ q∈m,q.2.one)→(rowF m).count=m.length
 | [],_=>rfl
 | q :: r,h=>by
  obtain ⟨_,_,_,_,e⟩:=setKey_flat q.1 q.2 (h q List.mem_cons_self)
  rw [rowF,F.count_app,e,rowF_count r (fun p hp=>h p (List.mem_cons_of_mem _ hp)),List.length_cons]
  omega
theorem rd_L_at (L:List (List S24)) (i:Nat) (x:List S24) (r:List (List S24)) (h:L.drop i=x :: r):rd_L3 L (i:Int)=x∧i<L.length∧L.drop (i+1)=r:=by
 have hi:i<L.length:=by
  have:=congrArg List.length h
  simp at this
  omega
 rw [List.drop_eq_getElem_cons hi] at h
 injection h with h1 h2
 refine ⟨?_,hi,h2⟩
 unfold rd_L3
 rw [Int.toNat_natCast,List.getD_eq_getElem?_getD,List.getElem?_eq_getElem hi]
 exact h1
theorem rd_K_at (L:List ByteArray) (i:Nat) (x:ByteArray) (r:List ByteArray) (h:L.drop i=x :: r):rdOf ByteArray.empty L (i:Int)=x∧i<L.length∧L.drop (i+1)=r:=by
 have hi:i<L.length:=by
  have:=congrArg List.length h
  simp at this
  omega
 rw [List.drop_eq_getElem_cons hi] at h
 injection h with h1 h2
 refine ⟨?_,hi,h2⟩
 unfold rdOf
 rw [Int.toNat_natCast,List.getD_eq_getElem?_getD,List.getElem?_eq_getElem hi]
 exact h1
theorem rd_mid (a:List S24) (x:S24) (r:List S24):rd_T24 (a++x :: r) (a.length:Int)=x:=by simp [rd_T24]
theorem set_mid (a:List S24) (x y:S24) (r:List S24):(a++x :: r).set ((a.length:Int)).toNat y=a++y :: r:=by
 rw [Int.toNat_natCast]
 simp
theorem made_obj (B:Nat) (all:List (Bs × F)) (hall:∀ q∈all,Tr 31 B q.2∧Lib.validD q.1=true∧q.1.length≤700000) (hB:B≤1000000) (hn:all.length≤10000):∀(rest:List (Bs × F)) (done:F) (i k1 k2:Nat),all.drop i=rest→done.flat.length≤i*B→14000000+2*rest.length+2≤k1→14000000+2*rest.length+2≤k2 →
  jsontext_made.l0 k1 7 (all.map fun q=>str q.1) ((⟨7,0,(all.length:Int),⟨#[]⟩,⟨#[]⟩⟩:S24) :: done.flat) (all.map fun q=>q.2.flat) (all.length:Int) (i:Int)=some ((⟨7,(((done.app (rowF rest)).flat.length+1:Nat):Int),(all.length:Int),⟨#[]⟩,⟨#[]⟩⟩:S24) :: (done.app (rowF rest)).flat) ∧
  racewayref25_Made.l0 k2 7 (all.map fun q=>str q.1) (all.map fun q=>q.2.flat) ((⟨7,0,(all.length:Int),⟨#[]⟩,⟨#[]⟩⟩:S24) :: done.flat) (i:Int)=some ((⟨7,(((done.app (rowF rest)).flat.length+1:Nat):Int),(all.length:Int),⟨#[]⟩,⟨#[]⟩⟩:S24) :: (done.app (rowF rest)).flat)
 | [],done,i,k1,k2,h,hd,hk1,hk2=>by
  have hi:all.length≤i:=List.drop_eq_nil_iff.1 h
  have e:(done.app (rowF [])).flat=done.flat:=by rw [rowF,F.flat_app];simp [F.flat]
  rw [e]
  have hL:((all.map fun q=>q.2.flat).length:Int)=(all.length:Int):=by simp
  obtain ⟨k1,rfl⟩:∃ k',k1=k'+1:=⟨k1 - 1,au0⟩
  obtain ⟨k2,rfl⟩:∃ k',k2=k'+1:=⟨k2 - 1,au0⟩
  refine ⟨?_,?_⟩
  ·rw [jsontext_made.l0,if_neg au0,if_pos au5]
   rfl
  ·rw [racewayref25_Made.l0,if_neg (by rw [hL];omega),if_pos au5]
   rfl
 | q :: rest,done,i,k1,k2,h,hd,hk1,hk2=>by
  simp only [List.length_cons] at hk1 hk2
  obtain ⟨k1,rfl⟩:∃ k',k1=k'+1:=⟨k1 - 1,au0⟩
  obtain ⟨k2,rfl⟩:∃ k',k2=k'+2:=⟨k2 - 2,au0⟩
  have hi:i<all.length:=by
   have:=congrArg List.length h
   simp at this
   omega
  have hq:q∈all:=by
   rw [List.drop_eq_getElem_cons hi] at h
   injection h with h1 _
   rw [← h1]
   exact List.getElem_mem hi
  have hr:all.drop (i+1)=rest:=by
   rw [List.drop_eq_getElem_cons hi] at h
   injection h
  obtain ⟨hT,hv,hkl⟩:=hall q hq
  obtain ⟨e1,e2,_⟩:=rd_L_at (all.map fun q=>q.2.flat) i q.2.flat (rest.map fun q=>q.2.flat) (by rw [← List.map_drop,h];rfl)
  obtain ⟨f1,f2,_⟩:=rd_K_at (all.map fun q=>str q.1) i (str q.1) (rest.map fun q=>str q.1) (by rw [← List.map_drop,h];rfl)
  have c1:=(hT.checks au0 hB k1 au0).1
  have c2:=(hT.checks au0 hB (k2+1) au0).2
  obtain ⟨x,tl,g1,g2,g3⟩:=setKey_flat q.1 q.2 hT.one
  have hBl:=hT.len
  have hmul:i*B≤10000*1000000:=Nat.mul_le_mul au0 hB
  have hd2:(done.app (F.setKey q.1 q.2)).flat.length≤(i+1)*B:=by
   rw [F.flat_app,List.length_append,g2,Nat.succ_mul]
   rw [g1] at hBl
   simp only [List.length_cons] at hBl ⊢
   omega
  obtain ⟨ih1,ih2⟩:=made_obj B all hall hB hn rest (done.app (F.setKey q.1 q.2)) (i+1) k1 k2 hr hd2 au0 au0
  have hrow:(done.app (rowF (q :: rest))).flat=((done.app (F.setKey q.1 q.2)).app (rowF rest)).flat:=by
   rw [rowF,F.flat_app,F.flat_app,F.flat_app,F.flat_app,List.append_assoc]
  rw [hrow]
  have a0:(i:Int)<(all.length:Int):=by omega
  have a1:(0:Int)≤(i:Int):=by omega
  have a2:(i:Int)<(((all.map fun q=>q.2.flat):List (List S24)).length:Int):=by omega
  have a3:(i:Int)<(((all.map fun q=>str q.1):List ByteArray).length:Int):=by omega
  have a4:((⟨7,0,(all.length:Int),⟨#[]⟩,⟨#[]⟩⟩:S24) :: done.flat).length+q.2.flat.length<2513169434916:=by simp only [List.length_cons];omega
  have hacc:((⟨7,0,(all.length:Int),⟨#[]⟩,⟨#[]⟩⟩:S24) :: (done.app (F.setKey q.1 q.2)).flat)=((⟨7,0,(all.length:Int),⟨#[]⟩,⟨#[]⟩⟩:S24) :: done.flat)++(⟨x.f0,x.f1,x.f2,str q.1,x.f4⟩:S24) :: tl:=by
   rw [F.flat_app,g2]
   rfl
  rw [hacc] at ih1 ih2
  generalize hA:((⟨7,0,(all.length:Int),⟨#[]⟩,⟨#[]⟩⟩:S24) :: done.flat)=A at *
  have b1:(0:Int)≤(A.length:Int):=by omega
  have b2:(A.length:Int)<((A++x :: tl).length:Int):=by simp only [List.length_append,List.length_cons];omega
  have hw:wrap64 ((i:Int)+1)=((i+1:Nat):Int):=by unfold wrap64;omega
  have v1:utf8_ValidString.f (str q.1)=some true:=by
   rw [utf8_ValidString.f,if_pos au25]
   exact congrArg some hv
  have v2:racewayref25_Valid.f (k2+1) (str q.1)=some true:=by
   rw [valid_is (str q.1) au25 (k2+1) au25]
   exact congrArg some hv
  refine ⟨?_,?_⟩
  ·rw [jsontext_made.l0,if_pos a0,if_pos a1,if_pos a2,e1,c1,Option.bind_some,if_pos rfl,if_pos a4,Option.bind_some,if_pos rfl,if_pos a3,f1,v1,Option.bind_some,if_pos rfl,if_pos b1,g1,if_pos b2,rd_mid,set_mid,hw]
   exact ih1
  ·rw [racewayref25_Made.l0,if_pos a2,if_pos a1,e1,c2,Option.bind_some,if_pos rfl,if_pos rfl,if_pos a3,f1,v2,Option.bind_some,racewayref25_Made.j2,if_neg au1,if_pos a1,if_pos a2,e1,if_pos a4,Option.bind_some,if_pos rfl,if_pos a3,if_pos b1,g1,if_pos b2,rd_mid,f1,set_mid,hw]
   exact ih2
theorem obj_made (B:Nat) (all:List (Bs × F)) (hall:∀ q∈all,Tr 31 B q.2∧Lib.validD q.1=true∧q.1.length≤700000) (hB:B≤1000000) (hn:all.length≤10000) (k:Nat) (hk:14100000≤k) :
  jsontext_Object.f k (all.map fun q=>str q.1) (all.map fun q=>q.2.flat)=some (objF all).flat∧racewayref25_Made.f k 7 (all.map fun q=>str q.1) (all.map fun q=>q.2.flat)=some (objF all).flat:=by
 have hcnt:=rowF_count all (fun q hq=>(hall q hq).1.one)
 have hfl:(objF all).flat=(⟨7,(((rowF all).flat.length+1:Nat):Int),(all.length:Int),⟨#[]⟩,⟨#[]⟩⟩:S24) :: (rowF all).flat:=by
  rw [objF,F.flat,hcnt]
  simp [F.flat]
  rfl
 obtain ⟨k,rfl⟩:∃ k',k=k'+1:=⟨k - 1,au0⟩
 have h1:=(made_obj B all hall hB hn all .nil 0 (k+1) k rfl au21 au0 au0).1
 have h2:=(made_obj B all hall hB hn all .nil 0 (k+1) k rfl au21 au0 au0).2
 have e:((F.nil).app (rowF all)).flat=(rowF all).flat:=rfl
 rw [e] at h1 h2
 rw [hfl]
 refine ⟨?_,?_⟩
 ·have hm:jsontext_made.f (k+1) 7 (all.map fun q=>str q.1) (all.map fun q=>q.2.flat)=some ((⟨7,(((rowF all).flat.length+1:Nat):Int),(all.length:Int),⟨#[]⟩,⟨#[]⟩⟩:S24) :: (rowF all).flat):=by
   unfold jsontext_made.f
   simp only [List.length_map]
   exact h1
  rw [jsontext_Object.f,if_pos au5,hm]
  rfl
 ·rw [racewayref25_Made.f,if_pos rfl,racewayref25_Made.j0,if_neg au5,List.length_map]
  exact h2
end Go.Proofs.YtjehflambbjoaaaDoor.Pure
namespace Go.Proofs.YtjehflambbjoaaaDoor.X
open Go.RowKit Go.Shelf Go.Proofs.YtjehflambbjoaaaDoorW.PrintWords Go.Proofs.YtjehflambbjoaaaDoorW.PrintMore
attribute [local go_sem] min2_int min_two
attribute [local go_sem] Oper.semAt_some
def pieceV (M o len i:Nat):Value:=.slice (some ⟨M,o+3*i,none⟩) (min 3 (len - 3*i)) (min 3 (len - 3*i))
def pieceN (len:Nat):Nat:=(len+2) / 3
theorem add_at3 (M o k:Nat):(⟨M,o,none⟩:Addr).add k=⟨M,o+k,none⟩:=by
 unfold Addr.add
 split
 ·rename_i h
  rw [h,Nat.add_zero]
 ·rfl
set_option maxHeartbeats 4000000 in
set_option maxRecDepth 100000 in
theorem pieces_in (F:Fence) (n:Nat) (hF:F.fn 56) (hro:F.round=none) (hn:1≤n) (l Bb Bn M o len cap:Nat) (hlc:len≤cap) (hmx:len≤1000000000) (J:Nat→World→Prop)
  (hJb:∀ i W v,J i W→J i (W.setCell ⟨Bb,0,none⟩ v))
  (hY:∀ i W,J i W→i<pieceN len→YieldAt F (n - 1) Tryd.prog l #[pieceV M o len i] W fun e W'=>e=.returned (.bool true)∧J (i+1) W'∧W'.heap[Bb]?=W.heap[Bb]?∧W'.heap[Bn]?=W.heap[Bn]?)
  (hbn:Bb≠Bn) (W:World) (A0:Option Addr) (hA0:0<len→A0=some ⟨M,o,none⟩) (hb:W.heap[Bb]?=some (.cells #[.slice A0 len cap] 59 (0,0))) (hc:W.heap[Bn]?=some (.cells #[.int .i64 3] 3 (0,0))) (h0:J 0 W) :
  CallsIn F n Tryd.prog 56 #[.func (.yield l) #[] #[],.pointer (some ⟨Bb,0,none⟩),.pointer (some ⟨Bn,0,none⟩)] W fun e W'=>(∃ v,e=.returned v)∧J (pieceN len) W':=by
 refine callsIn_of_wp Tryd.func56 rfl hF ?_ hro
 simp only [Tryd.ntmps56,List.size_toArray,List.length_cons,List.length_nil,Nat.reduceAdd,Nat.reduceSub,Array.replicate_succ,Array.replicate_zero,List.push_toArray,List.append_toArray,List.nil_append,List.cons_append]
 gi_wp2
 gi_loopw [] (fun wr=>∃(i:Nat) (A':Option Addr) (c':Nat),i≤pieceN len∧J i wr∧wr.heap[Bb]?=some (.cells #[.slice A' (len - 3*i) c'] 59 (0,0))∧wr.heap[Bn]?=some (.cells #[.int .i64 3] 3 (0,0))∧len - 3*i≤c'∧(i<pieceN len→A'=some ⟨M,o+3*i,none⟩))
  (fun wr=>match wr.cell? ⟨Bb,0,none⟩ with|some (.slice _ n _)=>n|_=>0)
 case atStart =>
  refine ⟨0,A0,cap,Nat.zero_le _,h0,hb,hc,hlc,fun h=>?_⟩
  unfold pieceN at h
  exact hA0 au0
 case round =>
  obtain ⟨i,A',c',hi,hJ,hb1,hc1,hlc1,hA⟩:=hrel
  have cb:wr.cell? ⟨Bb,0,none⟩=some (.slice A' (len - 3*i) c'):=by rw [blk_cell hb1];rfl
  have cn:wr.cell? ⟨Bn,0,none⟩=some (.int .i64 3):=by rw [blk_cell hc1];rfl
  by_cases hlt:i<pieceN len
  ·have hd:decide ((0:Int)<((len - 3*i:Nat):Int))=true:=by unfold pieceN at hlt;simp;omega
   obtain rfl:=hA hlt
   obtain ⟨fn,tmps,assign,body,hy,hR⟩:=hY i wr hJ hlt
   unfold pieceV at hy
   obtain ⟨K,hK⟩:∃ K,min 3 (len - 3*i)=K:=⟨_,rfl⟩
   rw [hK] at hy
   obtain ⟨R,hRe⟩:∃ R,len - 3*i=R:=⟨_,rfl⟩
   rw [hRe] at hK hlc1 cb hb1 hd
   have hdn:decide (0<R)=true:=by unfold pieceN at hlt;simp;omega
   have hK0:0<K∧K≤3∧K≤R:=by unfold pieceN at hlt;omega
   have hRb:R≤1000000000:=by omega
   have hkI:(K:Int)≤(c':Int):=by omega
   have hmin:(if(R:Int)<3 then(R:Int) else 3)=(K:Int):=by split<;>omega
   have hs1:∀ W,(Instr.sliceAt 59 (.slice (some ⟨M,o+3*i,none⟩) R c') none (some (.int .i64 (K:Int))) (some (.int .i64 (K:Int)))).run Tryd.prog W=.ok (.slice (some ⟨M,o+3*i,none⟩) K K) W:=by
    intro W
    rw [run_sliceAt_slice (P:=Tryd.prog) W 59 _ _ _ _ Tryd.underlying59,run_slice_hm (P:=Tryd.prog) W 59 (some ⟨M,o+3*i,none⟩) R c' Tryd.underlying59 .i64 .i64 (K:Int) (K:Int) au0 au0 hkI]
    rw [show ∀ W,(sizeOf (Tryd.prog.elem 59)).run Tryd.prog W=.ok 1 W from fun W=>by kernel_rfl]
    simp only [Result.andThen,sliced,Int.toNat_natCast,Nat.zero_mul,Nat.sub_zero,Option.map_some,add_at3,Nat.add_zero]
    split<;>rfl
   obtain ⟨A2,hA2⟩:∃ A2:Option Addr,A2=if c'=K then some ⟨M,o+3*i,none⟩ else some ⟨M,o+3*i+K,none⟩:=⟨_,rfl⟩
   have hs2:∀ W,(Instr.sliceAt 59 (.slice (some ⟨M,o+3*i,none⟩) R c') (some (.int .i64 (K:Int))) none none).run Tryd.prog W=.ok (.slice A2 (R - K) (c' - K)) W:=by
    intro W
    rw [run_sliceAt_slice (P:=Tryd.prog) W 59 _ _ _ _ Tryd.underlying59,run_slice_l (P:=Tryd.prog) W 59 (some ⟨M,o+3*i,none⟩) R c' Tryd.underlying59 .i64 (K:Int) au0 au0]
    rw [show ∀ W,(sizeOf (Tryd.prog.elem 59)).run Tryd.prog W=.ok 1 W from fun W=>by kernel_rfl]
    simp only [Result.andThen,sliced,Int.toNat_natCast,Nat.mul_one,Option.map_some,add_at3]
    rw [hA2]
   have HA2:=Lib.hid hA2
   have HB1:=Lib.hid hb1
   have HC1:=Lib.hid hc1
   have HK:=Lib.hid hK
   have HRe:=Lib.hid hRe
   clear hA2 hb1 hc1 hK hRe hA hb hc cb cn hK0
   have cb:wr.cell? ⟨Bb,0,none⟩=some (.slice (some ⟨M,o+3*i,none⟩) R c'):=by rw [blk_cell HB1.out];rfl
   have cn:wr.cell? ⟨Bn,0,none⟩=some (.int .i64 3):=by rw [blk_cell HC1.out];rfl
   gi_wp2
   refine hR.mono ?_
   rintro e W1 ⟨rfl,hJ1,hB1,hC1⟩
   have hb2:W1.heap[Bb]?=some (.cells #[.slice (some ⟨M,o+3*i,none⟩) R c'] 59 (0,0)):=hB1.trans HB1.out
   have hc2:W1.heap[Bn]?=some (.cells #[.int .i64 3] 3 (0,0)):=hC1.trans HC1.out
   have cb1:W1.cell? ⟨Bb,0,none⟩=some (.slice (some ⟨M,o+3*i,none⟩) R c'):=by rw [blk_cell hb2];rfl
   have fb1:W1.frozen? ⟨Bb,0,none⟩=false:=blk_frozen hb2 _
   have hb3:(W1.setCell ⟨Bb,0,none⟩ (.slice A2 (R - K) (c' - K))).heap[Bb]?=some (.cells #[.slice A2 (R - K) (c' - K)] 59 (0,0)):=blk_set (cs:=#[_]) hb2 0 _
   have hc3:(W1.setCell ⟨Bb,0,none⟩ (.slice A2 (R - K) (c' - K))).heap[Bn]?=some (.cells #[.int .i64 3] 3 (0,0)):=(Below.heap_setCell _ _ _ Bn (fun e=>hbn e.symm)).trans hc2
   have hJ3:=hJb (i+1) W1 (.slice A2 (R - K) (c' - K)) hJ1
   have H1:=Lib.hid hb3
   have H2:=Lib.hid hc3
   have H3:=Lib.hid hJ3
   clear hb3 hc3 hJ3 hB1 hC1 hb2 hc2 hJ1 hJ cb cn
   gi_wp2
   go_roundw
   case rel =>
    have hN:pieceN len=(len+2) / 3:=rfl
    have hKq:=HK.out
    have hRq:=HRe.out
    refine ⟨i+1,A2,c' - K,hlt,H3.out,?_,H2.out,?_,fun hl=>?_⟩
    ·rw [show len - 3*(i+1)=R - K by omega]
     exact H1.out
    ·omega
    ·rw [HA2.out,if_neg au0,show o+3*i+K=o+3*(i+1) by omega]
   case measure =>
    have hcl:(W1.setCell ⟨Bb,0,none⟩ (.slice A2 (R - K) (c' - K))).cell? ⟨Bb,0,none⟩=some (.slice A2 (R - K) (c' - K)):=by rw [blk_cell H1.out];rfl
    have hcw:wr.cell? ⟨Bb,0,none⟩=some (.slice (some ⟨M,o+3*i,none⟩) R c'):=by rw [blk_cell HB1.out];rfl
    rw [hcl,hcw]
    have hKq:=HK.out
    have hRq:=HRe.out
    have hN:pieceN len=(len+2) / 3:=rfl
    show R - K<R
    omega
  ·have hR0:len - 3*i=0:=by unfold pieceN at hlt hi;omega
   rw [hR0] at cb
   have hie:i=pieceN len:=by omega
   have HJ:=Lib.hid hJ
   have HI:=Lib.hid hie
   clear hJ hie hb1 hc1 hlt hi hA hR0
   gi_wp2
   go_end0
   exact ⟨⟨_,rfl⟩,by rw [← HI.out];exact HJ.out⟩
end Go.Proofs.YtjehflambbjoaaaDoor.X
namespace Go.Proofs.YtjehflambbjoaaaDoor.X
open Go.RowKit Go.Shelf Go.Proofs.YtjehflambbjoaaaDoorW.PrintWords Go.Proofs.YtjehflambbjoaaaDoorW.PrintMore
set_option maxHeartbeats 2000000 in
theorem pieces_calls (A0:Option Addr) (len cap:Nat) (w:World) :
  Calls Tryd.prog 44 #[.slice A0 len cap,.int .i64 3] w fun e w'=>e=.returned (.func (.func 56) #[] #[.pointer (some ⟨w.heap.size,0,none⟩),.pointer (some ⟨w.heap.size+1,0,none⟩)])∧w'=(w.alloc (.cells #[.slice A0 len cap] 59 (0,0))).alloc (.cells #[.int .i64 3] 3 (0,0)):=by
 go_enter Tryd.func44,Tryd.ntmps44
 go_wp2
 go_ret
 exact ⟨rfl,rfl⟩
def roundEnd (Bb Bn:Nat) (I:Nat→World→Prop) (i:Nat) (W:World):Exit→Act→World→Prop
 | .normal,_,W'=>KeepsOthers W W'∧W'.heap[Bb]?=W.heap[Bb]?∧W'.heap[Bn]?=W.heap[Bn]?∧I (i+1) W'
 | _,_,_=>False
theorem range_pieces {g:Operand} {ps:Array Tmp} {assign body:Code} {Q:Exit→Act→World→Prop} {a:Act} {w:World} {n:Nat} (h3:3≤n) (hps:ps.size=1)
  (Bb Bn M o len cap:Nat) (hlc:len≤cap) (hmx:len≤1000000000) (hbn:Bb≠Bn) (hg:a.eval g=.func (.func 56) #[] #[.pointer (some ⟨Bb,0,none⟩),.pointer (some ⟨Bn,0,none⟩)])
  (A0:Option Addr) (hA0:0<len→A0=some ⟨M,o,none⟩) (hb:w.heap[Bb]?=some (.cells #[.slice A0 len cap] 59 (0,0))) (hc:w.heap[Bn]?=some (.cells #[.int .i64 3] 3 (0,0)))
  (I:Nat→World→Prop) (hI:OwnFrom w.heap.size I) (hIb:∀ i W v,I i W→I i (W.setCell ⟨Bb,0,none⟩ v)) (h0:I 0 w) (a₁:Nat→Act)
  (hassign:∀(l i:Nat) (W:World) (K:Act→World→Prop),K (a₁ i) W →
   assign.wpIn (Fence.wide.inRound l) (n - 1 - 1) Tryd.prog (Exit.then K (fun _ _ _=>False)) { tmps:=(ps.zip #[pieceV M o len i]).foldl (fun t (p,v)=>t.setIfInBounds p v) a.tmps,defers:=[] } W)
  (hbody:∀(l i:Nat) (W:World),I i W→i<pieceN len→body.wpIn (Fence.wide.inRound l) (n - 1 - 1) Tryd.prog (roundEnd Bb Bn I i W) (a₁ i) W)
  (hdone:∀(W:World),I (pieceN len) W→W.heap[w.heap.size]?=some (.deferred (some []))→Q .normal { a with defers:={ target:=.collected w.heap.size,args:=#[] } :: a.defers } W) :
  (Code.rangeFunc g ps assign body).wpIn Fence.wide n Tryd.prog Q a w:=by
 have hBb:Bb<w.heap.size:=(Array.getElem?_eq_some_iff.mp hb).1
 have hBn:Bn<w.heap.size:=(Array.getElem?_eq_some_iff.mp hc).1
 have eg:∀ args w,(callFunc 56 args).run Tryd.prog w=.ok (.enter 56 args) w:=enters_of Tryd.func56 au2 rfl
 refine wpIn_rangeFunc fun fn hfn=>?_
 obtain ⟨rec,hrec⟩:∃ rec:LoopState→Loop,rec=fun st=>{ state:=st,pending:=none,fn,tmps:=a.tmps,params:=ps,assign,body,defers:=w.heap.size }:=⟨_,rfl⟩
 obtain ⟨W1,hW1⟩:∃ W1,(w.alloc (.deferred (some []))).alloc (.loop (rec .ready))=W1:=⟨_,rfl⟩
 have hsz:(w.alloc (.deferred (some []))).heap.size=w.heap.size+1:=World.size_alloc _ _
 have hL1:W1.heap[w.heap.size+1]?=some (.loop (rec .ready)):=by
  rw [← hW1,← hsz];exact heap_alloc_new _ _
 have hD1:W1.heap[w.heap.size]?=some (.deferred (some [])):=by
  rw [← hW1];exact(Below.heap_alloc _ _ _ au0).trans (heap_alloc_new w _)
 have hI1:I 0 W1:=by rw [← hW1];exact hI.alloc _ (hI.alloc _ h0)
 have hbel:Below w.heap.size w W1:=by rw [← hW1];exact((Below.refl _ w).alloc (Nat.le_refl _) _).alloc au0 _
 refine ⟨w.heap.size+1,[{ target:=.collected w.heap.size,args:=#[] }],W1,{ target:=.fn (.func 56) #[.pointer (some ⟨Bb,0,none⟩),.pointer (some ⟨Bn,0,none⟩)],args:=#[.func (.yield (w.heap.size+1)) #[] #[]] },W1,56,
  #[.func (.yield (w.heap.size+1)) #[] #[],.pointer (some ⟨Bb,0,none⟩),.pointer (some ⟨Bn,0,none⟩)],W1,?_,?_,fun _ _=>trivial,?_,fun _=>by omega,?_⟩
 ·rw [← hW1,hrec];exact run_enterLoop_outer _ _ _ _ _
 ·simp only [resolve,hg]
  simp [go_sem]
 ·simp [invoke,go_sem,eg]
 ·refine(pieces_in Fence.wide (n - 1) trivial rfl au0 (w.heap.size+1) Bb Bn M o len cap hlc hmx
   (fun i W=>I i W∧W.heap[w.heap.size+1]?=some (.loop (rec .ready))∧W.heap[w.heap.size]?=some (.deferred (some [])))
   (fun i W v h=>⟨hIb i W v h.1,(Below.heap_setCell _ _ _ _ (by show _≠Bb;omega)).trans h.2.1,(Below.heap_setCell _ _ _ _ (by show _≠Bb;omega)).trans h.2.2⟩)
   ?_ hbn W1 A0 hA0 ((hbel.block _ hBb).trans hb) ((hbel.block _ hBn).trans hc) ⟨hI1,hL1,hD1⟩).mono ?_
  ·rintro i W ⟨hi,hl,hd⟩ hlt
   have hlz:w.heap.size+1<W.heap.size:=(Array.getElem?_eq_some_iff.1 hl).1
   have hy:=run_yield (P:=Tryd.prog) (args:=#[pieceV M o len i]) hl (by rw [hrec];exact hps.symm)
   rw [hrec] at hy
   refine ⟨fn,_,assign,body,hy,roundIn_of_wpIn hfn (hassign _ i W _ ⟨_,run_beginRound hl (by rw [hrec]),?_⟩)⟩
   have hl2:(W.putObj (w.heap.size+1) (.loop { rec .ready with state:=.busy })).heap[w.heap.size+1]?=some (.loop { rec .ready with state:=.busy }):=World.putObj_heap_same hlz
   have hd2:(W.putObj (w.heap.size+1) (.loop { rec .ready with state:=.busy })).heap[w.heap.size]?=some (.deferred (some [])):=(World.putObj_heap_other au0).trans hd
   refine wpIn_mono (hbody _ i _ (hI.putObj _ hi au0 hl rfl) hlt) ?_
   rintro e a3 W3 hp
   cases e with
   | normal =>
    obtain ⟨hk3,hB3,hC3,hi3⟩:=hp
    have hl3:=hk3.same _ _ hl2 rfl
    have hr:=run_endRound (P:=Tryd.prog) none hl3
    refine ⟨_,_,hr,rfl,⟨hI.putObj _ hi3 au0 hl3 rfl,?_,?_⟩,?_,?_⟩
    ·rw [World.putObj_heap_same (Array.getElem?_eq_some_iff.1 hl3).1,hrec]
     rfl
    ·exact(World.putObj_heap_other au0).trans (hk3.same _ _ hd2 rfl)
    ·exact(World.putObj_heap_other au0).trans (hB3.trans (World.putObj_heap_other au0))
    ·exact(World.putObj_heap_other au0).trans (hC3.trans (World.putObj_heap_other au0))
   | ret=>exact hp.elim
   | exit id=>exact hp.elim
   | goto t=>exact hp.elim
   | panic ch=>exact hp.elim
   | outgrown=>exact hp.elim
  ·rintro e W2 ⟨⟨v,rfl⟩,hi,hl,hd⟩
   have he:=run_endLoop (P:=Tryd.prog) hl (by rw [hrec];simp)
   have hpn:(rec .ready).pending=none:=by rw [hrec]
   rw [hpn] at he
   refine ⟨none,_,he,hdone _ (hI.putObj _ hi au0 hl rfl) ((World.putObj_heap_other au0).trans hd)⟩
end Go.Proofs.YtjehflambbjoaaaDoor.X
namespace Go.Proofs.YtjehflambbjoaaaDoor.X
open Go.RowKit Go.Shelf Go.Proofs.YtjehflambbjoaaaDoorW.PrintWords Go.Proofs.YtjehflambbjoaaaDoorW.PrintLast Go.Proofs.YtjehflambbjoaaaDoorW.PrintMore
attribute [local go_sem] Oper.semAt_some
theorem C_int {k:IntKind} {w:World} {A:Option Addr} {n:Nat} {l:List Int} (h:Kd.C (Kd.int k) w A n l) (hn:0<n):∃ ad,A=some ad∧∀(j:Nat) x,l[j]?=some x→w.cell? (ad.add j)=some (.int k x):=by
 obtain ⟨hl,_,hc0⟩:=h
 obtain ⟨ad,rfl,hc⟩:=hc0 hn
 refine ⟨ad,rfl,fun j x hx=>?_⟩
 obtain ⟨c,_,hk,hcell⟩:=hc j x hx
 have hk':c=[Value.int k x]:=hk
 subst hk'
 have:=hcell 0 (.int k x) rfl
 have e:j*(Kd.int k).sz+0=j:=by show j*1+0=j;omega
 rw [e] at this
 exact this
def signB (x:Int):UInt8:=([65,66,67,68,69,70,71,72,73,74,75,76,77,78,79,80,81,82,83,84,85,86,87,88,89,90,97,98,99,100,101,102,103,104,105,106,107,108,109,110,111,112,113,114,115,116,117,118,119,120,121,122,48,49,50,51,52,53,54,55,56,57,43,47]:List UInt8).getD x.toNat 0
def fourL (p:List Int):List Int:=[p.getD 0 0 / 4,p.getD 0 0 % 4*16+p.getD 1 0 / 16,p.getD 1 0 % 16*4+p.getD 2 0 / 64,p.getD 2 0 % 64]
def encP (p:List Int):List UInt8:=(List.range 4).map fun i=>if p.length<i then 61 else signB ((fourL p).getD i 0)
def encL (l:List Int) (i:Nat):List UInt8:=(List.range i).flatMap fun j=>encP ((l.drop (3*j)).take 3)
theorem encL_succ (l:List Int) (i:Nat):encL l (i+1)=encL l i++encP ((l.drop (3*i)).take 3):=by
 unfold encL
 rw [List.range_succ,List.flatMap_append]
 simp
theorem encP_len (p:List Int):(encP p).length=4:=by unfold encP;simp
theorem encL_len (l:List Int):∀ i,(encL l i).length=4*i
 | 0=>rfl
 | i+1=>by rw [encL_succ,List.length_append,encL_len l i,encP_len];omega
theorem and3_u8 (x:Int) (h0:0≤x) (h1:x<256):bits .and .u8 x 3=x % 4:=bits_mask .u8 8 au1 wraps_u8 2 au1 x h0 h1
theorem or_u8 (a b:Nat) (ha:a<256) (hb:b<256):bits .or .u8 (a:Int) (b:Int)=((a ||| b:Nat):Int) :=
 (bits_nat .u8 8 au1 wraps_u8 a b ha hb).2
theorem join4_u8 (x y:Int) (hx:0≤x) (hx1:x<16) (hy:0≤y) (hy1:y<16):bits .or .u8 (x*16) y=x*16+y:=by
 obtain ⟨a,rfl⟩:=Int.eq_ofNat_of_zero_le hx
 obtain ⟨b,rfl⟩:=Int.eq_ofNat_of_zero_le hy
 have e:((a:Int)*16)=((2 ^ 4*a:Nat):Int):=by omega
 rw [e,or_u8 _ _ au0 au0,← Nat.two_pow_add_eq_or_of_lt au0]
 omega
theorem join2_u8 (x y:Int) (hx:0≤x) (hx1:x<64) (hy:0≤y) (hy1:y<4):bits .or .u8 (x*4) y=x*4+y:=by
 obtain ⟨a,rfl⟩:=Int.eq_ofNat_of_zero_le hx
 obtain ⟨b,rfl⟩:=Int.eq_ofNat_of_zero_le hy
 have e:((a:Int)*4)=((2 ^ 2*a:Nat):Int):=by omega
 rw [e,or_u8 _ _ au0 au0,← Nat.two_pow_add_eq_or_of_lt au0]
 omega
theorem wpListIn_copy_own {F:Fence} {n:Nat} {P:Program} {w:World} {ops:Array Oper} {rest:List Oper} {o:Oper} {a:Act} {Q:Exit→Act→World→Prop} (hgd:o.guard=none) (d s:Operand) (dT sT:TypeId)
  (ho:o.op=.call { callee:=.builtin .copy,args:=#[d,s],argTypes:=#[dT,sT] }) (elem:TypeId) (hu:P.underlying dT=some (.slice elem)) (hsz:(P.info? elem).map (·.size)=some 1)
  (g off dLen dCap:Nat) (ad:Addr) (sLen sCap:Nat) (hd:a.eval d=.slice (some ⟨g,off,none⟩) dLen dCap) (hs:a.eval s=.slice (some ad) sLen sCap)
  (cur:Array Value) (t:TypeId) (hg:w.heap[g]?=some (.cells cur t (0,0))) (cs:List Value) (hn:cs.length=Nat.min sLen dLen)
  (hsrc:∀ j v,cs[j]?=some v→w.cell? (ad.add j)=some v) (hfit:off+cs.length≤cur.size) (h1:∀ v∈cs,v.oneCell'=true)
  (h:wpListIn F n P ops Q rest (a.put o.dst (goInt cs.length)) (w.setRow g (cur.toList.take off++(cs++cur.toList.drop (off+cs.length))).toArray)):wpListIn F n P ops Q (o :: rest) a w:=by
 refine wpListIn_plain hgd fun K hK=>?_
 have hrun:=run_copy_row (P:=P) w dT sT o.type elem g off dLen dCap ad sLen sCap cur t cs hu hsz hg hn hsrc hfit h1
 unfold Oper.wpIn
 refine ⟨?_,?_⟩
 ·simp [Oper.about,ho,resolve,Target.leads,Sem.run_pure]
 ·rw [Oper.semAt_plain F _ _ (by rw [ho];intro c hc';cases hc')]
  simp [execOp,ho,resolve,invoke,builtin,hd,hs,hrun,Result.andThen]
  exact hK _ _ h
theorem isBuilder_move {T e:TypeId} {B b:Nat} {bs:List Value} {w w':World} (h:Lib.IsBuilder T e B b bs w) (hk:∀ k o,w.heap[k]?=some o→(k=b∨∃ c,o=.cells c e (0,0))→w'.heap[k]?=some o):Lib.IsBuilder T e B b bs w':=by
 have key:∀ p,Lib.BuilderAt T e B b p bs w→Lib.BuilderAt T e B b p bs w':=by
  rintro p ⟨hB,v,hb,⟨hl,hr⟩,hne⟩
  refine ⟨hB,v,hk b _ hb (.inl rfl),⟨hl,?_⟩,hne⟩
  rcases hr with hr|⟨g,cap,cur,hv,hBg,hg,rest⟩
  ·exact .inl hr
  ·exact .inr ⟨g,cap,cur,hv,hBg,hk g _ hg (.inr ⟨_,rfl⟩),rest⟩
 exact h.imp (key _) (key _)
def EncI (w:World) (l:List Int) (i:Nat) (W:World):Prop :=
 Lib.IsBuilder 64 5 w.heap.size w.heap.size (Lib.byteCells (encL l i)) W∧Below w.heap.size w W∧w.heap.size+2<W.heap.size∧(∃ c,W.heap[w.heap.size+1]?=some (.cells c 59 (0,0)))∧∃ c,W.heap[w.heap.size+2]?=some (.cells c 3 (0,0))
theorem EncI.own (w:World) (l:List Int) (D:Nat) (hD:w.heap.size≤D):OwnFrom D (EncI w l):=by
 rintro i W W' row ⟨h1,h2,h3,⟨c,h4⟩,c',h5⟩ hg hr
 have hcell:∀(k:Nat) (o:Obj),W.heap[k]?=some o→o.isCells=true→W'.heap[k]?=some o:=by
  intro k o hk ho
  refine(hg.block k (Array.getElem?_eq_some_iff.mp hk).1 ?_).trans hk
  rintro rfl
  obtain ⟨_,o',ho',hc'⟩:=hr k rfl
  rw [hk] at ho'
  cases ho'
  rw [ho] at hc'
  cases hc'
 refine ⟨isBuilder_move h1 (fun k o hk h=>hcell k o hk ?_),h2.grown hg h2.size (fun k e=>Nat.le_trans hD (hr k e).1),Nat.lt_of_lt_of_le h3 hg.size,⟨c,hcell _ _ h4 rfl⟩,c',hcell _ _ h5 rfl⟩
 rcases h with rfl|⟨c',rfl⟩
 ·rcases h1 with ⟨_,v,hb,_⟩|⟨_,v,hb,_⟩
  ·rw [hk] at hb;cases hb;rfl
  ·rw [hk] at hb;cases hb;rfl
 ·rfl
theorem EncI.box {w:World} {l:List Int} {i:Nat} {W:World} (h:EncI w l i W) (v:Value):EncI w l i (W.setCell ⟨w.heap.size+1,0,none⟩ v):=by
 obtain ⟨h1,h2,h3,⟨c,h4⟩,c',h5⟩:=h
 refine ⟨isBuilder_move h1 (fun k o hk h=>(Below.heap_setCell _ _ _ k ?_).trans hk),h2.setCell (p:=⟨w.heap.size+1,0,none⟩) (by show _≤w.heap.size+1;omega) _,?_,⟨_,blk_set h4 0 v⟩,_,(Below.heap_setCell _ _ _ _ (by show _≠w.heap.size+1;omega)).trans h5⟩
 ·show k≠w.heap.size+1
  rintro rfl
  rcases h with h|⟨c',rfl⟩
  ·omega
  ·rw [hk] at h4
   cases h4
 ·simpa [World.setCell] using h3
theorem EncI.below {w:World} {l:List Int} {i:Nat} {W W':World} (h:EncI w l i W) (hb:Below W.heap.size W W'):EncI w l i W':=by
 obtain ⟨h1,h2,h3,⟨c,h4⟩,c',h5⟩:=h
 exact ⟨isBuilder_move h1 (fun k o hk _=>(hb.block k (Array.getElem?_eq_some_iff.mp hk).1).trans hk),h2.trans (hb.mono h2.size),Nat.lt_of_lt_of_le h3 hb.size,⟨c,(hb.block _ (Array.getElem?_eq_some_iff.mp h4).1).trans h4⟩,c',(hb.block _ (Array.getElem?_eq_some_iff.mp h5).1).trans h5⟩
theorem keeps_below {W W':World} (hb:Below W.heap.size W W'):KeepsOthers W W':=⟨hb.size,fun k o hk _=>(hb.block k (Array.getElem?_eq_some_iff.mp hk).1).trans hk⟩
theorem keeps_spare {b:Nat} {w w':World} (h:Spare b w w') (hs:w.heap.size≤w'.heap.size) {c:Array Value} {t:TypeId} (hb:w.heap[b]?=some (.cells c t (0,0))):KeepsOthers w w':=by
 refine ⟨hs,fun k o hk ho=>h k o hk (fun c' e=>by subst e;cases ho) ?_⟩
 rintro rfl
 rw [hb] at hk
 cases hk
 cases ho
theorem isBuilder_blk {T e:TypeId} {B b:Nat} {bs:List Value} {w:World} (h:Lib.IsBuilder T e B b bs w):B≤b∧∃ c,w.heap[b]?=some (.cells c T (0,0)):=by
 rcases h with ⟨hB,v,hb,_⟩|⟨hB,v,hb,_⟩
 ·exact ⟨hB,_,hb⟩
 ·exact ⟨hB,_,hb⟩
def EncJ (w:World) (l:List Int) (i:Nat) (q:List UInt8) (W wr:World):Prop :=
 Lib.IsBuilder 64 5 w.heap.size w.heap.size (Lib.byteCells (encL l i++q)) wr∧Below w.heap.size w wr∧KeepsOthers W wr∧wr.heap[w.heap.size+1]?=W.heap[w.heap.size+1]?∧wr.heap[w.heap.size+2]?=W.heap[w.heap.size+2]?
theorem encJ_byte {w:World} {l:List Int} {i:Nat} {q:List UInt8} {W wr:World} {c d:Array Value} (hc:W.heap[w.heap.size+1]?=some (.cells c 59 (0,0))) (hd:W.heap[w.heap.size+2]?=some (.cells d 3 (0,0)))
  (h:EncJ w l i q W wr) (hl:4*i+q.length+1≤140737488355328) (x:UInt8) :
  Calls Tryd.prog 45 #[.pointer (some ⟨w.heap.size,0,none⟩),.int .u8 (x.toNat:Int)] wr fun e w'=>(∃ y,e=.returned y)∧EncJ w l i (q++[x]) W w':=by
 obtain ⟨h1,h2,h3,h4,h5⟩:=h
 refine(writeByte_spare w.heap.size w.heap.size _ x wr h1 (by rw [List.length_append,encL_len];omega) h2.size).mono ?_
 rintro e w' ⟨hy,hb,hbl,hsp⟩
 obtain ⟨hB,cc,hcc⟩:=isBuilder_blk h1
 exact ⟨hy,by rw [← List.append_assoc];exact hb,h2.trans hbl,h3.trans (keeps_spare hsp hbl.size hcc),(hsp.cells (h4.trans hc) au1 au0).trans hc.symm,(hsp.cells (h5.trans hd) au1 au0).trans hd.symm⟩
theorem getD_at (x0 x1 x2 x3:Int) (j:Nat) (hj:j<4) (W:World):(Instr.index 81 (.agg #[.int .u8 x0,.int .u8 x1,.int .u8 x2,.int .u8 x3]) (.int .i64 (j:Int))).run Tryd.prog W=.ok (.int .u8 ([x0,x1,x2,x3].getD j 0)) W:=by
 rcases (show j=0∨j=1∨j=2∨j=3 by omega) with rfl|rfl|rfl|rfl<;>kernel_rfl
theorem sign_at (x:Int) (h0:0≤x) (h1:x<64) (W:World):(Instr.index 9 (.string ⟨#[65,66,67,68,69,70,71,72,73,74,75,76,77,78,79,80,81,82,83,84,85,86,87,88,89,90,97,98,99,100,101,102,103,104,105,106,107,108,109,110,111,112,113,114,115,116,117,118,119,120,121,122,48,49,50,51,52,53,54,55,56,57,43,47]⟩) (.int .u8 x)).run Tryd.prog W=.ok (.int .u8 ((signB x).toNat:Int)) W:=by
 obtain ⟨m,rfl⟩:=Int.eq_ofNat_of_zero_le h0
 rcases (show m=0∨m=1∨m=2∨m=3∨m=4∨m=5∨m=6∨m=7∨m=8∨m=9∨m=10∨m=11∨m=12∨m=13∨m=14∨m=15∨m=16∨m=17∨m=18∨m=19∨m=20∨m=21∨m=22∨m=23∨m=24∨m=25∨m=26∨m=27∨m=28∨m=29∨m=30∨m=31∨m=32∨m=33∨m=34∨m=35∨m=36∨m=37∨m=38∨m=39∨m=40∨m=41∨m=42∨m=43∨m=44∨m=45∨m=46∨m=47∨m=48∨m=49∨m=50∨m=51∨m=52∨m=53∨m=54∨m=55∨m=56∨m=57∨m=58∨m=59∨m=60∨m=61∨m=62∨m=63 by omega) with rfl|rfl|rfl|rfl|rfl|rfl|rfl|rfl|rfl|rfl|rfl|rfl|rfl|rfl|rfl|rfl|rfl|rfl|rfl|rfl|rfl|rfl|rfl|rfl|rfl|rfl|rfl|rfl|rfl|rfl|rfl|rfl|rfl|rfl|rfl|rfl|rfl|rfl|rfl|rfl|rfl|rfl|rfl|rfl|rfl|rfl|rfl|rfl|rfl|rfl|rfl|rfl|rfl|rfl|rfl|rfl|rfl|rfl|rfl|rfl|rfl|rfl|rfl|rfl<;>kernel_rfl
def encFrame (A0:Option Addr) (len c0 N:Nat) (pv:Value):Act :=
 { tmps:=#[.slice A0 len c0,undef,.string ⟨#[]⟩,.pointer (some ⟨N,0,none⟩),pv,undef,undef,undef,undef,undef,.slice A0 len c0,.func (.func 56) #[] #[.pointer (some ⟨N+1,0,none⟩),.pointer (some ⟨N+2,0,none⟩)],pv,undef,undef,undef,undef,undef,undef,undef,undef,undef,undef,undef,undef,undef,undef,undef,undef,undef,undef,undef,undef,undef,undef,undef,undef,undef,undef,undef,undef,undef,undef,undef,undef,undef,undef,undef,undef,undef,undef,undef,undef],defers:=[] }
theorem bytes_plain {w:World} {A:Option Addr} {n:Nat} {l:List Int} (h:Kd.C (Kd.int .u8) w A n l) (hn:n=l.length) :
  ∃ M o,(0<l.length→A=some ⟨M,o,none⟩)∧∀(j:Nat) x,l[j]?=some x→M<w.heap.size∧w.cell? ⟨M,o+j,none⟩=some (.int .u8 x):=by
 by_cases h0:0<n
 ·obtain ⟨⟨bk,o,sp⟩,rfl,hc⟩:=C_int h h0
  have k0:=hc 0 _ (List.getElem?_eq_getElem au0)
  simp only [Addr.add,if_pos] at k0
  have hb:bk<w.heap.size∧sp=none:=by
   unfold World.cell? at k0
   simp only at k0
   split at k0
   ·rename_i hh
    refine ⟨(Array.getElem?_eq_some_iff.mp hh).1,?_⟩
    cases sp with
    | none=>rfl
    | some v=>simp at k0
   ·simp at k0
  obtain ⟨hb,rfl⟩:=hb
  exact ⟨bk,o,fun _=>rfl,fun j x hx=>⟨hb,by have:=hc j x hx;rwa [add_at3] at this⟩⟩
 ·have:l=[]:=List.eq_nil_of_length_eq_zero au0
  subst this
  exact ⟨0,0,fun h=>absurd h au5,fun j x hx=>by simp at hx⟩
def basic_Encode.f (l:List Int):Option ByteArray:=if l.length≤1000000∧(∀ x∈l,0≤x∧x<256) then some ⟨(encL l (pieceN l.length)).toArray⟩ else none
set_option maxHeartbeats 8000000 in
set_option maxRecDepth 100000 in
theorem basic_Encode.calls (A0:Option Addr) (c0:Nat) (l0:List Int) (r:ByteArray) (w:World) (hr0:Kd.C (Kd.int .u8) w A0 l0.length l0) (hc0:l0.length≤c0) (h:basic_Encode.f l0=some r) :
  Calls Tryd.prog 30 #[.slice A0 l0.length c0] w fun e w'=>e=.returned (.string r)∧Below w.heap.size w w':=by
 unfold basic_Encode.f at h
 split at h
 ·rename_i hh
  obtain ⟨hl,hb8⟩:=hh
  obtain rfl:=Option.some.inj h
  clear h
  have HR:=Lib.hid hr0
  clear hr0
  refine(callsIn_wide (n:=6)).1 ?_
  refine callsIn_of_wp_marks Tryd.func30 rfl trivial ?_ rfl
  simp only [Tryd.ntmps30,List.size_toArray,List.length_cons,List.length_nil,Nat.reduceAdd,Nat.reduceSub,Array.replicate_succ,Array.replicate_zero,List.push_toArray,List.append_toArray,List.nil_append,List.cons_append]
  gi_wp2_with (refine ⟨trivial,?_⟩;gi_at_call 44;refine(callsIn_wide.2 (pieces_calls A0 l0.length c0 _)).mono ?_;rintro e w1 ⟨rfl,rfl⟩)
  obtain ⟨M,o,hA,hcl⟩:=bytes_plain HR.out rfl
  obtain ⟨wB,hwB⟩:∃ x,((w.alloc (.cells #[.pointer none,.slice none 0 0] 64 (0,0))).alloc (.cells #[.slice A0 l0.length c0] 59 (0,0))).alloc (.cells #[.int .i64 3] 3 (0,0))=x:=⟨_,rfl⟩
  have hsA:(w.alloc (.cells #[.pointer none,.slice none 0 0] 64 (0,0))).heap.size=w.heap.size+1:=World.size_alloc _ _
  have hsB:((w.alloc (.cells #[.pointer none,.slice none 0 0] 64 (0,0))).alloc (.cells #[.slice A0 l0.length c0] 59 (0,0))).heap.size=w.heap.size+2:=by rw [World.size_alloc,hsA]
  have hsz:wB.heap.size=w.heap.size+3:=by rw [← hwB,World.size_alloc,hsB]
  have hbl1:Below (w.heap.size+1) (w.alloc (.cells #[.pointer none,.slice none 0 0] 64 (0,0))) wB:=by
   rw [← hwB]
   exact((Below.refl _ _).alloc au0 _).alloc au0 _
  have hbl0:Below w.heap.size w wB:=((Below.refl _ w).alloc (Nat.le_refl _) _).trans (hbl1.mono au0)
  have hBb:wB.heap[w.heap.size+1]?=some (.cells #[.slice A0 l0.length c0] 59 (0,0)):=by
   rw [← hwB,← hsA]
   exact(Below.heap_alloc _ _ _ au39).trans (heap_alloc_new _ _)
  have hBn:wB.heap[w.heap.size+2]?=some (.cells #[.int .i64 3] 3 (0,0)):=by
   rw [← hwB,← hsB]
   exact heap_alloc_new _ _
  have hI0:EncI w l0 0 wB:=by
   refine ⟨isBuilder_move (bld_new w _ rfl) (fun k o hk _=>(hbl1.block k ?_).trans hk),hbl0,au0,⟨_,hBb⟩,_,hBn⟩
   have:=(Array.getElem?_eq_some_iff.mp hk).1
   omega
  change Code.wpIn _ _ _ (Code.rangeFunc _ _ _ _) _ _ (((w.alloc (.cells #[.pointer none,.slice none 0 0] 64 (0,0))).alloc (.cells #[.slice A0 l0.length c0] 59 (0,0))).alloc (.cells #[.int .i64 3] 3 (0,0)))
  rw [hwB]
  refine range_pieces au0 rfl (w.heap.size+1) (w.heap.size+2) M o l0.length c0 hc0 au0 au0 rfl A0 hA hBb hBn (EncI w l0) (EncI.own w l0 _ au0) (fun i W v h=>h.box v) hI0 (fun i=>encFrame A0 l0.length c0 w.heap.size (pieceV M o l0.length i)) ?assign ?body ?done
  case assign =>
   intro lr i W K hK
   gi_wp2
   exact hK
  case body =>
   intro lr i W hI hi
   have HI:=Lib.hid hI
   clear hI
   obtain ⟨K,hK⟩:∃ K,min 3 (l0.length - 3*i)=K:=⟨_,rfl⟩
   obtain ⟨p,hp⟩:∃ p,(l0.drop (3*i)).take 3=p:=⟨_,rfl⟩
   have hpl:p.length=K:=by rw [← hp,← hK];simp
   have hKK:=Lib.hid hK
   have HP:=Lib.hid hp
   have HPL:=Lib.hid hpl
   simp only [encFrame,pieceV,hK]
   have hp3:∃ x0 x1 x2:Int,x0=p.getD 0 0∧x1=p.getD 1 0∧x2=p.getD 2 0:=⟨_,_,_,rfl,rfl,rfl⟩
   obtain ⟨x0,x1,x2,hx0,hx1,hx2⟩:=hp3
   have hKb:1≤K∧K≤3∧3*i+K≤l0.length:=by unfold pieceN at hi;omega
   have hmem:∀ j:Nat,0≤p.getD j 0∧p.getD j 0<256:=by
    intro j
    rw [List.getD_eq_getElem?_getD]
    cases hj:p[j]? with
    | none=>simp
    | some x=>exact hb8 x (List.mem_of_mem_drop (List.mem_of_mem_take (hp ▸ List.mem_of_getElem? hj)))
   have h0:=hmem 0
   have h1:=hmem 1
   have h2:=hmem 2
   rw [← hx0] at h0
   rw [← hx1] at h1
   rw [← hx2] at h2
   have hrow:((#[.int .u8 0,.int .u8 0,.int .u8 0]:Array Value).toList.take 0++(p.map (Value.int .u8)++(#[.int .u8 0,.int .u8 0,.int .u8 0]:Array Value).toList.drop (0+(p.map (Value.int .u8)).length))).toArray=#[.int .u8 x0,.int .u8 x1,.int .u8 x2]:=by
    subst hx0 hx1 hx2
    match p,hpl with
    | [],h=>simp at h;omega
    | [a],_=>simp
    | [a,b],_=>simp
    | [a,b,c],_=>simp
    | _ :: _ :: _ :: _ :: _,h=>simp at h;omega
   have hsrc:∀ j v,(p.map (Value.int .u8))[j]?=some v→(W.alloc (.cells #[.int .u8 0,.int .u8 0,.int .u8 0] 80 (0,0))).cell? ((⟨M,o+3*i,none⟩:Addr).add j)=some v:=by
    intro j v hj
    rw [List.getElem?_map] at hj
    obtain ⟨x,hx,rfl⟩:=Option.map_eq_some_iff.1 hj
    rw [← hp,List.getElem?_take] at hx
    split at hx
    ·rw [List.getElem?_drop] at hx
     obtain ⟨hM,hc⟩:=hcl _ _ hx
     rw [add_at3,Nat.add_assoc]
     have:=HI.out.2.1.size
     rw [World.cell?_of_block (Below.heap_alloc _ _ _ (show M<W.heap.size by omega)),World.cell?_of_block (HI.out.2.1.block M hM)]
     exact hc
    ·cases hx
   have hml:(p.map (Value.int .u8)).length=K:=by simp [hpl]
   obtain ⟨W2,hW2⟩:∃ x,(W.alloc (.cells #[.int .u8 0,.int .u8 0,.int .u8 0] 80 (0,0))).setRow W.heap.size #[.int .u8 x0,.int .u8 x1,.int .u8 x2]=x:=⟨_,rfl⟩
   have hnew:(W.alloc (.cells #[.int .u8 0,.int .u8 0,.int .u8 0] 80 (0,0))).heap[W.heap.size]?=some (.cells #[.int .u8 0,.int .u8 0,.int .u8 0] 80 (0,0)):=heap_alloc_new _ _
   have hrow2:W2.heap[W.heap.size]?=some (.cells #[.int .u8 x0,.int .u8 x1,.int .u8 x2] 80 (0,0)):=by
    rw [← hW2]
    exact setRow_heap _ _ _ _ _ _ hnew
   have hb2:Below W.heap.size W W2:=by
    rw [← hW2]
    exact below_setRow ((Below.refl _ W).alloc (Nat.le_refl _) _) (Nat.le_refl _) _
   have HB2:=Lib.hid hb2
   have HNEW:=Lib.hid hnew
   have HROW:=Lib.hid hrow
   have HSRC:=Lib.hid hsrc
   have HML:=Lib.hid hml
   have HW2:=Lib.hid hW2
   have HMEM:=Lib.hid hmem
   have HX:=Lib.hid (And.intro hx0 (And.intro hx1 hx2))
   have c0':W2.cell? ⟨W.heap.size,0,none⟩=some (.int .u8 x0):=by rw [Lib.cell_of_heap hrow2];rfl
   have c1':W2.cell? ⟨W.heap.size,1,none⟩=some (.int .u8 x1):=by rw [Lib.cell_of_heap hrow2];rfl
   have c2':W2.cell? ⟨W.heap.size,2,none⟩=some (.int .u8 x2):=by rw [Lib.cell_of_heap hrow2];rfl
   clear hK hp hpl hb2 hnew hrow hsrc hml hW2 hmem hrow2 hx0 hx1 hx2
   gi_wp2_with (refine wpListIn_copy_own rfl (.tmp 13) (.tmp 14) 59 59 rfl 5 Tryd.underlying59 au2 W.heap.size 0 3 3 ⟨M,o+3*i,none⟩ K K rfl rfl _ 80 HNEW.out (p.map (Value.int .u8)) (by rw [HML.out];show _=min _ _;omega) HSRC.out (by rw [HML.out];simp;omega) (by intro v hv;obtain ⟨x,_,rfl⟩:=List.mem_map.1 hv;rfl) ?_;rw [HROW.out,HW2.out,HML.out])
   have hbx:=and3_u8 x0 h0.1 h0.2
   have hxb:x0 % 4*16 % 256=x0 % 4*16:=by omega
   have hby:=join4_u8 (x0 % 4) (x1 / 16) au0 au0 au0 au0
   have hbz:=join2_u8 (x1 % 16) (x2 / 64) au0 au0 au0 au0
   rw [hbx,hxb,hby,hbz]
   obtain ⟨y0,hy0⟩:∃ y,x0 / 4=y:=⟨_,rfl⟩
   obtain ⟨y1,hy1⟩:∃ y,x0 % 4*16+x1 / 16=y:=⟨_,rfl⟩
   obtain ⟨y2,hy2⟩:∃ y,x1 % 16*4+x2 / 64=y:=⟨_,rfl⟩
   obtain ⟨y3,hy3⟩:∃ y,x2 % 64=y:=⟨_,rfl⟩
   simp only [hy0,hy1,hy2,hy3]
   have hfour:fourL p=[y0,y1,y2,y3]:=by
    obtain ⟨e0,e1,e2⟩:=HX.out
    unfold fourL
    rw [← e0,← e1,← e2,hy0,hy1,hy2,hy3]
   have hyb:∀ j:Nat,j<4→0≤[y0,y1,y2,y3].getD j 0∧[y0,y1,y2,y3].getD j 0<64:=by
    intro j hj
    rcases (show j=0∨j=1∨j=2∨j=3 by omega) with rfl|rfl|rfl|rfl<;>simp<;>omega
   obtain ⟨W3,hW3⟩:∃ x,W2.alloc (.cells #[.int .u8 y0,.int .u8 y1,.int .u8 y2,.int .u8 y3] 81 (0,0))=x:=⟨_,rfl⟩
   rw [hW3]
   have hb3:Below W.heap.size W W3:=by
    rw [← hW3]
    exact HB2.out.alloc HB2.out.size _
   obtain ⟨hI1,hI2,hI3,⟨cB,hI4⟩,cN,hI5⟩:=HI.out
   have hI6:EncJ w l0 i [] W W3:=by
    refine ⟨isBuilder_move (by rw [List.append_nil];exact hI1) (fun k o hk _=>(hb3.block k (Array.getElem?_eq_some_iff.mp hk).1).trans hk),hI2.trans (hb3.mono hI2.size),keeps_below hb3,hb3.block _ au0,hb3.block _ au0⟩
   have HW3:=Lib.hid hW3
   have HB3:=Lib.hid hb3
   have HI6:=Lib.hid hI6
   have HC:=Lib.hid hI4
   have HD:=Lib.hid hI5
   have HFOUR:=Lib.hid hfour
   have HYB:=Lib.hid hyb
   clear hW3 hb3 hI6 hI1 hI2 hI3 hI4 hI5 hfour hyb hy0 hy1 hy2 hy3 hbx hxb hby hbz c0' c1' c2' HSRC HROW HW2 HNEW
   gi_loopw [40] (fun v wr=>∃ j:Nat,j≤4∧v=.int .i64 (j:Int)∧EncJ w l0 i ((encP p).take j) W wr)
    (fun v _=>match v with | .int _ x=>(4 - x).toNat|_=>0)
   case atStart=>exact ⟨0,Nat.zero_le _,rfl,HI6.out⟩
   case round =>
    obtain ⟨j,hj,rfl,hJ⟩:=hrel
    have HJ:=Lib.hid hJ
    clear hJ
    by_cases hlt:j<4
    ·have hd:decide ((j:Int)<4)=true:=by simp;omega
     have hix:=getD_at y0 y1 y2 y3 j hlt
     obtain ⟨y,hy⟩:∃ y,[y0,y1,y2,y3].getD j 0=y:=⟨_,rfl⟩
     rw [hy] at hix
     have hyy:0≤y∧y<64:=by rw [← hy];exact HYB.out j hlt
     have hsg:=sign_at y hyy.1 hyy.2
     have htk:(encP p).take (j+1)=(encP p).take j++[if K<j then 61 else signB y]:=by
      rw [List.take_add_one]
      congr 1
      unfold encP
      rw [List.getElem?_map,List.getElem?_range hlt,HFOUR.out,HPL.out]
      show [if K<j then 61 else signB ([y0,y1,y2,y3].getD j 0)]=_
      rw [hy]
     have hlen:4*i+((encP p).take j).length+1≤140737488355328:=by rw [List.length_take,encP_len];omega
     have HTK:=Lib.hid htk
     have HLEN:=Lib.hid hlen
     clear htk hlen hy
     by_cases hKj:K<j
     ·have hdK:decide ((K:Int)<(j:Int))=true:=by simp;exact hKj
      have hw:∀ n,CallsIn (Fence.wide.inRound lr) n Tryd.prog 45 #[.pointer (some ⟨w.heap.size,0,none⟩),.int .u8 61] wr fun e w'=>(∃ y,e=.returned y)∧EncJ w l0 i ((encP p).take (j+1)) W w':=by
       intro n
       rw [HTK.out,if_pos hKj]
       exact CallsIn.inRound lr (callsIn_wide.2 (encJ_byte HC.out HD.out HJ.out HLEN.out 61))
      gi_wp2_with (refine ⟨trivial,?_⟩;gi_at_call 45;refine(hw _).mono ?_;rintro e w4 ⟨⟨_,rfl⟩,hJ4⟩)
      exact ⟨⟨j+1,hlt,by push_cast;rfl,hJ4⟩,by show(4 - ((j:Int)+1)).toNat<(4 - (j:Int)).toNat;omega⟩
     ·have hdK:decide ((K:Int)<(j:Int))=false:=by simp;omega
      have hw:∀ n,CallsIn (Fence.wide.inRound lr) n Tryd.prog 45 #[.pointer (some ⟨w.heap.size,0,none⟩),.int .u8 ((signB y).toNat:Int)] wr fun e w'=>(∃ y,e=.returned y)∧EncJ w l0 i ((encP p).take (j+1)) W w':=by
       intro n
       rw [HTK.out,if_neg hKj]
       exact CallsIn.inRound lr (callsIn_wide.2 (encJ_byte HC.out HD.out HJ.out HLEN.out _))
      gi_wp2_with (refine ⟨trivial,?_⟩;gi_at_call 45;refine(hw _).mono ?_;rintro e w4 ⟨⟨_,rfl⟩,hJ4⟩)
      exact ⟨⟨j+1,hlt,by push_cast;rfl,hJ4⟩,by show(4 - ((j:Int)+1)).toNat<(4 - (j:Int)).toNat;omega⟩
    ·have hd:decide ((j:Int)<4)=false:=by simp;omega
     obtain rfl:j=4:=by omega
     gi_wp2
     obtain ⟨j1,j2,j3,j4,j5⟩:=HJ.out
     obtain ⟨_,_,i3,_,_⟩:=HI.out
     refine ⟨j3,j4,j5,?_,j2,Nat.lt_of_lt_of_le i3 j3.1,⟨_,j4.trans HC.out⟩,_,j5.trans HD.out⟩
     rw [encL_succ,HP.out]
     rw [List.take_of_length_le (by rw [encP_len];omega)] at j1
     exact j1
  case done =>
   intro W hI hD
   have HI:=Lib.hid hI
   have HD:=Lib.hid hD
   clear hI hD
   gi_wp2_with (refine ⟨trivial,?_⟩;gi_at_call 38;refine(callsIn_wide.2 (Tryd.Builder_String_any_k w.heap.size w.heap.size _ _ (Lib.IsBuilderF.of HI.out.1) (by have:=HI.out.2.1.size;omega))).mono ?_)
   rintro e w1 ⟨rfl,_,hb1,hk1⟩
   have HB1:=Lib.hid hb1
   have hD1:w1.heap[wB.heap.size]?=some (.deferred (some [])):=hk1 _ _ HD.out (by intro e;have:=Option.some.inj e;omega) (fun c=>by simp)
   have HD1:=Lib.hid hD1
   clear hb1 hk1 hD1
   gi_wp2
   refine ⟨au5,.inl ⟨_,_,rfl,run_takeDeferred (show w1.heap[w.heap.size+3]?=_ from hsz ▸ HD1.out),?_⟩⟩
   refine ⟨_,results_tmp rfl _ _ _,rfl,?_⟩
   exact(HI.out.2.1.trans (HB1.out)).grown (grownBy_putObj' _ (w.heap.size+3) (.deferred none)) (HI.out.2.1.trans HB1.out).size (fun k e=>by have:=Option.some.inj e;omega)
 ·exact absurd h au5
end Go.Proofs.YtjehflambbjoaaaDoor.X
namespace Go.Proofs.YtjehflambbjoaaaDoor.X
open Go.RowKit Go.Proofs.YtjehflambbjoaaaDoorW.PrintWords Go.Proofs.YtjehflambbjoaaaDoorW.PrintLast Go.Proofs.YtjehflambbjoaaaDoorW.PrintMore
attribute [local go_sem] max2_int min2_int max_two min_two max_three min_three max_four min_four
attribute [local go_sem] max2_int min2_int max_two min_two max_three min_three max_four min_four
mutual
def racewayref22_Encode.l0:Nat→List Int→List Int→Int→Option (ByteArray)
 | 0,_,_,_=>none
 | k+1,x0,x3,x4=>if x4<(x0.length:Int) then(racewayref22_Encode.l1 k x0 x3 x4 128) else(racewayref22_Encode.l2 k x3)
def racewayref22_Encode.l1:Nat→List Int→List Int→Int→Int→Option (ByteArray)
 | 0,_,_,_,_=>none
 | k+1,x0,x3,x4,x5=>if x5 > 0 then(if 0≤x4 then(if x4<(x0.length:Int) then(if x5=0 then(none) else(if x3.length<17592186044416 then(racewayref22_Encode.l1 k x0 (x3++[Int.tmod (wrap64 (Int.tdiv (wrap64 (rd x0 x4)) x5)) 2]) x4 (wrap64 (Int.tdiv x5 2))) else(none))) else(none)) else(none)) else(racewayref22_Encode.l0 k x0 x3 (wrap64 (x4+1)))
def racewayref22_Encode.l2:Nat→List Int→Option (ByteArray)
 | 0,_=>none
 | k+1,x3=>if((x3.length:Int) % 6)=0 then(racewayref22_Encode.l3 k x3 (⟨#[]⟩:ByteArray) 0) else(if x3.length<17592186044416 then(racewayref22_Encode.l2 k (x3++[0])) else(none))
def racewayref22_Encode.l3:Nat→List Int→ByteArray→Int→Option (ByteArray)
 | 0,_,_,_=>none
 | k+1,x3,x6,x7=>if x7<(x3.length:Int) then(racewayref22_Encode.l4 k x3 x6 x7 0 0) else(racewayref22_Encode.l5 k x6)
def racewayref22_Encode.l4:Nat→List Int→ByteArray→Int→Int→Int→Option (ByteArray)
 | 0,_,_,_,_,_=>none
 | k+1,x3,x6,x7,x8,x9=>if x9<6 then(if 0≤(wrap64 (x7+x9)) then(if(wrap64 (x7+x9))<(x3.length:Int) then(racewayref22_Encode.l4 k x3 x6 x7 (wrap64 ((wrap64 (2*x8))+(rd x3 (wrap64 (x7+x9))))) (wrap64 (x9+1))) else(none)) else(none)) else(if 0≤x8 then(if x8≤(wrap64 (x8+1)) then(if(wrap64 (x8+1))≤64 then(if x6.size+((⟨#[65,66,67,68,69,70,71,72,73,74,75,76,77,78,79,80,81,82,83,84,85,86,87,88,89,90,97,98,99,100,101,102,103,104,105,106,107,108,109,110,111,112,113,114,115,116,117,118,119,120,121,122,48,49,50,51,52,53,54,55,56,57,43,47]⟩:ByteArray).extract (x8:Int).toNat ((wrap64 (x8+1)):Int).toNat).size≤9223372036854775807 then(racewayref22_Encode.l3 k x3 (x6++((⟨#[65,66,67,68,69,70,71,72,73,74,75,76,77,78,79,80,81,82,83,84,85,86,87,88,89,90,97,98,99,100,101,102,103,104,105,106,107,108,109,110,111,112,113,114,115,116,117,118,119,120,121,122,48,49,50,51,52,53,54,55,56,57,43,47]⟩:ByteArray).extract (x8:Int).toNat ((wrap64 (x8+1)):Int).toNat)) (wrap64 (x7+6))) else(none)) else(none)) else(none)) else(none))
def racewayref22_Encode.l5:Nat→ByteArray→Option (ByteArray)
 | 0,_=>none
 | k+1,x6=>if((x6.size:Int) % 4)=0 then(some x6) else(if x6.size+1≤9223372036854775807 then(racewayref22_Encode.l5 k (x6++(⟨#[61]⟩:ByteArray))) else(none))
end
def racewayref22_Encode.f (k:Nat) (l0:List Int):Option (ByteArray):=racewayref22_Encode.l0 k l0 ([]:List Int) 0
set_option maxHeartbeats 8000000 in
set_option maxRecDepth 100000 in
theorem racewayref22_Encode.calls (k:Nat) (A0:Option Addr) (c0:Nat) (l0:List Int) (r:ByteArray) (w:World) (hr0:Kd.C (Kd.int .u8) w A0 l0.length l0) (hc0:l0.length≤c0) (h:racewayref22_Encode.f k l0=some r) :
  Calls Tryd.prog 32 #[.slice A0 l0.length c0] w fun e w'=>e=.returned (.string r)∧Below w.heap.size w w':=by
 have HR0:=Aside0.mk hr0
 have HC0:=Aside0.mk hc0
 clear hr0 hc0
 have HB:=Aside0.mk (Below.refl w.heap.size w)
 have H:(racewayref22_Encode.l0 k l0 ([]:List Int) 0)=some r:=h
 clear h
 have H':=Aside0.mk H
 clear H
 go_enter Tryd.func32,Tryd.ntmps32
 go_wp2
 go_loopg [3,4] k (fun kq v3 v4 w'=>∃(x3_1:List Int) (x4_1:Int),v4=.int .i64 x4_1∧Aside0 (racewayref22_Encode.l0 kq l0 x3_1 x4_1=some r)∧Aside0 (kq≤k)∧Aside0 (Kd.R (Kd.int .i64) 3 w' w.heap.size (fun _=>True) v3 x3_1)∧Aside0 (Below w.heap.size w w'))
 case atStart=>exact ⟨(([]:List Int)),(0),au4,au9,⟨Nat.le_refl _⟩,⟨au20⟩,⟨au3⟩⟩
 case round =>
  clear H'
  obtain ⟨x3_1,x4_1,rfl,HA,HK1,HO_3,HB⟩:=hrel
  cases gk with
  | zero=>exact absurd HA.out (by simp [racewayref22_Encode.l0])
  | succ k1 =>
   have H:=HA.out
   clear HA
   simp only [racewayref22_Encode.l0] at H
   by_cases c2:x4_1<(l0.length:Int)
   ·rw [if_pos c2] at H
    have c2b0:decide (x4_1<(l0.length:Int))=true:=decide_eq_true c2
    clear c2
    have H':=Aside0.mk H
    clear H
    go_wp2
    go_loopg [3,5] k1 (fun kq v3 v5 w'=>∃(x3_2:List Int) (x5_2:Int),v5=.int .i64 x5_2∧Aside0 (racewayref22_Encode.l1 kq l0 x3_2 x4_1 x5_2=some r)∧Aside0 (kq≤k1)∧Aside0 (Kd.R (Kd.int .i64) 3 w' w.heap.size (fun _=>True) v3 x3_2)∧Aside0 (Below w.heap.size w w'))
    case atStart=>exact ⟨(x3_1),(128),au4,au9,⟨Nat.le_refl _⟩,⟨au22⟩,⟨au3⟩⟩
    case round =>
     clear H'
     obtain ⟨x3_2,x5_2,rfl,HA,HK2,HO_3,HB⟩:=hrel
     cases gk with
     | zero=>exact absurd HA.out (by simp [racewayref22_Encode.l1])
     | succ k2 =>
      have H:=HA.out
      clear HA
      simp only [racewayref22_Encode.l1] at H
      by_cases c3:x5_2 > 0
      ·rw [if_pos c3] at H
       have c3b0:decide (0<x5_2)=true:=decide_eq_true c3
       clear c3
       by_cases c4:0≤x4_1
       ·rw [if_pos c4] at H
        have c4b0:decide (0≤x4_1)=true:=decide_eq_true c4
        clear c4
        by_cases c5:x4_1<(l0.length:Int)
        ·rw [if_pos c5] at H
         have c5b0:decide (x4_1<(l0.length:Int))=true:=decide_eq_true c5
         clear c5
         by_cases c6:x5_2=0
         ·rw [if_pos c6] at H
          exact absurd H au5
         ·rw [if_neg c6] at H
          have c6b0:(x5_2==0)=false:=beq_eq_false_iff_ne.mpr c6
          have c6b1:(x5_2 != 0)=true:=bne_iff_ne.mpr c6
          by_cases c7:x3_2.length<17592186044416
          ·rw [if_pos c7] at H
           have LMc7:=Aside0.mk c7
           clear c7
           obtain ⟨y102,hy102⟩:∃ y_:List Int,y_=(x3_2++[Int.tmod (wrap64 (Int.tdiv (wrap64 (rd l0 x4_1)) x5_2)) 2]):=⟨_,rfl⟩
           replace H:(racewayref22_Encode.l1 k2 l0 y102 x4_1 (wrap64 (Int.tdiv x5_2 2)))=some r:=by first|(rw [hy102];with_reducible exact H)|(have H2_:=(Option.bind_some _ _).symm.trans H;rw [hy102];with_reducible exact H2_)|(have H2_:=(Option.bind_some _ _).symm.trans H;with_reducible exact H2_)|with_reducible exact H|(rw [hy102];exact H)|exact H
           have Ny102:=Aside0.mk hy102
           clear hy102
           have H':=Aside0.mk H
           clear H
           have p101:0≤(x4_1:Int):=of_decide_eq_true au7
           have q101:x4_1<(l0.length:Int):=of_decide_eq_true au7
           obtain ⟨ad101,e101,hx101_0⟩:=Kd.at_int HR0.out x4_1 p101 q101
           cases e101
           replace hx101_0:=(HB.out.cell (World.block_lt_of_cell? w _ hx101_0)).trans hx101_0
           replace p101:=eq_true p101
           replace q101:=eq_true q101
           go_wp2_with (first|((with_reducible refine gate_builtin (b:=.append) (xs:=#[.tmp 20,.tmp 29]) rfl ?_);at_builtin;refine Kd.R_append (Kd.int .i64) (w0:=w) w.heap.size rfl (.tmp 20) (.tmp 29) 86 3 (.int .i64 0) 8 rfl Tryd.underlying86 info3 rfl au1 au0 u3 x3_2 (Int.tmod (wrap64 (Int.tdiv (wrap64 (rd l0 x4_1)) x5_2)) 2) [.int .i64 (Int.tmod (wrap64 (Int.tdiv (wrap64 (rd l0 x4_1)) x5_2)) 2)] (fun _=>True) (fun _=>False) rfl rfl ?aP (fun _ hk=>hk.elim) ?aF ?aO ?aB ?aS ?aL ?_;(case aP=>exact rfl);(case aB=>exact au3);(case aF=>exact(fun _ _=>trivial));(case aO=>exact au22);(case aS=>exact(below_size au3));(case aL=>have:=LMc7.out;omega);intro v103 w8 ho hb hg hat;rw [← Ny102.out] at ho;have n0_:=Aside0.mk (hb);have n1_:=Aside0.mk (ho);clear HB;clear HO_3;have HB:=n0_;have HO104:=n1_;clear n0_ n1_;clear ho hb hg hat))
           go_roundg k2
           case measure=>have:=HK1.out;have:=HK2.out;omega
           case rel=>exact ⟨(y102),(wrap64 (Int.tdiv x5_2 2)),au4,au9,⟨au26⟩,⟨by(with_reducible repeat(first|apply Kd.R_alloc|apply Kd.R_drewN|apply Kd.R_drew));exact HO104.out⟩,⟨au3⟩⟩
          ·rw [if_neg c7] at H
           exact absurd H au5
        ·rw [if_neg c5] at H
         exact absurd H au5
       ·rw [if_neg c4] at H
        exact absurd H au5
      ·rw [if_neg c3] at H
       have c3b0:decide (0<x5_2)=false:=decide_eq_false c3
       clear c3
       have H':=Aside0.mk H
       clear H
       go_wp2
       go_roundg k2
       case measure=>have:=HK1.out;have:=HK2.out;omega
       case rel=>exact ⟨(x3_2),(wrap64 (x4_1+1)),au4,au9,⟨au26⟩,⟨au22⟩,⟨au3⟩⟩
   ·rw [if_neg c2] at H
    have c2b0:decide (x4_1<(l0.length:Int))=false:=decide_eq_false c2
    clear c2
    have H':=Aside0.mk H
    clear H
    go_wp2
    go_loopg [3] k1 (fun kq v3 w'=>∃(x3_2:List Int),Aside0 (racewayref22_Encode.l2 kq x3_2=some r)∧Aside0 (kq≤k1)∧Aside0 (Kd.R (Kd.int .i64) 3 w' w.heap.size (fun _=>True) v3 x3_2)∧Aside0 (Below w.heap.size w w'))
    case atStart=>exact ⟨(x3_1),au9,⟨Nat.le_refl _⟩,⟨au22⟩,⟨au3⟩⟩
    case round =>
     clear H'
     obtain ⟨x3_2,HA,HK2,HO_3,HB⟩:=hrel
     cases gk with
     | zero=>exact absurd HA.out (by simp [racewayref22_Encode.l2])
     | succ k2 =>
      have H:=HA.out
      clear HA
      simp only [racewayref22_Encode.l2] at H
      by_cases c9:((x3_2.length:Int) % 6)=0
      ·rw [if_pos c9] at H
       have c9b0:(((x3_2.length:Int) % 6)==0)=true:=beq_iff_eq.mpr c9
       have c9b1:(((x3_2.length:Int) % 6) != 0)=false:=bne_eq_false_iff_eq.mpr c9
       clear c9
       have H':=Aside0.mk H
       clear H
       obtain ⟨Ao10,co10,eo10⟩:=Kd.R_slice HO_3.out
       subst eo10
       go_wp2
       go_loopg [6,7] k2 (fun kq v6 v7 w'=>∃(x6_3:ByteArray) (x7_3:Int),v6=.string x6_3∧v7=.int .i64 x7_3∧Aside0 (racewayref22_Encode.l3 kq x3_2 x6_3 x7_3=some r)∧Aside0 (kq≤k2)∧Aside0 (Kd.R (Kd.int .i64) 3 w' w.heap.size (fun _=>True) (.slice Ao10 x3_2.length co10) x3_2)∧Aside0 (Below w.heap.size w w'))
       case atStart=>exact ⟨((⟨#[]⟩:ByteArray)),(0),au4,au4,au9,⟨Nat.le_refl _⟩,⟨au22⟩,⟨au3⟩⟩
       case round =>
        clear H'
        obtain ⟨x6_3,x7_3,rfl,rfl,HA,HK3,HO_3,HB⟩:=hrel
        cases gk with
        | zero=>exact absurd HA.out (by simp [racewayref22_Encode.l3])
        | succ k3 =>
         have H:=HA.out
         clear HA
         simp only [racewayref22_Encode.l3] at H
         by_cases c11:x7_3<(x3_2.length:Int)
         ·rw [if_pos c11] at H
          have c11b0:decide (x7_3<(x3_2.length:Int))=true:=decide_eq_true c11
          clear c11
          have H':=Aside0.mk H
          clear H
          go_wp2
          go_loopg [8,9] k3 (fun kq v8 v9 w'=>∃(x8_4:Int) (x9_4:Int),v8=.int .i64 x8_4∧v9=.int .i64 x9_4∧Aside0 (racewayref22_Encode.l4 kq x3_2 x6_3 x7_3 x8_4 x9_4=some r)∧Aside0 (kq≤k3)∧Aside0 (Kd.R (Kd.int .i64) 3 w' w.heap.size (fun _=>True) (.slice Ao10 x3_2.length co10) x3_2)∧Aside0 (Below w.heap.size w w'))
          case atStart=>exact ⟨(0),(0),au4,au4,au9,⟨Nat.le_refl _⟩,⟨au22⟩,⟨au3⟩⟩
          case round =>
           clear H'
           obtain ⟨x8_4,x9_4,rfl,rfl,HA,HK4,HO_3,HB⟩:=hrel
           cases gk with
           | zero=>exact absurd HA.out (by simp [racewayref22_Encode.l4])
           | succ k4 =>
            have H:=HA.out
            clear HA
            simp only [racewayref22_Encode.l4] at H
            by_cases c12:x9_4<6
            ·rw [if_pos c12] at H
             have c12b0:decide (x9_4<6)=true:=decide_eq_true c12
             clear c12
             obtain ⟨ji13,hji13⟩:∃ j_:Int,(wrap64 (x7_3+x9_4))=j_:=⟨_,rfl⟩
             replace H:(if 0≤(ji13) then(if(ji13)<(x3_2.length:Int) then(racewayref22_Encode.l4 k4 x3_2 x6_3 x7_3 (wrap64 ((wrap64 (2*x8_4))+(rd x3_2 (ji13)))) (wrap64 (x9_4+1))) else(none)) else(none))=some r:=by first|(rw [hji13] at H;exact H)|(simp only [hji13] at H ⊢;exact H)
             have hji13w:(IntKind.i64.wrap (x7_3+x9_4))=ji13:=(i64_w _).trans hji13
             by_cases c14:0≤(ji13)
             ·rw [if_pos c14] at H
              have c14b0:decide (0≤(ji13))=true:=decide_eq_true c14
              clear c14
              by_cases c15:(ji13)<(x3_2.length:Int)
              ·rw [if_pos c15] at H
               have c15b0:decide ((ji13)<(x3_2.length:Int))=true:=decide_eq_true c15
               clear c15
               have H':=Aside0.mk H
               clear H
               have p108:0≤((ji13):Int):=of_decide_eq_true au7
               have q108:(ji13)<(x3_2.length:Int):=of_decide_eq_true au7
               obtain ⟨ad108,e108,hx108_0⟩:=Kd.at_int (Kd.R_reads' HO_3.out).2.2 (ji13) p108 q108
               cases e108
               replace p108:=eq_true p108
               replace q108:=eq_true q108
               go_wp2
               go_roundg k4
               case measure=>have:=HK1.out;have:=HK2.out;have:=HK3.out;have:=HK4.out;omega
               case rel=>exact ⟨(wrap64 ((wrap64 (2*x8_4))+(rd x3_2 (ji13)))),(wrap64 (x9_4+1)),(by first|rfl|(simp;done)|(simp only [← hji13]<;>(first|rfl|simp))|(simp [*];done)),au4,au9,⟨au69⟩,⟨au22⟩,⟨au3⟩⟩
              ·rw [if_neg c15] at H
               exact absurd H au5
             ·rw [if_neg c14] at H
              exact absurd H au5
            ·rw [if_neg c12] at H
             have c12b0:decide (x9_4<6)=false:=decide_eq_false c12
             clear c12
             by_cases c16:0≤x8_4
             ·rw [if_pos c16] at H
              have c16b0:=eq_true c16
              have c16b1:decide (0≤x8_4)=true:=decide_eq_true c16
              clear c16
              by_cases c17:x8_4≤(wrap64 (x8_4+1))
              ·rw [if_pos c17] at H
               have c17b0:=eq_true c17
               have c17b1:decide (x8_4≤(wrap64 (x8_4+1)))=true:=decide_eq_true c17
               by_cases c18:(wrap64 (x8_4+1))≤64
               ·rw [if_pos c18] at H
                have c18b0:=eq_true c18
                have c18b1:decide ((wrap64 (x8_4+1))≤64)=true:=decide_eq_true c18
                by_cases c19:x6_3.size+((⟨#[65,66,67,68,69,70,71,72,73,74,75,76,77,78,79,80,81,82,83,84,85,86,87,88,89,90,97,98,99,100,101,102,103,104,105,106,107,108,109,110,111,112,113,114,115,116,117,118,119,120,121,122,48,49,50,51,52,53,54,55,56,57,43,47]⟩:ByteArray).extract (x8_4:Int).toNat ((wrap64 (x8_4+1)):Int).toNat).size≤9223372036854775807
                ·rw [if_pos c19] at H
                 have c19b0:=eq_true c19
                 have c19b1:decide (x6_3.size+((⟨#[65,66,67,68,69,70,71,72,73,74,75,76,77,78,79,80,81,82,83,84,85,86,87,88,89,90,97,98,99,100,101,102,103,104,105,106,107,108,109,110,111,112,113,114,115,116,117,118,119,120,121,122,48,49,50,51,52,53,54,55,56,57,43,47]⟩:ByteArray).extract (x8_4:Int).toNat ((wrap64 (x8_4+1)):Int).toNat).size≤9223372036854775807)=true:=decide_eq_true c19
                 try have c19b2:(9223372036854775807<x6_3.size+((⟨#[65,66,67,68,69,70,71,72,73,74,75,76,77,78,79,80,81,82,83,84,85,86,87,88,89,90,97,98,99,100,101,102,103,104,105,106,107,108,109,110,111,112,113,114,115,116,117,118,119,120,121,122,48,49,50,51,52,53,54,55,56,57,43,47]⟩:ByteArray).extract (x8_4:Int).toNat ((wrap64 (x8_4+1)):Int).toNat).size)=False:=eq_false (Nat.not_lt.2 c19)
                 have g_sum19:(9223372036854775807<x6_3.size+((wrap64 (x8_4+1)).toNat - x8_4.toNat))=False:=eq_false (by have h_:=c19;have b_:=c18;simp only [ByteArray.size_extract,show(⟨#[65,66,67,68,69,70,71,72,73,74,75,76,77,78,79,80,81,82,83,84,85,86,87,88,89,90,97,98,99,100,101,102,103,104,105,106,107,108,109,110,111,112,113,114,115,116,117,118,119,120,121,122,48,49,50,51,52,53,54,55,56,57,43,47]⟩:ByteArray).size=64 from rfl] at h_;omega)
                 have H':=Aside0.mk H
                 clear H
                 go_wp2
                 go_roundg k4
                 case measure=>have:=HK1.out;have:=HK2.out;have:=HK3.out;have:=HK4.out;omega
                 case rel=>exact ⟨(x6_3++((⟨#[65,66,67,68,69,70,71,72,73,74,75,76,77,78,79,80,81,82,83,84,85,86,87,88,89,90,97,98,99,100,101,102,103,104,105,106,107,108,109,110,111,112,113,114,115,116,117,118,119,120,121,122,48,49,50,51,52,53,54,55,56,57,43,47]⟩:ByteArray).extract (x8_4:Int).toNat ((wrap64 (x8_4+1)):Int).toNat)),(wrap64 (x7_3+6)),au4,au4,au9,⟨au69⟩,⟨au22⟩,⟨au3⟩⟩
                ·rw [if_neg c19] at H
                 exact absurd H au5
               ·rw [if_neg c18] at H
                exact absurd H au5
              ·rw [if_neg c17] at H
               exact absurd H au5
             ·rw [if_neg c16] at H
              exact absurd H au5
         ·rw [if_neg c11] at H
          have c11b0:decide (x7_3<(x3_2.length:Int))=false:=decide_eq_false c11
          clear c11
          have H':=Aside0.mk H
          clear H
          go_wp2
          go_loopg [6] k3 (fun kq v6 w'=>∃(x6_4:ByteArray),v6=.string x6_4∧Aside0 (racewayref22_Encode.l5 kq x6_4=some r)∧Aside0 (kq≤k3)∧Aside0 (Below w.heap.size w w'))
          case atStart=>exact ⟨(x6_3),au4,au9,⟨Nat.le_refl _⟩,⟨au3⟩⟩
          case round =>
           clear H'
           obtain ⟨x6_4,rfl,HA,HK4,HB⟩:=hrel
           cases gk with
           | zero=>exact absurd HA.out (by simp [racewayref22_Encode.l5])
           | succ k4 =>
            have H:=HA.out
            clear HA
            simp only [racewayref22_Encode.l5] at H
            by_cases c20:((x6_4.size:Int) % 4)=0
            ·rw [if_pos c20] at H
             have c20b0:(((x6_4.size:Int) % 4)==0)=true:=beq_iff_eq.mpr c20
             have c20b1:(((x6_4.size:Int) % 4) != 0)=false:=bne_eq_false_iff_eq.mpr c20
             clear c20
             obtain rfl:=Option.some.inj H
             go_wp2
             go_ret
             exact ⟨au12,au3⟩
            ·rw [if_neg c20] at H
             have c20b0:(((x6_4.size:Int) % 4)==0)=false:=beq_eq_false_iff_ne.mpr c20
             have c20b1:(((x6_4.size:Int) % 4) != 0)=true:=bne_iff_ne.mpr c20
             by_cases c21:x6_4.size+1≤9223372036854775807
             ·rw [if_pos c21] at H
              have c21b0:=eq_true c21
              have c21b1:decide (x6_4.size+1≤9223372036854775807)=true:=decide_eq_true c21
              try have c21b2:(9223372036854775807<x6_4.size+1)=False:=eq_false (Nat.not_lt.2 c21)
              have H':=Aside0.mk H
              clear H
              go_wp2
              go_roundg k4
              case measure=>have:=HK1.out;have:=HK2.out;have:=HK3.out;have:=HK4.out;omega
              case rel=>exact ⟨(x6_4++(⟨#[61]⟩:ByteArray)),au4,au9,⟨au69⟩,⟨au3⟩⟩
             ·rw [if_neg c21] at H
              exact absurd H au5
      ·rw [if_neg c9] at H
       have c9b0:(((x3_2.length:Int) % 6)==0)=false:=beq_eq_false_iff_ne.mpr c9
       have c9b1:(((x3_2.length:Int) % 6) != 0)=true:=bne_iff_ne.mpr c9
       by_cases c22:x3_2.length<17592186044416
       ·rw [if_pos c22] at H
        have LMc22:=Aside0.mk c22
        clear c22
        obtain ⟨y105,hy105⟩:∃ y_:List Int,y_=(x3_2++[0]):=⟨_,rfl⟩
        replace H:(racewayref22_Encode.l2 k2 y105)=some r:=by first|(rw [hy105];with_reducible exact H)|(have H2_:=(Option.bind_some _ _).symm.trans H;rw [hy105];with_reducible exact H2_)|(have H2_:=(Option.bind_some _ _).symm.trans H;with_reducible exact H2_)|with_reducible exact H|(rw [hy105];exact H)|exact H
        have Ny105:=Aside0.mk hy105
        clear hy105
        have H':=Aside0.mk H
        clear H
        obtain ⟨Ao23,co23,eo23⟩:=Kd.R_slice HO_3.out
        subst eo23
        go_wp2_with (first|((with_reducible refine gate_builtin (b:=.append) (xs:=#[.tmp 35,.tmp 36]) rfl ?_);at_builtin;refine Kd.R_append (Kd.int .i64) (w0:=w) w.heap.size rfl (.tmp 35) (.tmp 36) 86 3 (.int .i64 0) 8 rfl Tryd.underlying86 info3 rfl au1 au0 (.slice Ao23 x3_2.length co23) x3_2 0 [.int .i64 0] (fun _=>True) (fun _=>False) rfl rfl ?aP (fun _ hk=>hk.elim) ?aF ?aO ?aB ?aS ?aL ?_;(case aP=>exact rfl);(case aB=>exact au3);(case aF=>exact(fun _ _=>trivial));(case aO=>exact au22);(case aS=>exact(below_size au3));(case aL=>have:=LMc22.out;omega);intro v106 w24 ho hb hg hat;rw [← Ny105.out] at ho;have n0_:=Aside0.mk (hb);have n1_:=Aside0.mk (ho);clear HB;clear HO_3;have HB:=n0_;have HO107:=n1_;clear n0_ n1_;clear ho hb hg hat))
        go_roundg k2
        case measure=>have:=HK1.out;have:=HK2.out;omega
        case rel=>exact ⟨(y105),au9,⟨au26⟩,⟨by(with_reducible repeat(first|apply Kd.R_alloc|apply Kd.R_drewN|apply Kd.R_drew));exact HO107.out⟩,⟨au3⟩⟩
       ·rw [if_neg c22] at H
        exact absurd H au5
theorem w64 {x:Int} (h0 : -9223372036854775808≤x) (h1:x≤9223372036854775807):wrap64 x=x:=by unfold wrap64;omega
def encR:List Int→List UInt8
 | []=>[]
 | [x]=>[signB (x / 4),signB (x % 4*16),61,61]
 | [x,y]=>[signB (x / 4),signB (x % 4*16+y / 16),signB (y % 16*4),61]
 | x :: y :: z :: l=>signB (x / 4) :: signB (x % 4*16+y / 16) :: signB (y % 16*4+z / 64) :: signB (z % 64) :: encR l
theorem encL_R:∀ l:List Int,encL l ((l.length+2) / 3)=encR l
 | []=>rfl
 | [x]=>by simp [encL,encP,encR,fourL,List.range_succ]
 | [x,y]=>by simp [encL,encP,encR,fourL,List.range_succ]
 | x :: y :: z :: l=>by
  have ih:=encL_R l
  have e:((x :: y :: z :: l).length+2) / 3=(l.length+2) / 3+1:=by simp only [List.length_cons];omega
  rw [e,encL,List.range_succ_eq_map,List.flatMap_cons,List.flatMap_map]
  have e2:((List.range ((l.length+2) / 3)).flatMap fun j=>encP (((x :: y :: z :: l).drop (3*j.succ)).take 3))=encL l ((l.length+2) / 3):=by
   unfold encL
   congr 1
  rw [e2,ih]
  simp [encP,encR,fourL,List.range_succ]
def sexR:List Int→List Int
 | []=>[]
 | [x]=>[x / 4,x % 4*16]
 | [x,y]=>[x / 4,x % 4*16+y / 16,y % 16*4]
 | x :: y :: z :: l=>x / 4 :: (x % 4*16+y / 16) :: (y % 16*4+z / 64) :: z % 64 :: sexR l
theorem encR_sex:∀ l:List Int,encR l=(sexR l).map signB++List.replicate ((4 - (sexR l).length % 4) % 4) 61
 | []=>rfl
 | [x]=>rfl
 | [x,y]=>rfl
 | x :: y :: z :: l=>by
  have ih:=encR_sex l
  have e:(sexR (x :: y :: z :: l)).length % 4=(sexR l).length % 4:=by simp only [sexR,List.length_cons];omega
  rw [e,sexR,encR,ih]
  simp
theorem sexR_len:∀ l:List Int,(sexR l).length % 4≠1
 | []=>by simp [sexR]
 | [x]=>by simp [sexR]
 | [x,y]=>by simp [sexR]
 | x :: y :: z :: l=>by have:=sexR_len l;simp only [sexR,List.length_cons];omega
def byteL (l:List Int):Prop:=∀ x∈l,0≤x∧x<256
theorem Encode_is (l:List Int) (hb:byteL l) (hl:l.length≤1000000):basic_Encode.f l=some ⟨(encR l).toArray⟩:=by
 rw [basic_Encode.f,if_pos ⟨hl,hb⟩,show pieceN l.length=(l.length+2) / 3 from rfl,encL_R]
theorem tdivr (x:Int) (c:Int) (h:0≤x):Int.tdiv x c=x / c:=Int.tdiv_eq_ediv_of_nonneg h
theorem tmodr (x:Int) (c:Int) (h:0≤x):Int.tmod x c=x % c:=Int.tmod_eq_emod_of_nonneg h
def bits8 (x:Int):List Int:=[x / 128 % 2,x / 64 % 2,x / 32 % 2,x / 16 % 2,x / 8 % 2,x / 4 % 2,x / 2 % 2,x % 2]
def bitsL (l:List Int):List Int:=l.flatMap bits8
theorem bit_at (x:Int) (h0:0≤x) (h1:x<256) (c:Int) (hc:0<c):Int.tmod (wrap64 (Int.tdiv (wrap64 x) c)) 2=x / c % 2:=by
 have hle:x / c≤x:=Int.ediv_le_self c h0
 have hge:0≤x / c:=Int.ediv_nonneg h0 (Int.le_of_lt hc)
 rw [w64 (x:=x) au0 au0,tdivr _ _ h0]
 generalize x / c=y at *
 rw [w64 au0 au0,tmodr _ _ hge]
theorem half_w (c d:Int) (h:Int.tdiv c 2=d) (h0:0≤d) (h1:d<1000):wrap64 (Int.tdiv c 2)=d:=by rw [h];exact w64 au0 au0
theorem enc_l1 (l:List Int) (i:Nat) (hi:i<l.length) (hl:l.length≤1000000) (x:Int) (hx:rd l (i:Int)=x) (h0:0≤x) (h1:x<256) (acc:List Int) (ha:acc.length≤100000000) (k:Nat) :
  racewayref22_Encode.l1 (k+9) l acc (i:Int) 128=racewayref22_Encode.l0 k l (acc++bits8 x) ((i+1:Nat):Int):=by
 have c1:(0:Int)≤(i:Int):=by omega
 have c2:(i:Int)<(l.length:Int):=by omega
 have c3:wrap64 ((i:Int)+1)=((i+1:Nat):Int):=by rw [w64 au0 au0];omega
 rw [racewayref22_Encode.l1,if_pos au1,if_pos c1,if_pos c2,if_neg au1,if_pos au28,hx,bit_at x h0 h1 128 au1,half_w 128 64 rfl au1 au1]
 rw [racewayref22_Encode.l1,if_pos au1,if_pos c1,if_pos c2,if_neg au1,if_pos au28,hx,bit_at x h0 h1 64 au1,half_w 64 32 rfl au1 au1]
 rw [racewayref22_Encode.l1,if_pos au1,if_pos c1,if_pos c2,if_neg au1,if_pos au28,hx,bit_at x h0 h1 32 au1,half_w 32 16 rfl au1 au1]
 rw [racewayref22_Encode.l1,if_pos au1,if_pos c1,if_pos c2,if_neg au1,if_pos au28,hx,bit_at x h0 h1 16 au1,half_w 16 8 rfl au1 au1]
 rw [racewayref22_Encode.l1,if_pos au1,if_pos c1,if_pos c2,if_neg au1,if_pos au28,hx,bit_at x h0 h1 8 au1,half_w 8 4 rfl au1 au1]
 rw [racewayref22_Encode.l1,if_pos au1,if_pos c1,if_pos c2,if_neg au1,if_pos au28,hx,bit_at x h0 h1 4 au1,half_w 4 2 rfl au1 au1]
 rw [racewayref22_Encode.l1,if_pos au1,if_pos c1,if_pos c2,if_neg au1,if_pos au28,hx,bit_at x h0 h1 2 au1,half_w 2 1 rfl au1 au1]
 rw [racewayref22_Encode.l1,if_pos au1,if_pos c1,if_pos c2,if_neg au1,if_pos au28,hx,bit_at x h0 h1 1 au1,half_w 1 0 rfl au1 au1]
 rw [racewayref22_Encode.l1,if_neg au1,c3,Int.ediv_one]
 simp only [List.append_assoc,List.singleton_append,bits8,List.cons_append,List.nil_append]
theorem bits8_len (x:Int):(bits8 x).length=8:=rfl
theorem bitsL_cons (x:Int) (l:List Int):bitsL (x :: l)=bits8 x++bitsL l:=rfl
theorem bitsL_len:∀ l:List Int,(bitsL l).length=8*l.length
 | []=>rfl
 | x :: l=>by rw [bitsL_cons,List.length_append,bits8_len,bitsL_len l,List.length_cons];omega
theorem enc_l0 (l:List Int) (hb:byteL l) (hl:l.length≤1000000):∀(d i k:Nat) (acc:List Int),i+d=l.length→acc.length+8*d≤10000000 →
  racewayref22_Encode.l0 (k+10*d+1) l acc (i:Int)=racewayref22_Encode.l2 k (acc++bitsL (l.drop i)):=by
 intro d
 induction d with
 | zero =>
  intro i k acc hi ha
  rw [racewayref22_Encode.l0,if_neg au0,List.drop_eq_nil_of_le au0]
  simp [bitsL]
 | succ d ih =>
  intro i k acc hi ha
  have hlt:i<l.length:=by omega
  have hx:=hb l[i] (List.getElem_mem hlt)
  have hrd:rd l (i:Int)=l[i]:=by simp [rd,List.getD_eq_getElem?_getD,List.getElem?_eq_getElem hlt]
  rw [show k+10*(d+1)+1=(k+10*d+1+9)+1 by omega,racewayref22_Encode.l0,if_pos au0,enc_l1 l i hlt hl l[i] hrd hx.1 hx.2 acc au0,ih (i+1) k _ au0 (by rw [List.length_append,bits8_len];omega),List.drop_eq_getElem_cons hlt,bitsL_cons,List.append_assoc]
theorem enc_l2:∀(p k:Nat) (b:List Int),(6 - b.length % 6) % 6=p→b.length+p≤100000000→racewayref22_Encode.l2 (k+p+1) b=racewayref22_Encode.l3 k (b++List.replicate p 0) ⟨#[]⟩ 0
 | 0,k,b,hp,hb=>by
  rw [racewayref22_Encode.l2,if_pos au0]
  simp
 | p+1,k,b,hp,hb=>by
  have ih:=enc_l2 p k (b++[0]) au44 au44
  rw [show k+(p+1)+1=(k+p+1)+1 by omega,racewayref22_Encode.l2,if_neg au0,if_pos au0,ih,List.append_assoc,List.replicate_succ]
  rfl
def six6:List Int→List Int
 | a :: b :: c :: d :: e :: f :: l=>(a*32+b*16+c*8+d*4+e*2+f) :: six6 l
 | _=>[]
def bitL (l:List Int):Prop:=∀ x∈l,0≤x∧x≤1
theorem enc_l4s (v b:Int) (hv:0≤v) (hv1:v<1000) (hb:0≤b∧b≤1):wrap64 (wrap64 (2*v)+b)=2*v+b:=by
 have h1:wrap64 (2*v)=2*v:=w64 au0 au0
 rw [h1]
 clear h1
 exact w64 au0 au0
theorem sign_piece (n:Nat) (h:n<64):(⟨#[65,66,67,68,69,70,71,72,73,74,75,76,77,78,79,80,81,82,83,84,85,86,87,88,89,90,97,98,99,100,101,102,103,104,105,106,107,108,109,110,111,112,113,114,115,116,117,118,119,120,121,122,48,49,50,51,52,53,54,55,56,57,43,47]⟩:ByteArray).extract n (n+1)=⟨#[signB (n:Int)]⟩:=by
 have:∀ n:Fin 64,((⟨#[65,66,67,68,69,70,71,72,73,74,75,76,77,78,79,80,81,82,83,84,85,86,87,88,89,90,97,98,99,100,101,102,103,104,105,106,107,108,109,110,111,112,113,114,115,116,117,118,119,120,121,122,48,49,50,51,52,53,54,55,56,57,43,47]⟩:ByteArray).extract n.val (n.val+1)).data.toList=[signB (n.val:Int)]:=by decide +kernel
 have h1:=this ⟨n,h⟩
 simp only at h1
 cases hx:(⟨#[65,66,67,68,69,70,71,72,73,74,75,76,77,78,79,80,81,82,83,84,85,86,87,88,89,90,97,98,99,100,101,102,103,104,105,106,107,108,109,110,111,112,113,114,115,116,117,118,119,120,121,122,48,49,50,51,52,53,54,55,56,57,43,47]⟩:ByteArray).extract n (n+1) with
 | mk d =>
  rw [hx] at h1
  congr 1
  exact Array.ext' h1
theorem enc_l4 (b:List Int) (i:Nat) (hi:i+6≤b.length) (hl:b.length≤100000000) (b0 b1 b2 b3 b4 b5:Int) (h0:rd b (i:Int)=b0) (h1:rd b ((i+1:Nat):Int)=b1) (h2:rd b ((i+2:Nat):Int)=b2) (h3:rd b ((i+3:Nat):Int)=b3) (h4:rd b ((i+4:Nat):Int)=b4) (h5:rd b ((i+5:Nat):Int)=b5)
  (q0:0≤b0∧b0≤1) (q1:0≤b1∧b1≤1) (q2:0≤b2∧b2≤1) (q3:0≤b3∧b3≤1) (q4:0≤b4∧b4≤1) (q5:0≤b5∧b5≤1) (out:ByteArray) (ho:out.size≤100000000) (k:Nat) :
  racewayref22_Encode.l4 (k+7) b out (i:Int) 0 0=racewayref22_Encode.l3 k b (out++⟨#[signB (b0*32+b1*16+b2*8+b3*4+b4*2+b5)]⟩) ((i+6:Nat):Int):=by
 have a0:wrap64 ((i:Int)+0)=(i:Int):=by rw [Int.add_zero];exact w64 au0 au0
 have a1:wrap64 ((i:Int)+1)=((i+1:Nat):Int):=by clear a0;rw [w64 au0 au0];omega
 have a2:wrap64 ((i:Int)+2)=((i+2:Nat):Int):=by clear a0 a1;rw [w64 au0 au0];omega
 have a3:wrap64 ((i:Int)+3)=((i+3:Nat):Int):=by clear a0 a1 a2;rw [w64 au0 au0];omega
 have a4:wrap64 ((i:Int)+4)=((i+4:Nat):Int):=by clear a0 a1 a2 a3;rw [w64 au0 au0];omega
 have a5:wrap64 ((i:Int)+5)=((i+5:Nat):Int):=by clear a0 a1 a2 a3 a4;rw [w64 au0 au0];omega
 have a6:wrap64 ((i:Int)+6)=((i+6:Nat):Int):=by clear a0 a1 a2 a3 a4 a5;rw [w64 au0 au0];omega
 have z1:wrap64 ((0:Int)+1)=1:=w64 au1 au1
 have z2:wrap64 ((1:Int)+1)=2:=w64 au1 au1
 have z3:wrap64 ((2:Int)+1)=3:=w64 au1 au1
 have z4:wrap64 ((3:Int)+1)=4:=w64 au1 au1
 have z5:wrap64 ((4:Int)+1)=5:=w64 au1 au1
 have z6:wrap64 ((5:Int)+1)=6:=w64 au1 au1
 have p0:∀ j:Nat,j<6→(0:Int)≤((i+j:Nat):Int)∧((i+j:Nat):Int)<(b.length:Int):=by intro j hj;clear a0 a1 a2 a3 a4 a5 a6 z1 z2 z3 z4 z5 z6;omega
 rw [racewayref22_Encode.l4,if_pos au1,a0,if_pos (show(0:Int)≤(i:Int) from (p0 0 au1).1),if_pos (show(i:Int)<(b.length:Int) from (p0 0 au1).2),h0,enc_l4s 0 b0 au1 au1 q0,z1]
 rw [racewayref22_Encode.l4,if_pos au1,a1,if_pos (p0 1 au1).1,if_pos (p0 1 au1).2,h1,enc_l4s (2*0+b0) b1 au0 au0 q1,z2]
 rw [racewayref22_Encode.l4,if_pos au1,a2,if_pos (p0 2 au1).1,if_pos (p0 2 au1).2,h2,enc_l4s (2*(2*0+b0)+b1) b2 au0 au0 q2,z3]
 rw [racewayref22_Encode.l4,if_pos au1,a3,if_pos (p0 3 au1).1,if_pos (p0 3 au1).2,h3,enc_l4s (2*(2*(2*0+b0)+b1)+b2) b3 au0 au0 q3,z4]
 rw [racewayref22_Encode.l4,if_pos au1,a4,if_pos (p0 4 au1).1,if_pos (p0 4 au1).2,h4,enc_l4s (2*(2*(2*(2*0+b0)+b1)+b2)+b3) b4 au0 au0 q4,z5]
 rw [racewayref22_Encode.l4,if_pos au1,a5,if_pos (p0 5 au1).1,if_pos (p0 5 au1).2,h5,enc_l4s (2*(2*(2*(2*(2*0+b0)+b1)+b2)+b3)+b4) b5 au0 au0 q5,z6]
 clear a0 a1 a2 a3 a4 a5 z1 z2 z3 z4 z5 z6
 have hv:2*(2*(2*(2*(2*(2*0+b0)+b1)+b2)+b3)+b4)+b5=b0*32+b1*16+b2*8+b3*4+b4*2+b5:=by clear a6;omega
 rw [racewayref22_Encode.l4,if_neg au1,hv]
 have hv0:0≤b0*32+b1*16+b2*8+b3*4+b4*2+b5∧b0*32+b1*16+b2*8+b3*4+b4*2+b5<64:=by clear a6 hv;omega
 generalize b0*32+b1*16+b2*8+b3*4+b4*2+b5=v at *
 obtain ⟨n,rfl⟩:=Int.eq_ofNat_of_zero_le hv0.1
 have hn:n<64:=by clear a6 hv;omega
 have e1:wrap64 ((n:Int)+1)=((n+1:Nat):Int):=by clear a6 hv;rw [w64 au0 au0];omega
 have s1:(n:Int)≤((n+1:Nat):Int):=by clear a6 hv e1;omega
 have s2:((n+1:Nat):Int)≤64:=by clear a6 hv e1;omega
 rw [if_pos hv0.1,e1,if_pos s1,if_pos s2,Int.toNat_natCast,Int.toNat_natCast,sign_piece n hn,if_pos (by clear a6 hv e1;show out.size+1≤_;omega),a6]
theorem rd_app (l:List Int) (i:Nat) (h:i<l.length):rd l (i:Int)=l[i]:=by simp [rd,List.getD_eq_getElem?_getD,List.getElem?_eq_getElem h]
theorem six6_len:∀(m:Nat) (l:List Int),l.length=6*m→(six6 l).length=m
 | 0,l,h=>by
  have:l=[]:=List.length_eq_zero_iff.1 au0
  subst this;rfl
 | m+1,l,h=>by
  match l,h with
  | a :: b :: c :: d :: e :: f :: l,h=>rw [six6,List.length_cons,six6_len m l (by simp only [List.length_cons] at h;omega)]
theorem enc_l3 (b:List Int) (hb:bitL b) (hl:b.length≤10000000):∀(d i k:Nat) (out:List UInt8),i+6*d=b.length→out.length+d≤10000000 →
  racewayref22_Encode.l3 (k+8*d+1) b ⟨out.toArray⟩ (i:Int)=racewayref22_Encode.l5 k ⟨(out++(six6 (b.drop i)).map signB).toArray⟩:=by
 intro d
 induction d with
 | zero =>
  intro i k out hi ho
  rw [racewayref22_Encode.l3,if_neg au0,List.drop_eq_nil_of_le au0]
  simp [six6]
 | succ d ih =>
  intro i k out hi ho
  have hlt:i+6≤b.length:=by omega
  have e:b.drop i=b[i] :: b[i+1] :: b[i+2] :: b[i+3] :: b[i+4] :: b[i+5] :: b.drop (i+6):=by
   rw [List.drop_eq_getElem_cons au0,List.drop_eq_getElem_cons (i:=i+1) au0,List.drop_eq_getElem_cons (i:=i+1+1) au0,List.drop_eq_getElem_cons (i:=i+1+1+1) au0,List.drop_eq_getElem_cons (i:=i+1+1+1+1) au0,List.drop_eq_getElem_cons (i:=i+1+1+1+1+1) au0]
  have hm:∀ j (h:j<b.length),0≤b[j]∧b[j]≤1:=fun j h=>hb _ (List.getElem_mem h)
  have hos:(⟨out.toArray⟩:ByteArray).size=out.length:=by simp [ByteArray.size]
  rw [show k+8*(d+1)+1=(k+8*d+1+7)+1 by omega,racewayref22_Encode.l3,if_pos au0,
   enc_l4 b i hlt au0 _ _ _ _ _ _ (rd_app b i au0) (rd_app b (i+1) au0) (rd_app b (i+2) au0) (rd_app b (i+3) au0) (rd_app b (i+4) au0) (rd_app b (i+5) au0) (hm _ _) (hm _ _) (hm _ _) (hm _ _) (hm _ _) (hm _ _) _ (by rw [hos];omega) (k+8*d+1)]
  have hcat:(⟨out.toArray⟩:ByteArray)++(⟨#[signB (b[i]*32+b[i+1]*16+b[i+2]*8+b[i+3]*4+b[i+4]*2+b[i+5])]⟩:ByteArray)=⟨(out++[signB (b[i]*32+b[i+1]*16+b[i+2]*8+b[i+3]*4+b[i+4]*2+b[i+5])]).toArray⟩:=by
   rw [ByteArray.ext_iff]
   simp
  rw [hcat,ih (i+6) k _ au0 au44,e,six6,List.map_cons,List.append_assoc]
  rfl
theorem enc_l5:∀(q k:Nat) (s:List UInt8),(4 - s.length % 4) % 4=q→s.length+q≤100000000→racewayref22_Encode.l5 (k+q+1) ⟨s.toArray⟩=some ⟨(s++List.replicate q 61).toArray⟩
 | 0,k,s,hq,hs=>by
  have hos:(⟨s.toArray⟩:ByteArray).size=s.length:=by simp [ByteArray.size]
  rw [racewayref22_Encode.l5,hos,if_pos au0]
  simp
 | q+1,k,s,hq,hs=>by
  have hos:(⟨s.toArray⟩:ByteArray).size=s.length:=by simp [ByteArray.size]
  have ih:=enc_l5 q k (s++[61]) au44 au44
  have hcat:(⟨s.toArray⟩:ByteArray)++(⟨#[61]⟩:ByteArray)=⟨(s++[61]).toArray⟩:=by
   rw [ByteArray.ext_iff]
   simp
  rw [show k+(q+1)+1=(k+q+1)+1 by omega,racewayref22_Encode.l5,hos,if_neg au0,if_pos au0,hcat,ih,List.append_assoc,List.replicate_succ]
  rfl
theorem bits8_bit (x:Int):bitL (bits8 x):=by
 intro y hy
 simp only [bits8,List.mem_cons,List.not_mem_nil,or_false] at hy
 rcases hy with rfl|rfl|rfl|rfl|rfl|rfl|rfl|rfl<;>omega
theorem bitsL_bit:∀ l:List Int,bitL (bitsL l)
 | []=>fun y hy=>by simp [bitsL] at hy
 | x :: l=>fun y hy=>by
  rw [bitsL_cons] at hy
  exact(List.mem_append.1 hy).elim (bits8_bit x y) (bitsL_bit l y)
theorem v_hi (x:Int) (h0:0≤x) (h1:x<256):x / 128 % 2*32+x / 64 % 2*16+x / 32 % 2*8+x / 16 % 2*4+x / 8 % 2*2+x / 4 % 2=x / 4:=by omega
theorem v_mid (x y:Int) (h0:0≤x) (h1:x<256) (g0:0≤y) (g1:y<256):x / 2 % 2*32+x % 2*16+y / 128 % 2*8+y / 64 % 2*4+y / 32 % 2*2+y / 16 % 2=x % 4*16+y / 16:=by omega
theorem v_low (y z:Int) (h0:0≤y) (h1:y<256) (g0:0≤z) (g1:z<256):y / 8 % 2*32+y / 4 % 2*16+y / 2 % 2*8+y % 2*4+z / 128 % 2*2+z / 64 % 2=y % 16*4+z / 64:=by omega
theorem v_end (z:Int) (h0:0≤z) (h1:z<256):z / 32 % 2*32+z / 16 % 2*16+z / 8 % 2*8+z / 4 % 2*4+z / 2 % 2*2+z % 2=z % 64:=by omega
theorem six_bits:∀ l:List Int,byteL l→six6 (bitsL l++List.replicate ((6 - (bitsL l).length % 6) % 6) 0)=sexR l
 | [],_=>rfl
 | [x],h=>by
  have hx:=h x au5
  rw [show(6 - (bitsL [x]).length % 6) % 6=4 by simp [bitsL_len]]
  show six6 [x / 128 % 2,x / 64 % 2,x / 32 % 2,x / 16 % 2,x / 8 % 2,x / 4 % 2,x / 2 % 2,x % 2,0,0,0,0]=[x / 4,x % 4*16]
  simp only [six6]
  rw [v_hi x hx.1 hx.2]
  have:=v_mid x 0 hx.1 hx.2 au1 au1
  congr 2
  simpa using this
 | [x,y],h=>by
  have hx:=h x au5;have hy:=h y au5
  rw [show(6 - (bitsL [x,y]).length % 6) % 6=2 by simp [bitsL_len]]
  show six6 [x / 128 % 2,x / 64 % 2,x / 32 % 2,x / 16 % 2,x / 8 % 2,x / 4 % 2,x / 2 % 2,x % 2,y / 128 % 2,y / 64 % 2,y / 32 % 2,y / 16 % 2,y / 8 % 2,y / 4 % 2,y / 2 % 2,y % 2,0,0]=[x / 4,x % 4*16+y / 16,y % 16*4]
  simp only [six6]
  rw [v_hi x hx.1 hx.2,v_mid x y hx.1 hx.2 hy.1 hy.2]
  have:=v_low y 0 hy.1 hy.2 au1 au1
  congr 3
  simpa using this
 | x :: y :: z :: l,h=>by
  have hx:=h x au5;have hy:=h y au5;have hz:=h z au5
  have ih:=six_bits l (fun a ha=>h a (by simp [ha]))
  have hlen:(bitsL (x :: y :: z :: l)).length % 6=(bitsL l).length % 6:=by rw [bitsL_len,bitsL_len];simp only [List.length_cons];omega
  rw [hlen,bitsL_cons,bitsL_cons,bitsL_cons,List.append_assoc,List.append_assoc,List.append_assoc]
  show six6 (x / 128 % 2 :: x / 64 % 2 :: x / 32 % 2 :: x / 16 % 2 :: x / 8 % 2 :: x / 4 % 2 :: x / 2 % 2 :: x % 2 :: y / 128 % 2 :: y / 64 % 2 :: y / 32 % 2 :: y / 16 % 2 :: y / 8 % 2 :: y / 4 % 2 :: y / 2 % 2 :: y % 2 :: z / 128 % 2 :: z / 64 % 2 :: z / 32 % 2 :: z / 16 % 2 :: z / 8 % 2 :: z / 4 % 2 :: z / 2 % 2 :: z % 2 :: (bitsL l++List.replicate ((6 - (bitsL l).length % 6) % 6) 0))=_
  simp only [six6]
  rw [v_hi x hx.1 hx.2,v_mid x y hx.1 hx.2 hy.1 hy.2,v_low y z hy.1 hy.2 hz.1 hz.2,v_end z hz.1 hz.2,ih]
  rfl
theorem rEncode_is (l:List Int) (hb:byteL l) (hl:l.length≤100000) (k:Nat) (hk:22*l.length+60≤k):racewayref22_Encode.f k l=some ⟨(encR l).toArray⟩:=by
 have hbl:=bitsL_len l
 obtain ⟨p,hp⟩:∃ p,(6 - (bitsL l).length % 6) % 6=p:=⟨_,rfl⟩
 have hsix:=six_bits l hb
 rw [hp] at hsix
 obtain ⟨B,hB⟩:∃ B,bitsL l++List.replicate p 0=B:=⟨_,rfl⟩
 have hBb:bitL B:=by
  rw [← hB]
  intro y hy
  rcases List.mem_append.1 hy with h|h
  ·exact bitsL_bit l y h
  ·rw [List.eq_of_mem_replicate h];decide
 have hBl:B.length=(bitsL l).length+p:=by rw [← hB];simp
 obtain ⟨m,hm⟩:∃ m,B.length=6*m:=⟨B.length / 6,au0⟩
 rw [hB] at hsix
 have hml:=six6_len m B hm
 have hsl:(sexR l).length=m:=by rw [← hsix];exact hml
 have h1:=sexR_len l
 obtain ⟨q,hq⟩:∃ q,(4 - (sexR l).length % 4) % 4=q:=⟨_,rfl⟩
 obtain ⟨r,rfl⟩:∃ r,k=(((r+q+1)+8*m+1)+p+1)+10*l.length+1:=⟨k - (q+1+8*m+1+p+1+10*l.length+1),au0⟩
 rw [racewayref22_Encode.f,show(0:Int)=((0:Nat):Int) from rfl,enc_l0 l hb au0 l.length 0 _ [] au0 au16,List.drop_zero,List.nil_append,enc_l2 p _ _ hp au0,hB]
 have h3:=enc_l3 B hBb au0 m 0 (r+q+1) [] au0 au16
 rw [List.drop_zero,List.nil_append,hsix] at h3
 refine h3.trans ?_
 rw [enc_l5 q r _ (by rw [List.length_map];exact hq) (by rw [List.length_map];omega),encR_sex,hq]
mutual
def racewayref25_quote.l0:Nat→ByteArray→ByteArray→Int→Option (ByteArray)
 | 0,_,_,_=>none
 | k+1,x0,x3,x4=>if x4<(x0.size:Int) then(if 0≤x4 then(racewayref25_quote.l1 k x0 x3 x4 (bt x0 x4) false 0) else(none)) else(if x3.size+1≤9223372036854775807 then(some (x3++(⟨#[34]⟩:ByteArray))) else(none))
def racewayref25_quote.l1:Nat→ByteArray→ByteArray→Int→Int→Bool→Int→Option (ByteArray)
 | 0,_,_,_,_,_,_=>none
 | k+1,x0,x3,x4,x5,x6,x7=>if x7<8 then(if 0≤x7 then(if x5=(bt (⟨#[34,92,47,8,12,10,13,9]⟩:ByteArray) x7) then(if x5=47 then(racewayref25_quote.l1 k x0 x3 x4 x5 x6 (wrap64 (x7+1))) else(if x3.size+1≤9223372036854775807 then(if x7≤(wrap64 (x7+1)) then(if(wrap64 (x7+1))≤8 then(if x3.size+1+((⟨#[34,92,47,98,102,110,114,116]⟩:ByteArray).extract (x7:Int).toNat ((wrap64 (x7+1)):Int).toNat).size≤9223372036854775807 then(racewayref25_quote.l1 k x0 ((x3++(⟨#[92]⟩:ByteArray))++((⟨#[34,92,47,98,102,110,114,116]⟩:ByteArray).extract (x7:Int).toNat ((wrap64 (x7+1)):Int).toNat)) x4 x5 true (wrap64 (x7+1))) else(none)) else(none)) else(none)) else(none))) else(racewayref25_quote.l1 k x0 x3 x4 x5 x6 (wrap64 (x7+1)))) else(none)) else(if x6=true then(racewayref25_quote.l0 k x0 x3 (wrap64 (x4+1))) else(if x5<32 then(if x3.size+4≤9223372036854775807 then(if 0≤((Int.tdiv x5 16) % 256) then(if((Int.tdiv x5 16) % 256)≤((((Int.tdiv x5 16) % 256)+1) % 256) then(if((((Int.tdiv x5 16) % 256)+1) % 256)≤16 then(if x3.size+4+((⟨#[48,49,50,51,52,53,54,55,56,57,97,98,99,100,101,102]⟩:ByteArray).extract (((Int.tdiv x5 16) % 256):Int).toNat (((((Int.tdiv x5 16) % 256)+1) % 256):Int).toNat).size≤9223372036854775807 then(if 0≤(Int.tmod x5 16) then(if(Int.tmod x5 16)≤(((Int.tmod x5 16)+1) % 256) then(if(((Int.tmod x5 16)+1) % 256)≤16 then(if x3.size+4+(((⟨#[48,49,50,51,52,53,54,55,56,57,97,98,99,100,101,102]⟩:ByteArray).extract (((Int.tdiv x5 16) % 256):Int).toNat (((((Int.tdiv x5 16) % 256)+1) % 256):Int).toNat).size)+((⟨#[48,49,50,51,52,53,54,55,56,57,97,98,99,100,101,102]⟩:ByteArray).extract ((Int.tmod x5 16):Int).toNat ((((Int.tmod x5 16)+1) % 256):Int).toNat).size≤9223372036854775807 then(racewayref25_quote.l0 k x0 (((x3++(⟨#[92,117,48,48]⟩:ByteArray))++((⟨#[48,49,50,51,52,53,54,55,56,57,97,98,99,100,101,102]⟩:ByteArray).extract (((Int.tdiv x5 16) % 256):Int).toNat (((((Int.tdiv x5 16) % 256)+1) % 256):Int).toNat))++((⟨#[48,49,50,51,52,53,54,55,56,57,97,98,99,100,101,102]⟩:ByteArray).extract ((Int.tmod x5 16):Int).toNat ((((Int.tmod x5 16)+1) % 256):Int).toNat)) (wrap64 (x4+1))) else(none)) else(none)) else(none)) else(none)) else(none)) else(none)) else(none)) else(none)) else(none)) else(if 0≤x4 then(if x4≤(wrap64 (x4+1)) then(if(wrap64 (x4+1))≤(x0.size:Int) then(if x3.size+(x0.extract (x4:Int).toNat ((wrap64 (x4+1)):Int).toNat).size≤9223372036854775807 then(racewayref25_quote.l0 k x0 (x3++(x0.extract (x4:Int).toNat ((wrap64 (x4+1)):Int).toNat)) (wrap64 (x4+1))) else(none)) else(none)) else(none)) else(none))))
end
def racewayref25_quote.f (k:Nat) (a0:ByteArray):Option (ByteArray):=racewayref25_quote.l0 k a0 (⟨#[34]⟩:ByteArray) 0
set_option maxHeartbeats 8000000 in
set_option maxRecDepth 100000 in
theorem racewayref25_quote.calls (k:Nat) (a0:ByteArray) (r:ByteArray) (w:World) (h:racewayref25_quote.f k a0=some r) :
  Calls Tryd.prog 55 #[.string a0] w fun e w'=>e=.returned (.string r)∧Drawn0 w w':=by
 have H:(racewayref25_quote.l0 k a0 (⟨#[34]⟩:ByteArray) 0)=some r:=h
 clear h
 have H':=Aside0.mk H
 clear H
 go_enter Tryd.func55,Tryd.ntmps55
 go_wp2
 repeat(go_quiet (fail);try go_wp2)
 go_loopg [3,4] k (fun kq v3 v4 w'=>∃(x3_1:ByteArray) (x4_1:Int),v3=.string x3_1∧v4=.int .i64 x4_1∧Aside0 (racewayref25_quote.l0 kq a0 x3_1 x4_1=some r)∧Aside0 (kq≤k)∧Drawn0 w w')
 case atStart=>exact ⟨((⟨#[34]⟩:ByteArray)),(0),au4,au4,au9,⟨Nat.le_refl _⟩,au8⟩
 case round =>
  clear H'
  obtain ⟨x3_1,x4_1,rfl,rfl,HA,HK1,⟨m1,rfl⟩⟩:=hrel
  cases gk with
  | zero=>exact absurd HA.out (by simp [racewayref25_quote.l0])
  | succ k1 =>
   have H:=HA.out
   clear HA
   simp only [racewayref25_quote.l0] at H
   by_cases c2:x4_1<(a0.size:Int)
   ·rw [if_pos c2] at H
    have c2b0:decide (x4_1<(a0.size:Int))=true:=decide_eq_true c2
    clear c2
    by_cases c3:0≤x4_1
    ·rw [if_pos c3] at H
     have c3b0:decide (0≤x4_1)=true:=decide_eq_true c3
     clear c3
     have H':=Aside0.mk H
     clear H
     have p4:0≤(x4_1:Int):=of_decide_eq_true au7
     have q4:x4_1<(a0.size:Int):=of_decide_eq_true au7
     have hx4:=bt_at a0 x4_1
     replace p4:=eq_true p4
     replace q4:=eq_true q4
     go_wp2
     repeat(go_quiet (fail);try go_wp2)
     go_loopg [3,6,7] k1 (fun kq v3 v6 v7 w'=>∃(x3_2:ByteArray) (x6_2:Bool) (x7_2:Int),v3=.string x3_2∧v6=.bool x6_2∧v7=.int .i64 x7_2∧Aside0 (racewayref25_quote.l1 kq a0 x3_2 x4_1 (bt a0 x4_1) x6_2 x7_2=some r)∧Aside0 (kq≤k1)∧Drawn0 w w')
     case atStart=>exact ⟨(x3_1),(false),(0),au4,au4,au4,au9,⟨Nat.le_refl _⟩,au8⟩
     case round =>
      clear H'
      obtain ⟨x3_2,x6_2,x7_2,rfl,rfl,rfl,HA,HK2,⟨m2,rfl⟩⟩:=hrel
      cases gk with
      | zero=>exact absurd HA.out (by simp [racewayref25_quote.l1])
      | succ k2 =>
       have H:=HA.out
       clear HA
       simp only [racewayref25_quote.l1] at H
       by_cases c5:x7_2<8
       ·rw [if_pos c5] at H
        have c5b0:decide (x7_2<8)=true:=decide_eq_true c5
        clear c5
        by_cases c6:0≤x7_2
        ·rw [if_pos c6] at H
         have c6b0:decide (0≤x7_2)=true:=decide_eq_true c6
         clear c6
         by_cases c8:(bt a0 x4_1)=(bt (⟨#[34,92,47,8,12,10,13,9]⟩:ByteArray) x7_2)
         ·rw [if_pos c8] at H
          have c8b0:((bt a0 x4_1)==(bt (⟨#[34,92,47,8,12,10,13,9]⟩:ByteArray) x7_2))=true:=beq_iff_eq.mpr c8
          have c8b1:((bt a0 x4_1) != (bt (⟨#[34,92,47,8,12,10,13,9]⟩:ByteArray) x7_2))=false:=bne_eq_false_iff_eq.mpr c8
          clear c8
          by_cases c9:(bt a0 x4_1)=47
          ·rw [if_pos c9] at H
           have c9b0:((bt a0 x4_1)==47)=true:=beq_iff_eq.mpr c9
           have c9b1:((bt a0 x4_1) != 47)=false:=bne_eq_false_iff_eq.mpr c9
           clear c9
           have H':=Aside0.mk H
           clear H
           have p7:0≤(x7_2:Int):=of_decide_eq_true au7
           have q7:x7_2<(8:Int):=of_decide_eq_true au7
           have hx7:=bt_at (⟨#[34,92,47,8,12,10,13,9]⟩:ByteArray) x7_2
           replace p7:=eq_true p7
           replace q7:=eq_true q7
           go_wp2
           repeat(go_quiet (fail);try go_wp2)
           go_roundg k2
           case measure=>have:=HK1.out;have:=HK2.out;omega
           case rel=>exact ⟨(x3_2),(x6_2),(wrap64 (x7_2+1)),au4,au4,au4,au9,⟨au26⟩,au8⟩
          ·rw [if_neg c9] at H
           have c9b0:((bt a0 x4_1)==47)=false:=beq_eq_false_iff_ne.mpr c9
           have c9b1:((bt a0 x4_1) != 47)=true:=bne_iff_ne.mpr c9
           by_cases c10:x3_2.size+1≤9223372036854775807
           ·rw [if_pos c10] at H
            have c10b0:=eq_true c10
            have c10b1:decide (x3_2.size+1≤9223372036854775807)=true:=decide_eq_true c10
            try have c10b2:(9223372036854775807<x3_2.size+1)=False:=eq_false (Nat.not_lt.2 c10)
            have c11b0:=eq_true (of_decide_eq_true au7:0≤x7_2)
            by_cases c12:x7_2≤(wrap64 (x7_2+1))
            ·rw [if_pos c12] at H
             have c12b0:=eq_true c12
             have c12b1:decide (x7_2≤(wrap64 (x7_2+1)))=true:=decide_eq_true c12
             by_cases c13:(wrap64 (x7_2+1))≤8
             ·rw [if_pos c13] at H
              have c13b0:=eq_true c13
              have c13b1:decide ((wrap64 (x7_2+1))≤8)=true:=decide_eq_true c13
              by_cases c14:x3_2.size+1+((⟨#[34,92,47,98,102,110,114,116]⟩:ByteArray).extract (x7_2:Int).toNat ((wrap64 (x7_2+1)):Int).toNat).size≤9223372036854775807
              ·rw [if_pos c14] at H
               have c14b0:=eq_true c14
               have c14b1:decide (x3_2.size+1+((⟨#[34,92,47,98,102,110,114,116]⟩:ByteArray).extract (x7_2:Int).toNat ((wrap64 (x7_2+1)):Int).toNat).size≤9223372036854775807)=true:=decide_eq_true c14
               try have c14b2:(9223372036854775807<x3_2.size+1+((⟨#[34,92,47,98,102,110,114,116]⟩:ByteArray).extract (x7_2:Int).toNat ((wrap64 (x7_2+1)):Int).toNat).size)=False:=eq_false (Nat.not_lt.2 c14)
               try have c14b4:(9223372036854775807<x3_2.size+1+((wrap64 (x7_2+1)).toNat - x7_2.toNat))=False:=eq_false (by have h_:=c14;have h8_:(wrap64 (x7_2+1))≤8:=of_eq_true (by assumption);simp only [ByteArray.size_extract,show(⟨#[34,92,47,98,102,110,114,116]⟩:ByteArray).size=8 from rfl] at h_;omega)
               have H':=Aside0.mk H
               clear H
               have p7:0≤(x7_2:Int):=of_decide_eq_true au7
               have q7:x7_2<(8:Int):=of_decide_eq_true au7
               have hx7:=bt_at (⟨#[34,92,47,8,12,10,13,9]⟩:ByteArray) x7_2
               replace p7:=eq_true p7
               replace q7:=eq_true q7
               go_wp2
               repeat(go_quiet (fail);try go_wp2)
               go_roundg k2
               case measure=>have:=HK1.out;have:=HK2.out;omega
               case rel=>exact ⟨((x3_2++(⟨#[92]⟩:ByteArray))++((⟨#[34,92,47,98,102,110,114,116]⟩:ByteArray).extract (x7_2:Int).toNat ((wrap64 (x7_2+1)):Int).toNat)),(true),(wrap64 (x7_2+1)),au4,au4,au4,au9,⟨au26⟩,au8⟩
              ·rw [if_neg c14] at H
               exact absurd H au5
             ·rw [if_neg c13] at H
              exact absurd H au5
            ·rw [if_neg c12] at H
             exact absurd H au5
           ·rw [if_neg c10] at H
            exact absurd H au5
         ·rw [if_neg c8] at H
          have c8b0:((bt a0 x4_1)==(bt (⟨#[34,92,47,8,12,10,13,9]⟩:ByteArray) x7_2))=false:=beq_eq_false_iff_ne.mpr c8
          have c8b1:((bt a0 x4_1) != (bt (⟨#[34,92,47,8,12,10,13,9]⟩:ByteArray) x7_2))=true:=bne_iff_ne.mpr c8
          have H':=Aside0.mk H
          clear H
          have p7:0≤(x7_2:Int):=of_decide_eq_true au7
          have q7:x7_2<(8:Int):=of_decide_eq_true au7
          have hx7:=bt_at (⟨#[34,92,47,8,12,10,13,9]⟩:ByteArray) x7_2
          replace p7:=eq_true p7
          replace q7:=eq_true q7
          go_wp2
          repeat(go_quiet (fail);try go_wp2)
          go_roundg k2
          case measure=>have:=HK1.out;have:=HK2.out;omega
          case rel=>exact ⟨(x3_2),(x6_2),(wrap64 (x7_2+1)),au4,au4,au4,au9,⟨au26⟩,au8⟩
        ·rw [if_neg c6] at H
         exact absurd H au5
       ·rw [if_neg c5] at H
        have c5b0:decide (x7_2<8)=false:=decide_eq_false c5
        clear c5
        by_cases c15:x6_2=true
        ·subst c15
         replace H:(racewayref25_quote.l0 k2 a0 x3_2 (wrap64 (x4_1+1)))=some r:=by rw [if_pos rfl] at H;exact H
         have H':=Aside0.mk H
         clear H
         go_wp2
         repeat(go_quiet (fail);try go_wp2)
         go_roundg k2
         case measure=>have:=HK1.out;have:=HK2.out;omega
         case rel=>exact ⟨(x3_2),(wrap64 (x4_1+1)),au4,au4,au9,⟨au26⟩,au8⟩
        ·replace c15:=Bool.eq_false_iff.mpr c15
         subst c15
         replace H:(if(bt a0 x4_1)<32 then(if x3_2.size+4≤9223372036854775807 then(if 0≤((Int.tdiv (bt a0 x4_1) 16) % 256) then(if((Int.tdiv (bt a0 x4_1) 16) % 256)≤((((Int.tdiv (bt a0 x4_1) 16) % 256)+1) % 256) then(if((((Int.tdiv (bt a0 x4_1) 16) % 256)+1) % 256)≤16 then(if x3_2.size+4+((⟨#[48,49,50,51,52,53,54,55,56,57,97,98,99,100,101,102]⟩:ByteArray).extract (((Int.tdiv (bt a0 x4_1) 16) % 256):Int).toNat (((((Int.tdiv (bt a0 x4_1) 16) % 256)+1) % 256):Int).toNat).size≤9223372036854775807 then(if 0≤(Int.tmod (bt a0 x4_1) 16) then(if(Int.tmod (bt a0 x4_1) 16)≤(((Int.tmod (bt a0 x4_1) 16)+1) % 256) then(if(((Int.tmod (bt a0 x4_1) 16)+1) % 256)≤16 then(if x3_2.size+4+(((⟨#[48,49,50,51,52,53,54,55,56,57,97,98,99,100,101,102]⟩:ByteArray).extract (((Int.tdiv (bt a0 x4_1) 16) % 256):Int).toNat (((((Int.tdiv (bt a0 x4_1) 16) % 256)+1) % 256):Int).toNat).size)+((⟨#[48,49,50,51,52,53,54,55,56,57,97,98,99,100,101,102]⟩:ByteArray).extract ((Int.tmod (bt a0 x4_1) 16):Int).toNat ((((Int.tmod (bt a0 x4_1) 16)+1) % 256):Int).toNat).size≤9223372036854775807 then(racewayref25_quote.l0 k2 a0 (((x3_2++(⟨#[92,117,48,48]⟩:ByteArray))++((⟨#[48,49,50,51,52,53,54,55,56,57,97,98,99,100,101,102]⟩:ByteArray).extract (((Int.tdiv (bt a0 x4_1) 16) % 256):Int).toNat (((((Int.tdiv (bt a0 x4_1) 16) % 256)+1) % 256):Int).toNat))++((⟨#[48,49,50,51,52,53,54,55,56,57,97,98,99,100,101,102]⟩:ByteArray).extract ((Int.tmod (bt a0 x4_1) 16):Int).toNat ((((Int.tmod (bt a0 x4_1) 16)+1) % 256):Int).toNat)) (wrap64 (x4_1+1))) else(none)) else(none)) else(none)) else(none)) else(none)) else(none)) else(none)) else(none)) else(none)) else(if 0≤x4_1 then(if x4_1≤(wrap64 (x4_1+1)) then(if(wrap64 (x4_1+1))≤(a0.size:Int) then(if x3_2.size+(a0.extract (x4_1:Int).toNat ((wrap64 (x4_1+1)):Int).toNat).size≤9223372036854775807 then(racewayref25_quote.l0 k2 a0 (x3_2++(a0.extract (x4_1:Int).toNat ((wrap64 (x4_1+1)):Int).toNat)) (wrap64 (x4_1+1))) else(none)) else(none)) else(none)) else(none)))=some r:=by rw [if_neg (show ¬ (false=true) by decide)] at H;exact H
         by_cases c16:(bt a0 x4_1)<32
         ·rw [if_pos c16] at H
          have c16b0:decide ((bt a0 x4_1)<32)=true:=decide_eq_true c16
          clear c16
          by_cases c17:x3_2.size+4≤9223372036854775807
          ·rw [if_pos c17] at H
           have c17b0:=eq_true c17
           have c17b1:decide (x3_2.size+4≤9223372036854775807)=true:=decide_eq_true c17
           try have c17b2:(9223372036854775807<x3_2.size+4)=False:=eq_false (Nat.not_lt.2 c17)
           obtain ⟨ji18,hji18⟩:∃ j_:Int,((Int.tdiv (bt a0 x4_1) 16) % 256)=j_:=⟨_,rfl⟩
           replace H:(if 0≤(ji18) then(if(ji18)≤(((ji18)+1) % 256) then(if(((ji18)+1) % 256)≤16 then(if x3_2.size+4+((⟨#[48,49,50,51,52,53,54,55,56,57,97,98,99,100,101,102]⟩:ByteArray).extract ((ji18):Int).toNat ((((ji18)+1) % 256):Int).toNat).size≤9223372036854775807 then(if 0≤(Int.tmod (bt a0 x4_1) 16) then(if(Int.tmod (bt a0 x4_1) 16)≤(((Int.tmod (bt a0 x4_1) 16)+1) % 256) then(if(((Int.tmod (bt a0 x4_1) 16)+1) % 256)≤16 then(if x3_2.size+4+(((⟨#[48,49,50,51,52,53,54,55,56,57,97,98,99,100,101,102]⟩:ByteArray).extract ((ji18):Int).toNat ((((ji18)+1) % 256):Int).toNat).size)+((⟨#[48,49,50,51,52,53,54,55,56,57,97,98,99,100,101,102]⟩:ByteArray).extract ((Int.tmod (bt a0 x4_1) 16):Int).toNat ((((Int.tmod (bt a0 x4_1) 16)+1) % 256):Int).toNat).size≤9223372036854775807 then(racewayref25_quote.l0 k2 a0 (((x3_2++(⟨#[92,117,48,48]⟩:ByteArray))++((⟨#[48,49,50,51,52,53,54,55,56,57,97,98,99,100,101,102]⟩:ByteArray).extract ((ji18):Int).toNat ((((ji18)+1) % 256):Int).toNat))++((⟨#[48,49,50,51,52,53,54,55,56,57,97,98,99,100,101,102]⟩:ByteArray).extract ((Int.tmod (bt a0 x4_1) 16):Int).toNat ((((Int.tmod (bt a0 x4_1) 16)+1) % 256):Int).toNat)) (wrap64 (x4_1+1))) else(none)) else(none)) else(none)) else(none)) else(none)) else(none)) else(none)) else(none))=some r:=by first|(rw [hji18] at H;exact H)|(simp only [hji18] at H ⊢;exact H)
           by_cases c19:0≤(ji18)
           ·rw [if_pos c19] at H
            have c19b0:=eq_true c19
            have c19b1:decide (0≤(ji18))=true:=decide_eq_true c19
            clear c19
            by_cases c20:(ji18)≤(((ji18)+1) % 256)
            ·rw [if_pos c20] at H
             have c20b0:=eq_true c20
             have c20b1:decide ((ji18)≤(((ji18)+1) % 256))=true:=decide_eq_true c20
             by_cases c21:(((ji18)+1) % 256)≤16
             ·rw [if_pos c21] at H
              have c21b0:=eq_true c21
              have c21b1:decide ((((ji18)+1) % 256)≤16)=true:=decide_eq_true c21
              by_cases c22:x3_2.size+4+((⟨#[48,49,50,51,52,53,54,55,56,57,97,98,99,100,101,102]⟩:ByteArray).extract ((ji18):Int).toNat ((((ji18)+1) % 256):Int).toNat).size≤9223372036854775807
              ·rw [if_pos c22] at H
               have c22b0:=eq_true c22
               have c22b1:decide (x3_2.size+4+((⟨#[48,49,50,51,52,53,54,55,56,57,97,98,99,100,101,102]⟩:ByteArray).extract ((ji18):Int).toNat ((((ji18)+1) % 256):Int).toNat).size≤9223372036854775807)=true:=decide_eq_true c22
               try have c22b2:(9223372036854775807<x3_2.size+4+((⟨#[48,49,50,51,52,53,54,55,56,57,97,98,99,100,101,102]⟩:ByteArray).extract ((ji18):Int).toNat ((((ji18)+1) % 256):Int).toNat).size)=False:=eq_false (Nat.not_lt.2 c22)
               obtain ⟨ji23,hji23⟩:∃ j_:Int,(Int.tmod (bt a0 x4_1) 16)=j_:=⟨_,rfl⟩
               replace H:(if 0≤(ji23) then(if(ji23)≤(((ji23)+1) % 256) then(if(((ji23)+1) % 256)≤16 then(if x3_2.size+4+(((⟨#[48,49,50,51,52,53,54,55,56,57,97,98,99,100,101,102]⟩:ByteArray).extract ((ji18):Int).toNat ((((ji18)+1) % 256):Int).toNat).size)+((⟨#[48,49,50,51,52,53,54,55,56,57,97,98,99,100,101,102]⟩:ByteArray).extract ((ji23):Int).toNat ((((ji23)+1) % 256):Int).toNat).size≤9223372036854775807 then(racewayref25_quote.l0 k2 a0 (((x3_2++(⟨#[92,117,48,48]⟩:ByteArray))++((⟨#[48,49,50,51,52,53,54,55,56,57,97,98,99,100,101,102]⟩:ByteArray).extract ((ji18):Int).toNat ((((ji18)+1) % 256):Int).toNat))++((⟨#[48,49,50,51,52,53,54,55,56,57,97,98,99,100,101,102]⟩:ByteArray).extract ((ji23):Int).toNat ((((ji23)+1) % 256):Int).toNat)) (wrap64 (x4_1+1))) else(none)) else(none)) else(none)) else(none))=some r:=by first|(rw [hji23] at H;exact H)|(simp only [hji23] at H ⊢;exact H)
               by_cases c24:0≤(ji23)
               ·rw [if_pos c24] at H
                have c24b0:=eq_true c24
                have c24b1:decide (0≤(ji23))=true:=decide_eq_true c24
                clear c24
                by_cases c25:(ji23)≤(((ji23)+1) % 256)
                ·rw [if_pos c25] at H
                 have c25b0:=eq_true c25
                 have c25b1:decide ((ji23)≤(((ji23)+1) % 256))=true:=decide_eq_true c25
                 by_cases c26:(((ji23)+1) % 256)≤16
                 ·rw [if_pos c26] at H
                  have c26b0:=eq_true c26
                  have c26b1:decide ((((ji23)+1) % 256)≤16)=true:=decide_eq_true c26
                  by_cases c27:x3_2.size+4+(((⟨#[48,49,50,51,52,53,54,55,56,57,97,98,99,100,101,102]⟩:ByteArray).extract ((ji18):Int).toNat ((((ji18)+1) % 256):Int).toNat).size)+((⟨#[48,49,50,51,52,53,54,55,56,57,97,98,99,100,101,102]⟩:ByteArray).extract ((ji23):Int).toNat ((((ji23)+1) % 256):Int).toNat).size≤9223372036854775807
                  ·rw [if_pos c27] at H
                   have c27b0:=eq_true c27
                   have c27b1:decide (x3_2.size+4+(((⟨#[48,49,50,51,52,53,54,55,56,57,97,98,99,100,101,102]⟩:ByteArray).extract ((ji18):Int).toNat ((((ji18)+1) % 256):Int).toNat).size)+((⟨#[48,49,50,51,52,53,54,55,56,57,97,98,99,100,101,102]⟩:ByteArray).extract ((ji23):Int).toNat ((((ji23)+1) % 256):Int).toNat).size≤9223372036854775807)=true:=decide_eq_true c27
                   try have c27b2:(9223372036854775807<x3_2.size+4+(((⟨#[48,49,50,51,52,53,54,55,56,57,97,98,99,100,101,102]⟩:ByteArray).extract ((ji18):Int).toNat ((((ji18)+1) % 256):Int).toNat).size)+((⟨#[48,49,50,51,52,53,54,55,56,57,97,98,99,100,101,102]⟩:ByteArray).extract ((ji23):Int).toNat ((((ji23)+1) % 256):Int).toNat).size)=False:=eq_false (Nat.not_lt.2 c27)
                   have e18_:(ji18+1) % 256=ji18+1:=by have a_:=c20;have b_:=c21;have c_:0≤ji18:=of_eq_true c19b0;omega
                   have e23_:(ji23+1) % 256=ji23+1:=by have a_:=c25;have b_:=c26;have c_:0≤ji23:=of_eq_true c24b0;omega
                   have f18a_:(ji18≤ji18+1)=True:=eq_true au0
                   have f18b_:(ji18+1≤16)=True:=eq_true (by have b_:=c21;omega)
                   have f23a_:(ji23≤ji23+1)=True:=eq_true au0
                   have f23b_:(ji23+1≤16)=True:=eq_true (by have b_:=c26;omega)
                   have g22_:(9223372036854775807<x3_2.size+4+((ji18+1).toNat - ji18.toNat))=False:=eq_false (by have h_:=c22;have b_:=c21;rw [e18_] at h_ b_;simp only [ByteArray.size_extract,show(⟨#[48,49,50,51,52,53,54,55,56,57,97,98,99,100,101,102]⟩:ByteArray).size=16 from rfl] at h_;omega)
                   have g27_:(9223372036854775807<x3_2.size+4+((ji18+1).toNat - ji18.toNat)+((ji23+1).toNat - ji23.toNat))=False:=eq_false (by have h_:=c27;have b_:=c21;have d_:=c26;rw [e18_,e23_] at h_;rw [e18_] at b_;rw [e23_] at d_;simp only [ByteArray.size_extract,show(⟨#[48,49,50,51,52,53,54,55,56,57,97,98,99,100,101,102]⟩:ByteArray).size=16 from rfl] at h_;omega)
                   have H':=Aside0.mk H
                   clear H
                   go_wp2
                   repeat(go_quiet (fail);try go_wp2)
                   go_roundg k2
                   case measure=>have:=HK1.out;have:=HK2.out;omega
                   case rel=>exact ⟨(((x3_2++(⟨#[92,117,48,48]⟩:ByteArray))++((⟨#[48,49,50,51,52,53,54,55,56,57,97,98,99,100,101,102]⟩:ByteArray).extract ((ji18):Int).toNat ((((ji18)+1) % 256):Int).toNat))++((⟨#[48,49,50,51,52,53,54,55,56,57,97,98,99,100,101,102]⟩:ByteArray).extract ((ji23):Int).toNat ((((ji23)+1) % 256):Int).toNat)),(wrap64 (x4_1+1)),(by first|rfl|(simp;done)|(rw [e18_,e23_];done)|(simp only [e18_,e23_];done)|(simp only [← hji18,← hji23]<;>(first|rfl|simp))|(simp [*];done)),au4,au9,⟨au26⟩,au8⟩
                  ·rw [if_neg c27] at H
                   exact absurd H au5
                 ·rw [if_neg c26] at H
                  exact absurd H au5
                ·rw [if_neg c25] at H
                 exact absurd H au5
               ·rw [if_neg c24] at H
                exact absurd H au5
              ·rw [if_neg c22] at H
               exact absurd H au5
             ·rw [if_neg c21] at H
              exact absurd H au5
            ·rw [if_neg c20] at H
             exact absurd H au5
           ·rw [if_neg c19] at H
            exact absurd H au5
          ·rw [if_neg c17] at H
           exact absurd H au5
         ·rw [if_neg c16] at H
          have c16b0:decide ((bt a0 x4_1)<32)=false:=decide_eq_false c16
          clear c16
          by_cases c28:0≤x4_1
          ·rw [if_pos c28] at H
           have c28b0:=eq_true c28
           have c28b1:decide (0≤x4_1)=true:=decide_eq_true c28
           clear c28
           by_cases c29:x4_1≤(wrap64 (x4_1+1))
           ·rw [if_pos c29] at H
            have c29b0:=eq_true c29
            have c29b1:decide (x4_1≤(wrap64 (x4_1+1)))=true:=decide_eq_true c29
            by_cases c30:(wrap64 (x4_1+1))≤(a0.size:Int)
            ·rw [if_pos c30] at H
             have c30b0:=eq_true c30
             have c30b1:decide ((wrap64 (x4_1+1))≤(a0.size:Int))=true:=decide_eq_true c30
             by_cases c31:x3_2.size+(a0.extract (x4_1:Int).toNat ((wrap64 (x4_1+1)):Int).toNat).size≤9223372036854775807
             ·rw [if_pos c31] at H
              have c31b0:=eq_true c31
              have c31b1:decide (x3_2.size+(a0.extract (x4_1:Int).toNat ((wrap64 (x4_1+1)):Int).toNat).size≤9223372036854775807)=true:=decide_eq_true c31
              try have c31b2:(9223372036854775807<x3_2.size+(a0.extract (x4_1:Int).toNat ((wrap64 (x4_1+1)):Int).toNat).size)=False:=eq_false (Nat.not_lt.2 c31)
              have H':=Aside0.mk H
              clear H
              go_wp2
              repeat(go_quiet (fail);try go_wp2)
              go_roundg k2
              case measure=>have:=HK1.out;have:=HK2.out;omega
              case rel=>exact ⟨(x3_2++(a0.extract (x4_1:Int).toNat ((wrap64 (x4_1+1)):Int).toNat)),(wrap64 (x4_1+1)),au4,au4,au9,⟨au26⟩,au8⟩
             ·rw [if_neg c31] at H
              exact absurd H au5
            ·rw [if_neg c30] at H
             exact absurd H au5
           ·rw [if_neg c29] at H
            exact absurd H au5
          ·rw [if_neg c28] at H
           exact absurd H au5
    ·rw [if_neg c3] at H
     exact absurd H au5
   ·rw [if_neg c2] at H
    have c2b0:decide (x4_1<(a0.size:Int))=false:=decide_eq_false c2
    clear c2
    by_cases c32:x3_1.size+1≤9223372036854775807
    ·rw [if_pos c32] at H
     have c32b0:=eq_true c32
     have c32b1:decide (x3_1.size+1≤9223372036854775807)=true:=decide_eq_true c32
     try have c32b2:(9223372036854775807<x3_1.size+1)=False:=eq_false (Nat.not_lt.2 c32)
     obtain rfl:=Option.some.inj H
     go_wp2
     repeat(go_quiet (fail);try go_wp2)
     go_ret
     exact ⟨au4,au8⟩
    ·rw [if_neg c32] at H
     exact absurd H au5
end Go.Proofs.YtjehflambbjoaaaDoor.X
