/-
  What the claim's law rests on, part 7 of 7: printed walks, externals, plain lemmas; conditions: none of its own.
-/
import Derived.ChangeSame
import Derived.Handed
import Derived.HandedShaped
import Derived.LaidSub
import Derived.Lib.LaidTab
import Derived.Lib.LaidU8T
import Derived.Lib.SmallJoins
import Derived.OpenShut
import Derived.ShapedOpen
import Derived.ShutString
import Derived.Test.YtjehflambbjoaaaDoorMb6
set_option linter.unusedVariables false
set_option linter.unusedSimpArgs false
namespace Go.Proofs.YtjehflambbjoaaaDoor.Pure
open Go.Proofs.YtjehflambbjoaaaDoor.X Go.RowKit Go.Proofs.YtjehflambbjoaaaDoorW.PrintWords Go.Proofs.YtjehflambbjoaaaDoorW.PrintLast Go.Proofs.YtjehflambbjoaaaDoorW.PrintMore
def inVal (name:Bs):F→Bs
 | .nil=>[]
 | .leaf _ d t _=>leafIn d t
 | .node _ d ks _=>mkup (nmOf d name) ks
def ElOk (l:List S24) (d M T:Nat):Prop:=∀(A:Option Addr) (cp:Nat) (w:World) (u:F) (r:List S24) (p:Nat) (name:Bs),l.length≤cp→Kd.C k24 w A l.length l→GlobMax w→GlobU8 w→u.count=1→dep u≤d→l.drop p=u.flat++r→fine M T u→name.length≤M→cost M u≤100000000 →
 Calls Tryd.prog 17 #[.string (str name),.slice A l.length cp,.int .i64 (p:Int)] w fun e w'=>e=.returned (.string (str (mkup (some name) u)))∧Below w.heap.size w w'
def InOk (l:List S24) (d M T:Nat):Prop:=∀(A:Option Addr) (cp:Nat) (w:World) (u:F) (r:List S24) (p:Nat) (name:Bs),l.length≤cp→Kd.C k24 w A l.length l→GlobMax w→GlobU8 w→u.count=1→dep u≤d→l.drop p=u.flat++r→fine M T u→name.length≤M→cost M u≤100000000 →
 Calls Tryd.prog 34 #[.string (str name),.slice A l.length cp,.int .i64 (p:Int)] w fun e w'=>e=.returned (.string (str (inVal name u)))∧Below w.heap.size w w'
theorem one_parts {u:F} (h:u.count=1):∃(x:Nd) (ks:F) (k:Bs),u.flat=x :: ks.flat∧x.f2=(ks.count:Nat)∧x.f3=str k∧((∃ d t,u=.leaf k d t .nil∧ks=.nil∧x.f0=d∧x.f4=str t)∨(∃ d,u=.node k d ks .nil∧x.f0=d)):=by
 match u,h with
 | .leaf k d t g,h =>
  obtain rfl:=flat_nil g (by simpa [F.count] using h)
  exact ⟨⟨d,1,0,str k,str t⟩,.nil,k,au21,rfl,rfl,.inl ⟨d,t,rfl,rfl,rfl,rfl⟩⟩
 | .node k d ks g,h =>
  obtain rfl:=flat_nil g (by simpa [F.count] using h)
  exact ⟨⟨d,(ks.flat.length+1:Nat),(ks.count:Nat),str k,str []⟩,ks,k,au21,rfl,rfl,.inr ⟨d,rfl,rfl⟩⟩
theorem str_app (a b:Bs):str a++str b=str (a++b):=mstr_app a b
set_option maxHeartbeats 8000000 in
set_option maxRecDepth 100000 in
theorem elem_step (l:List S24) (hlen:l.length≤1000000) (d M T:Nat) (hM:M≤1000000) (hI:InOk l d M T):ElOk l d M T:=by
 intro A cp w u r p name hcp hC hGM hGU h1 hd h hf hn hc
 obtain ⟨x,ks,k,e1,e2,e3,e4⟩:=one_parts h1
 have h':=h
 rw [e1,List.cons_append] at h'
 obtain ⟨q1,q2,q3⟩:=rd_here l p _ _ h'
 obtain ⟨ad,rfl,k0,k1,k2,k3,k4⟩:=at_T24 hC (p:Int) au0 au0
 rw [q1,Int.toNat_natCast] at k0
 clear k1 k2 k3 k4
 have HIN:=Lib.hid (fun w' (hb:Below w.heap.size w w')=>hI (some ad) cp w' u r p name hcp (Kd.C_below hC hb) (hGM.below hb) (hGU.below hb) h1 hd h hf hn hc)
 have hms:=mkup_size M u (some name) (fine_keys M T u hf) (fun n e=>by cases e;exact hn)
 have p1:(0≤(p:Int))=True:=eq_true au0
 have p2:((p:Int)<(l.length:Int))=True:=eq_true au0
 have HMS:=Lib.hid hms
 have HCO:=Lib.hid hc
 have HLE:=Lib.hid hlen
 have hmk:(x.f0=6→mkup (some name) u=inVal name u)∧(x.f0≠6→mkup (some name) u=tag name (inVal name u)):=by
  rcases e4 with ⟨d0,t,rfl,rfl,rfl,_⟩|⟨d0,rfl,rfl⟩
  ·have:=hf.2.2.2.1
   refine ⟨fun e=>by omega,fun _=>by simp [mkup,inVal]⟩
  ·exact ⟨fun e=>by simp [mkup,inVal,nmOf,e],fun e=>by simp [mkup,inVal,nmOf,e]⟩
 have HMK:=Lib.hid hmk
 clear hC hGM hGU h hf hc h' q1 q3 e1 e2 e3 e4 hms hlen hmk hI
 generalize hN:l.length=N at *
 by_cases h6:x.f0=6
 ·have d1:(x.f0==6)=true:=beq_iff_eq.2 h6
  rw [h6] at k0
  have HR:=Lib.hid (HMK.out.1 h6)
  rw [HR.out]
  clear h6 d1 hN
  go_enter Tryd.func17,Tryd.ntmps17
  go_wp2_with (go_at_call 34;(with_reducible refine(HIN.out _ (Below.refl _ _)).mono ?_);rintro e w1 ⟨rfl,hb1⟩;have HB1:=Lib.hid hb1;clear hb1)
  go_ret
  exact ⟨rfl,HB1.out⟩
 ·have d1:(x.f0==6)=false:=beq_eq_false_iff_ne.2 h6
  have HR:=Lib.hid (HMK.out.2 h6)
  have hsz:2*name.length+5+(inVal name u).length≤100000000:=by
   have h2:=HMS.out
   rw [HR.out,tag_size] at h2
   have:=HCO.out
   omega
  rw [HR.out]
  generalize inVal name u=v at *
  have s1:(str name).size=name.length:=msize name
  have s2:(str v).size=v.length:=msize v
  have HSZ:=Lib.hid hsz
  clear hsz hn hN
  have t1:(9223372036854775807<1+name.length)=False:=eq_false au37
  have t2:(9223372036854775807<1+name.length+1)=False:=eq_false au37
  have t3:(9223372036854775807<1+name.length+1+v.length)=False:=eq_false au37
  have t4:(9223372036854775807<1+name.length+1+v.length+2)=False:=eq_false au37
  have t5:(9223372036854775807<1+name.length+1+v.length+2+name.length)=False:=eq_false au37
  have t6:(9223372036854775807<1+name.length+1+v.length+2+name.length+1)=False:=eq_false au37
  go_enter Tryd.func17,Tryd.ntmps17
  go_wp2_with (go_at_call 34;(with_reducible refine(HIN.out _ (Below.refl _ _)).mono ?_);rintro e w1 ⟨rfl,hb1⟩;have HB1:=Lib.hid hb1;clear hb1)
  go_ret
  refine ⟨?_,HB1.out⟩
  have hz:str [60]++str name++str [62]++str v++str [60,47]++str name++str [62]=str (tag name v):=by
   rw [str_app,str_app,str_app,str_app,str_app,str_app]
   rfl
  exact congrArg (fun z=>Ending.returned (Value.string z)) hz
theorem R_spare {w w':World} {b:Nat} {v:Value} {L:List Int} (hs:Spare b w w') (h:Kd.R (Kd.int .i64) 3 w 0 (fun k=>k≠b) v L):Kd.R (Kd.int .i64) 3 w' 0 (fun k=>k≠b) v L:=by
 refine Kd.R_mono (Kd.R_move (Kd.R_bound h) (fun k hk=>?_)) (fun _ hk=>hk.1)
 obtain ⟨h1,h2,h3,q,hq,cells,hc⟩:=hk
 have hq':q=3:=by simpa [Kd.int,Kd.scalar] using hq
 subst hq'
 rw [hs.cells hc au1 h1,hc]
set_option maxHeartbeats 8000000 in
set_option maxRecDepth 100000 in
theorem in_kids (l:List S24) (hlen:l.length≤1000000) (kk:Nat) (hCk:jsontext_Check.f kk l=some 0) (hkk:l.length+5≤kk) (d M T:Nat) (hM:M≤1000000) (hE:ElOk l d M T)
  (A:Option Addr) (cp:Nat) (w:World) (x:Nd) (ks:F) (r:List S24) (p:Nat) (name:Bs) (hcp:l.length≤cp) (hC:Kd.C k24 w A l.length l) (hGM:GlobMax w) (hGU:GlobU8 w) (hx:x.f0=1∨x.f0=6∨x.f0=7) (hx2:x.f2=(ks.count:Nat)) (hd:dep ks≤d)
  (h:l.drop p=x :: (ks.flat++r)) (hf:fine M T ks) (hn:name.length≤M) (hc:cost M ks≤100000000) :
  Calls Tryd.prog 34 #[.string (str name),.slice A l.length cp,.int .i64 (p:Int)] w fun e w'=>e=.returned (.string (str (mkup (nmOf x.f0 name) ks)))∧Below w.heap.size w w':=by
 obtain ⟨q1,q2,q3⟩:=rd_here l p _ _ h
 have hkids:=kids_at l hlen p kk ks.count ks r q2 q3 (by rw [q1];exact hx2) hCk hkk
 obtain ⟨ad,rfl,k0,_⟩:=at_T24 hC (p:Int) au0 au0
 rw [q1,Int.toNat_natCast] at k0
 have hX:∀ w',Below w.heap.size w w'→w'.cell? (ad.add (p*5))=some (.int .i64 x.f0):=fun w' hb=>by
  obtain ⟨ad',e,k0',_⟩:=at_T24 (Kd.C_below hC hb) (p:Int) au0 au0
  obtain rfl:=Option.some.inj e
  rw [q1,Int.toNat_natCast] at k0'
  exact k0'
 have hsz:=mkup_size M ks (nmOf x.f0 name) (fine_keys M T ks hf) (fun n e=>by unfold nmOf at e;split at e<;>simp at e;subst e;exact hn)
 have p1:(0≤(p:Int))=True:=eq_true au0
 have p2:((p:Int)<(l.length:Int))=True:=eq_true au0
 have hLlen:(starts (p+1) ks).length=ks.count:=starts_len ks (p+1)
 have hcnt:ks.count≤1000000:=by
  have h1:=flat_count ks
  have h2:=congrArg List.length h
  simp only [List.length_drop,List.length_cons,List.length_append] at h2
  omega
 have hba:Below w.heap.size w (w.alloc (.cells #[.pointer none,.slice none 0 0] 64 (0,0))):=(Below.refl _ _).alloc (Nat.le_refl _) _
 have HBA:=Lib.hid hba
 have HBN:Hid (Bld w.heap.size w.heap.size [] (w.alloc (.cells #[.pointer none,.slice none 0 0] 64 (0,0)))):=Lib.hid (bld_new w _ rfl)
 have HK:=Lib.hid (fun w' (hb:Below w.heap.size w w')=>jsontext_Kids.calls kk (some ad) cp l (p:Int) _ w' (hGU.below hb) (Kd.C_below hC hb) hcp hkids)
 have HE:=Lib.hid (fun w' (hb:Below w.heap.size w w')=>hE (some ad) cp w')
 have HC:=Lib.hid hC
 have HGM:=Lib.hid hGM
 have HGU:=Lib.hid hGU
 have HX:=Lib.hid hX
 have HQ3:=Lib.hid q3
 have HSZ:=Lib.hid hsz
 have HCO:=Lib.hid hc
 have HF:=Lib.hid hf
 have HDP:=Lib.hid hd
 have HNM:=Lib.hid hn
 have HCP:=Lib.hid hcp
 have HLL:=Lib.hid hLlen
 have HCN:=Lib.hid hcnt
 have HLE:=Lib.hid hlen
 have HEE:=Lib.hid hE
 generalize hL:starts (p+1) ks=L at *
 have HL:=Lib.hid hL
 generalize hN:l.length=N at *
 generalize hMK:mkup (nmOf x.f0 name) ks=mk at *
 generalize hNV:nmOf x.f0 name=nmv at *
 have HMK:=Lib.hid hMK
 have HNV:=Lib.hid hNV
 have HN:=Lib.hid hN
 clear hkids hCk hkk hC hGM hGU hX q1 q3 hsz hc hf hd hn hcp hLlen hcnt hba hx2 h hE hL hN hMK hlen hNV
 rename_i HCELLS
 clear HCELLS
 generalize hd0:x.f0=d0 at *
 clear hd0
 rcases hx with rfl|rfl|rfl
 ·skip
  go_enter Tryd.func34,Tryd.ntmps34
  go_wp2_with (go_at_call 49;(with_reducible refine(HK.out _ HBA.out).mono ?_);rintro e w1 ⟨v0,rfl,hr1,hb1⟩;have HB1:=Lib.hid hb1;have HBW1:=Lib.hid (HBA.out.trans (hb1.mono HBA.out.size));obtain ⟨Ak,ck,rfl⟩:=Kd.R_slice hr1;have HR1:Hid (Kd.R (Kd.int .i64) 3 w1 0 (fun k=>k≠w.heap.size) (.slice Ak L.length ck) L):=Lib.hid (Kd.R_lower (Kd.R_mono (Kd.R_bound hr1) (fun k hk=>(by have h1:=hk.2.1;have h2:=(Array.getElem?_eq_some_iff.mp (heap_alloc_new w (.cells #[.pointer none,.slice none 0 0] 64 (0,0)))).1;omega))) (Nat.zero_le _));have HBD1:Hid (Bld w.heap.size w.heap.size [] w1):=Lib.hid (HBN.out.below hb1);clear hb1 hr1)
  go_loopg [33] L.length (fun n x33 wr=>∃(i q:Nat) (f:F) (o:Bs),x33=.int .i64 (i:Int)∧Hid (L.drop i=starts q f∧l.drop q=f.flat++r∧i+f.count=L.length∧f.count≤n∧o++mkup nmv f=mk∧dep f≤d∧fine M T f∧cost M f≤100000000)∧Hid (Bld w.heap.size w.heap.size o wr)∧Hid (Below w.heap.size w wr)∧Hid (Kd.R (Kd.int .i64) 3 wr 0 (fun k=>k≠w.heap.size) (.slice Ak L.length ck) L))
  case atStart=>exact ⟨0,p+1,ks,[],rfl,Lib.hid ⟨HL.out.symm,HQ3.out,by rw [HLL.out,Nat.zero_add],by rw [HLL.out];exact Nat.le_refl _,HMK.out,HDP.out,HF.out,HCO.out⟩,HBD1,HBW1,HR1⟩
  case round =>
   obtain ⟨i,q,f,o,rfl,HM,HBR,HBE,HRR⟩:=hrel
   rcases parts2 f with hf|⟨u,g,y,tl,key,g1,g2,g3,g4,g5,g6,g7,g8,g9,g10,g11⟩
   ·have HM0:=HM.out
    rw [hf] at HM0
    have HM2:=Lib.hid HM0
    have d1:decide (i<L.length)=false:=decide_eq_false au43
    have HO:Hid (o=mk):=Lib.hid au72
    clear HM0 hf
    go_wp2_with (go_at_call 38;refine(Tryd.Builder_String_any w.heap.size w.heap.size o _ HBR.out HBR.out.lt).mono ?_;rintro e w4 ⟨rfl,hb4⟩;have HB4:=Lib.hid hb4;clear hb4)
    go_ret
    rw [HO.out]
    exact ⟨rfl,HBE.out.trans HB4.out⟩
   ·obtain ⟨m1,m2,m3,m4,m5,m6,m7,m8⟩:=HM.out
    have d1:decide (i<L.length)=true:=decide_eq_true au0
    have d2:(i<L.length)=True:=eq_true au0
    rw [g5 q] at m1
    obtain ⟨c1,c2,c3,c4⟩:=rd_at2 L i _ _ m1
    obtain ⟨adk,rfl,k5⟩:=Kd.at_int (Kd.R_reads' HRR.out).2.2 (i:Int) au0 au0
    rw [c1,Int.toNat_natCast] at k5
    have m2':=m2
    rw [g2,g10,List.cons_append,List.cons_append] at m2'
    obtain ⟨b1,b2,b3⟩:=rd_here l q _ _ m2'
    obtain ⟨ad2,e2,_,_,_,k6,_⟩:=at_T24 (Kd.C_below HC.out HBE.out) (q:Int) au0 au38
    obtain rfl:=Option.some.inj e2
    rw [b1,g11,Int.toNat_natCast] at k6
    have k7:=HX.out wr HBE.out
    have v1:(0≤(q:Int))=True:=eq_true au0
    have v2:((q:Int)<(N:Int))=True:=eq_true au38
    obtain ⟨f1,f2,f3⟩:=g8 M T m7
    have hc9:=g9 M
    have HE2:=Lib.hid (fun(nn:Bs) (hnn:nn=nmv.getD key)=>(HE.out wr HBE.out u (g.flat++r) q nn HCP.out (Kd.C_below HC.out HBE.out) (HGM.out.below HBE.out) (HGU.out.below HBE.out) g1 au0 (by rw [m2,g2,List.append_assoc]) f2
     au73 au0))
    have hmz:∀ nn:Bs,nn=nmv.getD key→(mkup (some nn) u)=mkup (some (nmv.getD key)) u:=fun nn e=>by rw [e]
    have HE3:Hid (∀ nn:Bs,nn=nmv.getD key→Calls Tryd.prog 17 #[.string (str nn),.slice (some ad) N cp,.int .i64 (q:Int)] wr fun e w'=>e=.returned (.string (str (mkup (some (nmv.getD key)) u)))∧Below wr.heap.size wr w'):=Lib.hid (fun nn hnn=>by have h:=HE2.out nn hnn;rw [hmz nn hnn] at h;exact h)
    have g4':=g4 nmv
    rw [g4',← List.append_assoc] at m5
    generalize hmu:mkup (some (nmv.getD key)) u=mu at *
    have HSM:Hid (o.length+mu.length≤100000000):=Lib.hid au74
    have HMM:=Lib.hid m5
    have HD2:Hid (L.drop (i+1)=starts (q+u.flat.length) g∧l.drop (q+u.flat.length)=g.flat++r∧(i+1)+g.count=L.length∧dep g≤d∧fine M T g∧cost M g≤100000000∧g.count<f.count):=Lib.hid ⟨c3,au75,au0,au0,f3,au0,au0⟩
    have HM4:=Lib.hid m4
    have hw1:wrap64 ((i:Int)+1)=((i+1:Nat):Int):=by have:=HLL.out;have:=HCN.out;unfold wrap64;omega
    have HW1:=Lib.hid hw1
    have HKN:Hid (key=nmv.getD key):=Lib.hid (by rw [← HNV.out]<;>simp [nmOf])
    clear HE2 hmu g4' g4 g1 g2 g3 g5 g6 g7 g8 g9 g10 g11 m1 m2 m3 m4 m5 m6 m7 m8 c1 c2 c3 c4 b1 b2 b3 m2' f1 f2 f3 hc9 hmz hw1
    go_wp2_with (first
     | (go_at_call 17;(with_reducible refine(HE3.out key HKN.out).mono ?_);rintro e w4 ⟨rfl,hb4⟩;have HB4:=Lib.hid hb4;have HBR4:Hid (Bld w.heap.size w.heap.size o w4):=Lib.hid (HBR.out.below hb4);have HBE4:Hid (Below w.heap.size w w4):=Lib.hid (HBE.out.trans (hb4.mono HBE.out.size));have HRR4:=Lib.hid (Kd.R_below HRR.out hb4);clear hb4)
     | (go_at_call 50;refine(writeStr_spare w.heap.size w.heap.size o mu _ _ HBR4.out rfl (by have:=HSM.out;omega) HBR4.out.lt).mono ?_;rintro e w5 ⟨⟨y5,rfl⟩,hb5,hbel5,hs5⟩;have HBR5:Hid (Bld w.heap.size w.heap.size (o++mu) w5):=Lib.hid hb5;have HBE5:Hid (Below w.heap.size w w5):=Lib.hid (HBE4.out.trans hbel5);have HRR5:=Lib.hid (R_spare hs5 HRR4.out);clear hb5 hbel5 hs5))
    go_roundg g.count
    case measure=>have:=HD2.out.2.2.2.2.2.2;have:=HM4.out;omega
    case rel=>exact ⟨i+1,q+u.flat.length,g,o++mu,by rw [HW1.out],Lib.hid ⟨HD2.out.1,HD2.out.2.1,HD2.out.2.2.1,Nat.le_refl _,HMM.out,HD2.out.2.2.2.1,HD2.out.2.2.2.2.1,HD2.out.2.2.2.2.2.1⟩,HBR5,HBE5,HRR5⟩
 ·skip
  go_enter Tryd.func34,Tryd.ntmps34
  go_wp2_with (go_at_call 49;(with_reducible refine(HK.out _ HBA.out).mono ?_);rintro e w1 ⟨v0,rfl,hr1,hb1⟩;have HB1:=Lib.hid hb1;have HBW1:=Lib.hid (HBA.out.trans (hb1.mono HBA.out.size));obtain ⟨Ak,ck,rfl⟩:=Kd.R_slice hr1;have HR1:Hid (Kd.R (Kd.int .i64) 3 w1 0 (fun k=>k≠w.heap.size) (.slice Ak L.length ck) L):=Lib.hid (Kd.R_lower (Kd.R_mono (Kd.R_bound hr1) (fun k hk=>(by have h1:=hk.2.1;have h2:=(Array.getElem?_eq_some_iff.mp (heap_alloc_new w (.cells #[.pointer none,.slice none 0 0] 64 (0,0)))).1;omega))) (Nat.zero_le _));have HBD1:Hid (Bld w.heap.size w.heap.size [] w1):=Lib.hid (HBN.out.below hb1);clear hb1 hr1)
  go_loopg [33] L.length (fun n x33 wr=>∃(i q:Nat) (f:F) (o:Bs),x33=.int .i64 (i:Int)∧Hid (L.drop i=starts q f∧l.drop q=f.flat++r∧i+f.count=L.length∧f.count≤n∧o++mkup nmv f=mk∧dep f≤d∧fine M T f∧cost M f≤100000000)∧Hid (Bld w.heap.size w.heap.size o wr)∧Hid (Below w.heap.size w wr)∧Hid (Kd.R (Kd.int .i64) 3 wr 0 (fun k=>k≠w.heap.size) (.slice Ak L.length ck) L))
  case atStart=>exact ⟨0,p+1,ks,[],rfl,Lib.hid ⟨HL.out.symm,HQ3.out,by rw [HLL.out,Nat.zero_add],by rw [HLL.out];exact Nat.le_refl _,HMK.out,HDP.out,HF.out,HCO.out⟩,HBD1,HBW1,HR1⟩
  case round =>
   obtain ⟨i,q,f,o,rfl,HM,HBR,HBE,HRR⟩:=hrel
   rcases parts2 f with hf|⟨u,g,y,tl,key,g1,g2,g3,g4,g5,g6,g7,g8,g9,g10,g11⟩
   ·have HM0:=HM.out
    rw [hf] at HM0
    have HM2:=Lib.hid HM0
    have d1:decide (i<L.length)=false:=decide_eq_false au43
    have HO:Hid (o=mk):=Lib.hid au72
    clear HM0 hf
    go_wp2_with (go_at_call 38;refine(Tryd.Builder_String_any w.heap.size w.heap.size o _ HBR.out HBR.out.lt).mono ?_;rintro e w4 ⟨rfl,hb4⟩;have HB4:=Lib.hid hb4;clear hb4)
    go_ret
    rw [HO.out]
    exact ⟨rfl,HBE.out.trans HB4.out⟩
   ·obtain ⟨m1,m2,m3,m4,m5,m6,m7,m8⟩:=HM.out
    have d1:decide (i<L.length)=true:=decide_eq_true au0
    have d2:(i<L.length)=True:=eq_true au0
    rw [g5 q] at m1
    obtain ⟨c1,c2,c3,c4⟩:=rd_at2 L i _ _ m1
    obtain ⟨adk,rfl,k5⟩:=Kd.at_int (Kd.R_reads' HRR.out).2.2 (i:Int) au0 au0
    rw [c1,Int.toNat_natCast] at k5
    have m2':=m2
    rw [g2,g10,List.cons_append,List.cons_append] at m2'
    obtain ⟨b1,b2,b3⟩:=rd_here l q _ _ m2'
    obtain ⟨ad2,e2,_,_,_,k6,_⟩:=at_T24 (Kd.C_below HC.out HBE.out) (q:Int) au0 au38
    obtain rfl:=Option.some.inj e2
    rw [b1,g11,Int.toNat_natCast] at k6
    have k7:=HX.out wr HBE.out
    have v1:(0≤(q:Int))=True:=eq_true au0
    have v2:((q:Int)<(N:Int))=True:=eq_true au38
    obtain ⟨f1,f2,f3⟩:=g8 M T m7
    have hc9:=g9 M
    have HE2:=Lib.hid (fun(nn:Bs) (hnn:nn=nmv.getD key)=>(HE.out wr HBE.out u (g.flat++r) q nn HCP.out (Kd.C_below HC.out HBE.out) (HGM.out.below HBE.out) (HGU.out.below HBE.out) g1 au0 (by rw [m2,g2,List.append_assoc]) f2
     au73 au0))
    have hmz:∀ nn:Bs,nn=nmv.getD key→(mkup (some nn) u)=mkup (some (nmv.getD key)) u:=fun nn e=>by rw [e]
    have HE3:Hid (∀ nn:Bs,nn=nmv.getD key→Calls Tryd.prog 17 #[.string (str nn),.slice (some ad) N cp,.int .i64 (q:Int)] wr fun e w'=>e=.returned (.string (str (mkup (some (nmv.getD key)) u)))∧Below wr.heap.size wr w'):=Lib.hid (fun nn hnn=>by have h:=HE2.out nn hnn;rw [hmz nn hnn] at h;exact h)
    have g4':=g4 nmv
    rw [g4',← List.append_assoc] at m5
    generalize hmu:mkup (some (nmv.getD key)) u=mu at *
    have HSM:Hid (o.length+mu.length≤100000000):=Lib.hid au74
    have HMM:=Lib.hid m5
    have HD2:Hid (L.drop (i+1)=starts (q+u.flat.length) g∧l.drop (q+u.flat.length)=g.flat++r∧(i+1)+g.count=L.length∧dep g≤d∧fine M T g∧cost M g≤100000000∧g.count<f.count):=Lib.hid ⟨c3,au75,au0,au0,f3,au0,au0⟩
    have HM4:=Lib.hid m4
    have hw1:wrap64 ((i:Int)+1)=((i+1:Nat):Int):=by have:=HLL.out;have:=HCN.out;unfold wrap64;omega
    have HW1:=Lib.hid hw1
    have HKN:Hid (name=nmv.getD key):=Lib.hid (by rw [← HNV.out]<;>simp [nmOf])
    clear HE2 hmu g4' g4 g1 g2 g3 g5 g6 g7 g8 g9 g10 g11 m1 m2 m3 m4 m5 m6 m7 m8 c1 c2 c3 c4 b1 b2 b3 m2' f1 f2 f3 hc9 hmz hw1
    go_wp2_with (first
     | (go_at_call 17;(with_reducible refine(HE3.out name HKN.out).mono ?_);rintro e w4 ⟨rfl,hb4⟩;have HB4:=Lib.hid hb4;have HBR4:Hid (Bld w.heap.size w.heap.size o w4):=Lib.hid (HBR.out.below hb4);have HBE4:Hid (Below w.heap.size w w4):=Lib.hid (HBE.out.trans (hb4.mono HBE.out.size));have HRR4:=Lib.hid (Kd.R_below HRR.out hb4);clear hb4)
     | (go_at_call 50;refine(writeStr_spare w.heap.size w.heap.size o mu _ _ HBR4.out rfl (by have:=HSM.out;omega) HBR4.out.lt).mono ?_;rintro e w5 ⟨⟨y5,rfl⟩,hb5,hbel5,hs5⟩;have HBR5:Hid (Bld w.heap.size w.heap.size (o++mu) w5):=Lib.hid hb5;have HBE5:Hid (Below w.heap.size w w5):=Lib.hid (HBE4.out.trans hbel5);have HRR5:=Lib.hid (R_spare hs5 HRR4.out);clear hb5 hbel5 hs5))
    go_roundg g.count
    case measure=>have:=HD2.out.2.2.2.2.2.2;have:=HM4.out;omega
    case rel=>exact ⟨i+1,q+u.flat.length,g,o++mu,by rw [HW1.out],Lib.hid ⟨HD2.out.1,HD2.out.2.1,HD2.out.2.2.1,Nat.le_refl _,HMM.out,HD2.out.2.2.2.1,HD2.out.2.2.2.2.1,HD2.out.2.2.2.2.2.1⟩,HBR5,HBE5,HRR5⟩
 ·skip
  go_enter Tryd.func34,Tryd.ntmps34
  go_wp2_with (go_at_call 49;(with_reducible refine(HK.out _ HBA.out).mono ?_);rintro e w1 ⟨v0,rfl,hr1,hb1⟩;have HB1:=Lib.hid hb1;have HBW1:=Lib.hid (HBA.out.trans (hb1.mono HBA.out.size));obtain ⟨Ak,ck,rfl⟩:=Kd.R_slice hr1;have HR1:Hid (Kd.R (Kd.int .i64) 3 w1 0 (fun k=>k≠w.heap.size) (.slice Ak L.length ck) L):=Lib.hid (Kd.R_lower (Kd.R_mono (Kd.R_bound hr1) (fun k hk=>(by have h1:=hk.2.1;have h2:=(Array.getElem?_eq_some_iff.mp (heap_alloc_new w (.cells #[.pointer none,.slice none 0 0] 64 (0,0)))).1;omega))) (Nat.zero_le _));have HBD1:Hid (Bld w.heap.size w.heap.size [] w1):=Lib.hid (HBN.out.below hb1);clear hb1 hr1)
  go_loopg [33] L.length (fun n x33 wr=>∃(i q:Nat) (f:F) (o:Bs),x33=.int .i64 (i:Int)∧Hid (L.drop i=starts q f∧l.drop q=f.flat++r∧i+f.count=L.length∧f.count≤n∧o++mkup nmv f=mk∧dep f≤d∧fine M T f∧cost M f≤100000000)∧Hid (Bld w.heap.size w.heap.size o wr)∧Hid (Below w.heap.size w wr)∧Hid (Kd.R (Kd.int .i64) 3 wr 0 (fun k=>k≠w.heap.size) (.slice Ak L.length ck) L))
  case atStart=>exact ⟨0,p+1,ks,[],rfl,Lib.hid ⟨HL.out.symm,HQ3.out,by rw [HLL.out,Nat.zero_add],by rw [HLL.out];exact Nat.le_refl _,HMK.out,HDP.out,HF.out,HCO.out⟩,HBD1,HBW1,HR1⟩
  case round =>
   obtain ⟨i,q,f,o,rfl,HM,HBR,HBE,HRR⟩:=hrel
   rcases parts2 f with hf|⟨u,g,y,tl,key,g1,g2,g3,g4,g5,g6,g7,g8,g9,g10,g11⟩
   ·have HM0:=HM.out
    rw [hf] at HM0
    have HM2:=Lib.hid HM0
    have d1:decide (i<L.length)=false:=decide_eq_false au43
    have HO:Hid (o=mk):=Lib.hid au72
    clear HM0 hf
    go_wp2_with (go_at_call 38;refine(Tryd.Builder_String_any w.heap.size w.heap.size o _ HBR.out HBR.out.lt).mono ?_;rintro e w4 ⟨rfl,hb4⟩;have HB4:=Lib.hid hb4;clear hb4)
    go_ret
    rw [HO.out]
    exact ⟨rfl,HBE.out.trans HB4.out⟩
   ·obtain ⟨m1,m2,m3,m4,m5,m6,m7,m8⟩:=HM.out
    have d1:decide (i<L.length)=true:=decide_eq_true au0
    have d2:(i<L.length)=True:=eq_true au0
    rw [g5 q] at m1
    obtain ⟨c1,c2,c3,c4⟩:=rd_at2 L i _ _ m1
    obtain ⟨adk,rfl,k5⟩:=Kd.at_int (Kd.R_reads' HRR.out).2.2 (i:Int) au0 au0
    rw [c1,Int.toNat_natCast] at k5
    have m2':=m2
    rw [g2,g10,List.cons_append,List.cons_append] at m2'
    obtain ⟨b1,b2,b3⟩:=rd_here l q _ _ m2'
    obtain ⟨ad2,e2,_,_,_,k6,_⟩:=at_T24 (Kd.C_below HC.out HBE.out) (q:Int) au0 au38
    obtain rfl:=Option.some.inj e2
    rw [b1,g11,Int.toNat_natCast] at k6
    have k7:=HX.out wr HBE.out
    have v1:(0≤(q:Int))=True:=eq_true au0
    have v2:((q:Int)<(N:Int))=True:=eq_true au38
    obtain ⟨f1,f2,f3⟩:=g8 M T m7
    have hc9:=g9 M
    have HE2:=Lib.hid (fun(nn:Bs) (hnn:nn=nmv.getD key)=>(HE.out wr HBE.out u (g.flat++r) q nn HCP.out (Kd.C_below HC.out HBE.out) (HGM.out.below HBE.out) (HGU.out.below HBE.out) g1 au0 (by rw [m2,g2,List.append_assoc]) f2
     au73 au0))
    have hmz:∀ nn:Bs,nn=nmv.getD key→(mkup (some nn) u)=mkup (some (nmv.getD key)) u:=fun nn e=>by rw [e]
    have HE3:Hid (∀ nn:Bs,nn=nmv.getD key→Calls Tryd.prog 17 #[.string (str nn),.slice (some ad) N cp,.int .i64 (q:Int)] wr fun e w'=>e=.returned (.string (str (mkup (some (nmv.getD key)) u)))∧Below wr.heap.size wr w'):=Lib.hid (fun nn hnn=>by have h:=HE2.out nn hnn;rw [hmz nn hnn] at h;exact h)
    have g4':=g4 nmv
    rw [g4',← List.append_assoc] at m5
    generalize hmu:mkup (some (nmv.getD key)) u=mu at *
    have HSM:Hid (o.length+mu.length≤100000000):=Lib.hid au74
    have HMM:=Lib.hid m5
    have HD2:Hid (L.drop (i+1)=starts (q+u.flat.length) g∧l.drop (q+u.flat.length)=g.flat++r∧(i+1)+g.count=L.length∧dep g≤d∧fine M T g∧cost M g≤100000000∧g.count<f.count):=Lib.hid ⟨c3,au75,au0,au0,f3,au0,au0⟩
    have HM4:=Lib.hid m4
    have hw1:wrap64 ((i:Int)+1)=((i+1:Nat):Int):=by have:=HLL.out;have:=HCN.out;unfold wrap64;omega
    have HW1:=Lib.hid hw1
    have HKN:Hid (key=nmv.getD key):=Lib.hid (by rw [← HNV.out]<;>simp [nmOf])
    clear HE2 hmu g4' g4 g1 g2 g3 g5 g6 g7 g8 g9 g10 g11 m1 m2 m3 m4 m5 m6 m7 m8 c1 c2 c3 c4 b1 b2 b3 m2' f1 f2 f3 hc9 hmz hw1
    go_wp2_with (first
     | (go_at_call 17;(with_reducible refine(HE3.out key HKN.out).mono ?_);rintro e w4 ⟨rfl,hb4⟩;have HB4:=Lib.hid hb4;have HBR4:Hid (Bld w.heap.size w.heap.size o w4):=Lib.hid (HBR.out.below hb4);have HBE4:Hid (Below w.heap.size w w4):=Lib.hid (HBE.out.trans (hb4.mono HBE.out.size));have HRR4:=Lib.hid (Kd.R_below HRR.out hb4);clear hb4)
     | (go_at_call 50;refine(writeStr_spare w.heap.size w.heap.size o mu _ _ HBR4.out rfl (by have:=HSM.out;omega) HBR4.out.lt).mono ?_;rintro e w5 ⟨⟨y5,rfl⟩,hb5,hbel5,hs5⟩;have HBR5:Hid (Bld w.heap.size w.heap.size (o++mu) w5):=Lib.hid hb5;have HBE5:Hid (Below w.heap.size w w5):=Lib.hid (HBE4.out.trans hbel5);have HRR5:=Lib.hid (R_spare hs5 HRR4.out);clear hb5 hbel5 hs5))
    go_roundg g.count
    case measure=>have:=HD2.out.2.2.2.2.2.2;have:=HM4.out;omega
    case rel=>exact ⟨i+1,q+u.flat.length,g,o++mu,by rw [HW1.out],Lib.hid ⟨HD2.out.1,HD2.out.2.1,HD2.out.2.2.1,Nat.le_refl _,HMM.out,HD2.out.2.2.2.1,HD2.out.2.2.2.2.1,HD2.out.2.2.2.2.2.1⟩,HBR5,HBE5,HRR5⟩
set_option maxHeartbeats 8000000 in
set_option maxRecDepth 100000 in
theorem in_flag (l:List S24) (A:Option Addr) (cp:Nat) (w:World) (x:Nd) (r:List S24) (p:Nat) (name t:Bs) (hC:Kd.C k24 w A l.length l) (hx:x.f0=2∨x.f0=3) (h:l.drop p=x :: r) :
  Calls Tryd.prog 34 #[.string (str name),.slice A l.length cp,.int .i64 (p:Int)] w fun e w'=>e=.returned (.string (str (leafIn x.f0 t)))∧Below w.heap.size w w':=by
 obtain ⟨q1,q2,q3⟩:=rd_here l p _ _ h
 obtain ⟨ad,rfl,k0,_⟩:=at_T24 hC (p:Int) au0 au0
 rw [q1,Int.toNat_natCast] at k0
 have p1:(0≤(p:Int))=True:=eq_true au0
 have p2:((p:Int)<(l.length:Int))=True:=eq_true au0
 generalize hN:l.length=N at *
 generalize hd0:x.f0=d0 at *
 clear hd0 hN h q1 q2 q3 hC
 rcases hx with rfl|rfl
 all_goals
  go_enter Tryd.func34,Tryd.ntmps34
  go_wp2
  go_ret
  exact ⟨rfl,Below.refl _ _⟩
set_option maxHeartbeats 8000000 in
set_option maxRecDepth 100000 in
theorem in_text (l:List S24) (A:Option Addr) (cp:Nat) (w:World) (x:Nd) (r:List S24) (p:Nat) (name t:Bs) (hC:Kd.C k24 w A l.length l) (hGM:GlobMax w) (hx:x.f0=4∨x.f0=5) (ht:x.f4=str t) (htl:t.length≤1000000) (h:l.drop p=x :: r) :
  Calls Tryd.prog 34 #[.string (str name),.slice A l.length cp,.int .i64 (p:Int)] w fun e w'=>e=.returned (.string (str (t.flatMap esc)))∧Below w.heap.size w w':=by
 obtain ⟨q1,q2,q3⟩:=rd_here l p _ _ h
 obtain ⟨ad,rfl,k0,_,_,_,k4⟩:=at_T24 hC (p:Int) au0 au0
 rw [q1,Int.toNat_natCast] at k0
 rw [q1,Int.toNat_natCast,ht] at k4
 have HS:=Lib.hid (response_safe.calls 5 (str t) (str (t.flatMap esc)) w hGM (safe_law t htl 5 (Nat.le_refl _)))
 have p1:(0≤(p:Int))=True:=eq_true au0
 have p2:((p:Int)<(l.length:Int))=True:=eq_true au0
 generalize hN:l.length=N at *
 generalize hd0:x.f0=d0 at *
 rename_i u1 u2 u3
 clear hd0 hN h q1 q2 q3 hC ht htl hGM u1 u2 u3
 rcases hx with rfl|rfl
 all_goals
  go_enter Tryd.func34,Tryd.ntmps34
  go_wp2_with (go_at_call 48;(with_reducible refine HS.out.mono ?_);rintro e w1 ⟨rfl,hb1⟩;have HB1:=Lib.hid hb1;clear hb1)
  go_ret
  exact ⟨rfl,HB1.out⟩
theorem in_step (l:List S24) (hlen:l.length≤1000000) (kk:Nat) (hCk:jsontext_Check.f kk l=some 0) (hkk:l.length+5≤kk) (d M T:Nat) (hM:M≤1000000) (hT:T≤1000000) (hE:ElOk l d M T):InOk l (d+1) M T:=by
 intro A cp w u r p name hcp hC hGM hGU h1 hd h hf hn hc
 obtain ⟨x,ks,k,e1,e2,e3,e4⟩:=one_parts h1
 have h':=h
 rw [e1,List.cons_append] at h'
 rcases e4 with ⟨d0,t,rfl,rfl,hx,hx4⟩|⟨d0,rfl,hx⟩
 ·have hd1:=hf.2.2.1
  have hd5:=hf.2.2.2.1
  have ht:=hf.2.1
  show Calls Tryd.prog 34 _ w fun e w'=>e=.returned (.string (str (leafIn d0 t)))∧Below w.heap.size w w'
  have hcase:d0=1∨(d0=2∨d0=3)∨(d0=4∨d0=5):=by omega
  rcases hcase with h1'|h23|h45
  ·have:=in_kids l hlen kk hCk hkk d M T hM hE A cp w x .nil r p name hcp hC hGM hGU (.inl (by rw [hx];exact h1')) e2 (Nat.zero_le _) (by simpa [F.flat] using h') trivial hn (Nat.zero_le _)
   rw [hx,h1'] at this
   rw [h1']
   simpa [leafIn,mkup] using this
  ·have:=in_flag l A cp w x _ p name t hC (by rw [hx];exact h23) h'
   rwa [hx] at this
  ·have:=in_text l A cp w x _ p name t hC hGM (by rw [hx];exact h45) hx4 au0 h'
   have e:leafIn d0 t=t.flatMap esc:=by
    unfold leafIn
    rw [if_neg au0,if_neg au0,if_pos h45]
   rwa [e]
 ·have:=in_kids l hlen kk hCk hkk d M T hM hE A cp w x ks r p name hcp hC hGM hGU (.inr (by rw [hx];exact hf.2.1)) e2 (by simp only [dep] at hd;omega) h' hf.2.2.1 hn (by simp only [cost] at hc;omega)
  rw [hx] at this
  exact this
theorem el_all (l:List S24) (hlen:l.length≤1000000) (kk:Nat) (hCk:jsontext_Check.f kk l=some 0) (hkk:l.length+5≤kk) (M T:Nat) (hM:M≤1000000) (hT:T≤1000000):∀ d:Nat,InOk l d M T∧ElOk l d M T
 | 0=>by
  have hI:InOk l 0 M T:=by
   intro A cp w u r p name hcp hC hGM hGU h1 hd h hf hn hc
   cases u with
   | nil=>simp [F.count] at h1
   | leaf=>simp only [dep] at hd;omega
   | node=>simp only [dep] at hd;omega
  exact ⟨hI,elem_step l hlen 0 M T hM hI⟩
 | d+1=>by
  have hI:=in_step l hlen kk hCk hkk d M T hM hT (el_all l hlen kk hCk hkk M T hM hT d).2
  exact ⟨hI,elem_step l hlen (d+1) M T hM hI⟩
end Go.Proofs.YtjehflambbjoaaaDoor.Pure
namespace Go.Proofs.YtjehflambbjoaaaDoor.Pure
open Go.Proofs.YtjehflambbjoaaaDoor.X Go.RowKit Go.Proofs.YtjehflambbjoaaaDoorW.PrintWords Go.Proofs.YtjehflambbjoaaaDoorW.PrintMore
theorem fine_of (M T:Nat):∀ u:F,u.kinds=true→(∀ x∈u.flat,x.f3.size≤M∧x.f4.size≤T)→fine M T u
 | .nil,_,_=>trivial
 | .leaf k d t r,h,hx=>by
  simp only [F.kinds,Bool.and_eq_true,decide_eq_true_eq] at h
  have h0:=hx _ (by simp only [F.flat];exact List.mem_cons_self)
  simp only [msize] at h0
  exact ⟨h0.1,h0.2,h.1.1,h.1.2,fine_of M T r h.2 (fun x hm=>hx x (by simp only [F.flat];exact List.mem_cons_of_mem _ hm))⟩
 | .node k d ks r,h,hx=>by
  simp only [F.kinds,Bool.and_eq_true,Bool.or_eq_true,beq_iff_eq] at h
  have h0:=hx _ (by simp only [F.flat];exact List.mem_cons_self)
  simp only [msize] at h0
  exact ⟨h0.1,h.1.1,fine_of M T ks h.1.2 (fun x hm=>hx x (by simp only [F.flat];exact List.mem_cons_of_mem _ (List.mem_append_left _ hm))),fine_of M T r h.2 (fun x hm=>hx x (by simp only [F.flat];exact List.mem_cons_of_mem _ (List.mem_append_right _ hm)))⟩
theorem cost_le (M T C:Nat) (hC:2*M+10+6*T≤C):∀ u:F,fine M T u→cost M u≤u.flat.length*C
 | .nil,_=>Nat.zero_le _
 | .leaf k d t r,h=>by
  have h1:=cost_le M T C hC r h.2.2.2.2
  have h2:=h.2.1
  have e:(r.flat.length+1)*C=r.flat.length*C+C:=Nat.succ_mul _ _
  simp only [cost,F.flat,List.length_cons]
  rw [e]
  omega
 | .node k d ks r,h=>by
  have h1:=cost_le M T C hC r h.2.2.2
  have h2:=cost_le M T C hC ks h.2.2.1
  have e:(ks.flat.length+r.flat.length+1)*C=ks.flat.length*C+r.flat.length*C+C:=by rw [Nat.succ_mul,Nat.add_mul]
  simp only [cost,F.flat,List.length_cons,List.length_append]
  rw [e]
  omega
theorem dep_le:∀ u:F,dep u≤u.flat.length
 | .nil=>Nat.le_refl _
 | .leaf k d t r=>by have:=dep_le r;simp only [dep,F.flat,List.length_cons];omega
 | .node k d ks r=>by have h1:=dep_le r;have h2:=dep_le ks;simp only [dep,F.flat,List.length_cons,List.length_append];omega
def markOk (name:ByteArray) (l:List S24):Prop:=l.length≤70∧name.size≤1000∧(∀ x∈l,x.f3.size≤1000∧x.f4.size≤100000)∧fit l=true
instance (name:ByteArray) (l:List S24):Decidable (markOk name l):=by unfold markOk;infer_instance
theorem mark_parts {name:ByteArray} {l:List S24} {u:F} (h:markOk name l) (ht:tree? l=some u):u.count=1∧dep u≤70∧l.drop 0=u.flat++[]∧fine 1000 100000 u∧name.data.toList.length≤1000∧cost 1000 u≤100000000∧l.length≤1000000:=by
 obtain ⟨h1,h2,h3,h4⟩:=h
 obtain ⟨e1,e2,e3⟩:=tree_flat ht
 have hd:=dep_le u
 have hf:=fine_of 1000 100000 u e3 (by rw [← e1];exact h3)
 have hc:=cost_le 1000 100000 602010 au0 u hf
 have hl:=congrArg List.length e1
 refine ⟨F.one_count e2,au0,by simpa using e1,hf,by simpa using h2,?_,au0⟩
 have:u.flat.length*602010≤70*602010:=Nat.mul_le_mul_right _ au0
 omega
end Go.Proofs.YtjehflambbjoaaaDoor.Pure
namespace Go.Proofs.YtjehflambbjoaaaDoor.X
open Go.RowKit Go.Proofs.YtjehflambbjoaaaDoor.Pure Go.Proofs.YtjehflambbjoaaaDoorW.PrintWords Go.Proofs.YtjehflambbjoaaaDoorW.PrintMore
def response_element.f (k:Nat) (a0:ByteArray) (l1:List S24) (a2:Int):Option ByteArray:=if a2=0∧markOk a0 l1 then(tree? l1).map (fun u=>str (mkup (some a0.data.toList) u)) else none
theorem response_element.calls (k:Nat) (a0:ByteArray) (A1:Option Addr) (c1:Nat) (l1:List (S24)) (a2:Int) (r:ByteArray) (w:World) (hGMax:GlobMax w) (hGU8:GlobU8 w) (hr1:Kd.C k24 w A1 l1.length l1) (hc1:l1.length≤c1) (h:response_element.f k a0 l1 a2=some r) :
  Calls Tryd.prog 17 #[.string a0,.slice A1 l1.length c1,.int .i64 a2] w fun e w'=>e=.returned (.string r)∧Below w.heap.size w w':=by
 unfold response_element.f at h
 split at h
 ·rename_i hok
  obtain ⟨rfl,hm⟩:=hok
  obtain ⟨u,hu,rfl⟩:=Option.map_eq_some_iff.1 h
  obtain ⟨p1,p2,p3,p4,p5,p6,p7⟩:=mark_parts hm hu
  have hC:=Check_law l1 hm.2.2.2 1000 (by have:=hm.1;omega)
  rw [hu] at hC
  have:=(el_all l1 p7 1000 hC (by have:=hm.1;omega) 1000 100000 au0 au0 70).2 A1 c1 w u [] 0 a0.data.toList hc1 hr1 hGMax hGU8 p1 p2 p3 p4 p5 p6
  rwa [str_back] at this
 ·cases h
end Go.Proofs.YtjehflambbjoaaaDoor.X
namespace Go.Proofs.YtjehflambbjoaaaDoor.X
open Go.RowKit Go.Proofs.YtjehflambbjoaaaDoorW.PrintWords Go.Proofs.YtjehflambbjoaaaDoorW.PrintLast Go.Proofs.YtjehflambbjoaaaDoorW.PrintMore
attribute [local go_sem] max2_int min2_int max_two min_two max_three min_three max_four min_four
def response_Markup.f (k:Nat) (a0:ByteArray) (l1:List (S24)):Option (ByteArray):=(jsontext_Check.f k l1).bind fun t121=>(if t121=0 then((response_element.f k a0 l1 0).bind fun t122=>(some t122)) else(some (⟨#[]⟩:ByteArray)))
set_option maxHeartbeats 8000000 in
set_option maxRecDepth 100000 in
theorem response_Markup.calls (k:Nat) (a0:ByteArray) (A1:Option Addr) (c1:Nat) (l1:List (S24)) (r:ByteArray) (w:World) (hGMax:GlobMax w) (hGU8:GlobU8 w) (hr1:Kd.C k24 w A1 l1.length l1) (hc1:l1.length≤c1) (h:response_Markup.f k a0 l1=some r) :
  Calls Tryd.prog 5 #[.string a0,.slice A1 l1.length c1] w fun e w'=>e=.returned (.string r)∧Below w.heap.size w w':=by
 have HGMax:=Aside0.mk hGMax
 clear hGMax
 have HGU8:=Aside0.mk hGU8
 clear hGU8
 have HR1:=Aside0.mk hr1
 have HC1:=Aside0.mk hc1
 clear hr1 hc1
 have HB:=Aside0.mk (Below.refl w.heap.size w)
 have H:((jsontext_Check.f k l1).bind fun t121=>(if t121=0 then((response_element.f k a0 l1 0).bind fun t122=>(some t122)) else(some (⟨#[]⟩:ByteArray))))=some r:=h
 clear h
 replace H:=Option.bind_eq_some_iff.mp H
 obtain ⟨t121,A30,H⟩:=H
 replace H:(if t121=0 then((response_element.f k a0 l1 0).bind fun t122=>(some t122)) else(some (⟨#[]⟩:ByteArray)))=some r:=H
 have A3:=Aside0.mk A30
 clear A30
 by_cases c4:t121=0
 ·rw [if_pos c4] at H
  have c4b0:(t121==0)=true:=beq_iff_eq.mpr c4
  have c4b1:(t121 != 0)=false:=bne_eq_false_iff_eq.mpr c4
  clear c4
  replace H:=Option.bind_eq_some_iff.mp H
  obtain ⟨t122,A50,H⟩:=H
  replace H:(some t122)=some r:=H
  have A5:=Aside0.mk A50
  clear A50
  obtain rfl:=Option.some.inj H
  go_enter Tryd.func5,Tryd.ntmps5
  go_wp2_with (first|((with_reducible refine gate_callee (f:=16) rfl ?_);refine goesL_ (some 6) rfl rfl Tryd.func16 au2 rfl #[.slice A1 l1.length c1] rfl au10 ?_;(with_reducible refine(jsontext_Check.calls k _ _ l1 t121 _ ?side3 ?side1 ?side2 A3.out).mono ?_);(case side1=>repeat(first|exact HR1.out|(with_reducible refine Kd.C_alloc ?_ _)|(with_reducible refine Kd.C_drewN ?_ _)|(with_reducible refine Kd.C_drew ?_)));(case side2=>exact HC1.out);(case side3=>first|exact HGU8.out|exact GlobU8.below HGU8.out au3|exact GlobU8.drawn HGU8.out au8);rintro e w6 ⟨rfl,hb⟩;refine ⟨_,rfl,?_⟩;have n0_:=Aside0.mk (below_step au3 hb);clear HB;have HB:=n0_;clear n0_;(try clear hb);(try clear hb2);(try clear hk);(try clear hi))|((with_reducible refine gate_callee (f:=17) rfl ?_);refine goesL_ (some 10) rfl rfl Tryd.func17 au2 rfl #[.string a0,.slice A1 l1.length c1,.int .i64 0] rfl au10 ?_;(with_reducible refine(response_element.calls k a0 _ _ l1 0 t122 _ ?side3 ?side4 ?side1 ?side2 A5.out).mono ?_);(case side1=>repeat(first|exact(Kd.C_below HR1.out HB.out)|(with_reducible refine Kd.C_alloc ?_ _)|(with_reducible refine Kd.C_drewN ?_ _)|(with_reducible refine Kd.C_drew ?_)));(case side2=>exact HC1.out);(case side3=>first|exact HGMax.out|exact GlobMax.below HGMax.out au3|exact GlobMax.drawn HGMax.out au8);(case side4=>first|exact HGU8.out|exact GlobU8.below HGU8.out au3|exact GlobU8.drawn HGU8.out au8);rintro e w7 ⟨rfl,hb⟩;refine ⟨_,rfl,?_⟩;have n0_:=Aside0.mk (below_step au3 hb);clear HB;have HB:=n0_;clear n0_;(try clear hb);(try clear hb2);(try clear hk);(try clear hi)))
  go_ret
  exact ⟨au12,au3⟩
 ·rw [if_neg c4] at H
  have c4b0:(t121==0)=false:=beq_eq_false_iff_ne.mpr c4
  have c4b1:(t121 != 0)=true:=bne_iff_ne.mpr c4
  obtain rfl:=Option.some.inj H
  go_enter Tryd.func5,Tryd.ntmps5
  go_wp2_with (first|((with_reducible refine gate_callee (f:=16) rfl ?_);refine goesL_ (some 6) rfl rfl Tryd.func16 au2 rfl #[.slice A1 l1.length c1] rfl au10 ?_;(with_reducible refine(jsontext_Check.calls k _ _ l1 t121 _ ?side3 ?side1 ?side2 A3.out).mono ?_);(case side1=>repeat(first|exact HR1.out|(with_reducible refine Kd.C_alloc ?_ _)|(with_reducible refine Kd.C_drewN ?_ _)|(with_reducible refine Kd.C_drew ?_)));(case side2=>exact HC1.out);(case side3=>first|exact HGU8.out|exact GlobU8.below HGU8.out au3|exact GlobU8.drawn HGU8.out au8);rintro e w8 ⟨rfl,hb⟩;refine ⟨_,rfl,?_⟩;have n0_:=Aside0.mk (below_step au3 hb);clear HB;have HB:=n0_;clear n0_;(try clear hb);(try clear hb2);(try clear hk);(try clear hi)))
  go_ret
  exact ⟨au12,au3⟩
theorem Obj.fresh {w:World} {lo g:Nat} (h:w.heap[g]?=some (.cells #[.slice none 0 0,.slice none 0 0] 45 (0,0))) (hl:lo≤g):Obj w lo g (.slice none 0 0) (.slice none 0 0) [] [] :=
 ⟨h,hl,fun k hk=>by simp [Value.ownBlock] at hk,fun k hk=>by simp [Value.ownBlock] at hk,Kd.R_nil _ _ _ _ _,Kd.R_nil _ _ _ _ _⟩
theorem below_al (X:World) (o:Go.Obj):Below X.heap.size X (X.alloc o):=(Below.refl _ X).alloc (Nat.le_refl _) o
theorem below_al_drew (X:World) (o:Go.Obj):Below X.drew.heap.size X.drew (X.alloc o).drew:=(Below.refl _ X.drew).alloc (Nat.le_refl _) o
structure FxF (wf w':World) (g0:Nat) (v:Value) (r:List S24):Prop where
 bel:Below wf.heap.size wf w'
 out:w'.heap[g0]?=some (.cells #[.slice none 0 0,.slice none 0 0] 45 (0,0))
 le:wf.heap.size≤g0
 R:Kd.R k24 24 w' 0 (fun _=>True) v r
def response_FaultXml.f (k:Nat) (code param:ByteArray):Option (Int × ByteArray):=(txtL k ([],[]) ⟨#[67,111,100,101]⟩ code).bind fun o1 =>
 (txtL k o1 ⟨#[77,101,115,115,97,103,101]⟩ param).bind fun o2=>(jsontext_Object.f k o2.1 o2.2).bind fun r=>(jsontext_Object.f k (putL ([],[]) ⟨#[69,114,114,111,114]⟩ r).1 (putL ([],[]) ⟨#[69,114,114,111,114]⟩ r).2).bind fun q=>(response_Markup.f k ⟨#[69,114,114,111,114,82,101,115,112,111,110,115,101]⟩ q).bind fun s=>(response_status.f code param).bind fun n=>some (n,s)
theorem fx_parts {k:Nat} {code param s:ByteArray} {n:Int} (h:response_FaultXml.f k code param=some (n,s)):∃ o1 o2 r q,txtL k ([],[]) ⟨#[67,111,100,101]⟩ code=some o1 ∧
  txtL k o1 ⟨#[77,101,115,115,97,103,101]⟩ param=some o2∧jsontext_Object.f k o2.1 o2.2=some r∧jsontext_Object.f k (putL ([],[]) ⟨#[69,114,114,111,114]⟩ r).1 (putL ([],[]) ⟨#[69,114,114,111,114]⟩ r).2=some q∧response_Markup.f k ⟨#[69,114,114,111,114,82,101,115,112,111,110,115,101]⟩ q=some s∧response_status.f code param=some n:=by
 unfold response_FaultXml.f at h
 obtain ⟨o1,h1,h⟩:=Option.bind_eq_some_iff.1 h
 obtain ⟨o2,h2,h⟩:=Option.bind_eq_some_iff.1 h
 obtain ⟨r,h3,h⟩:=Option.bind_eq_some_iff.1 h
 obtain ⟨q,h4,h⟩:=Option.bind_eq_some_iff.1 h
 obtain ⟨s,h5,h⟩:=Option.bind_eq_some_iff.1 h
 obtain ⟨n,h6,h⟩:=Option.bind_eq_some_iff.1 h
 obtain ⟨rfl,rfl⟩:=Prod.mk.inj (Option.some.inj h)
 exact ⟨o1,o2,r,q,h1,h2,h3,h4,h5,h6⟩
set_option maxHeartbeats 16000000 in
set_option maxRecDepth 100000 in
theorem response_FaultXml.calls (k:Nat) (a0_0:ByteArray) (a0_1:ByteArray) (r1:Int) (r2:ByteArray) (w:World) (hGMax:GlobMax w) (hGU8:GlobU8 w) (h:response_FaultXml.f k a0_0 a0_1=some (r1,r2)) :
  Calls Tryd.prog 10 #[.agg #[.string a0_0,.string a0_1]] w fun e w'=>e=.returned (.tuple #[.int .i64 r1,.string r2])∧Below w.heap.size w w':=by
 obtain ⟨o1,o2,r,q,h1,h2,h3,h4,h5,h6⟩:=fx_parts h
 have n1:=txtL_len h1 (n:=0) ⟨Nat.le_refl _,Nat.le_refl _⟩
 have hal:=heap_alloc_new w (.cells #[.string a0_0,.string a0_1] 29 (0,0))
 have hHA:Below w.heap.size w (w.alloc (.cells #[.string a0_0,.string a0_1] 29 (0,0))):=(Below.refl _ _).alloc (Nat.le_refl _) _
 have H1:=xhid h1
 have H2:=xhid h2
 have H3:=xhid h3
 have H4:=xhid h4
 have H5:=xhid h5
 have HST:=xhid (fun w'=>response_status.calls a0_0 a0_1 r1 w' h6)
 have N1:=xhid n1
 have HG:=xhid (hGU8.below hHA)
 have HM:=xhid (hGMax.below hHA)
 have HHA:=xhid hHA
 clear h h1 h2 h3 h4 h5 h6 n1 hGU8 hGMax hHA
 go_enter Tryd.func10,Tryd.ntmps10
 go_wp2
 generalize hw1:w.alloc (.cells #[.string a0_0,.string a0_1] 29 (0,0))=wf at *
 clear hw1
 have c0:=(blk_cell hal 0).trans (rfl:_=some (Value.string a0_0))
 have c1:=(blk_cell hal 1).trans (rfl:_=some (Value.string a0_1))
 have HLT:=xhid (blk_lt hal)
 have HC:Hid (∀ w',Below wf.heap.size wf w'→w'.cell? ⟨w.heap.size,0,none⟩=some (.string a0_0)∧w'.cell? ⟨w.heap.size,1,none⟩=some (.string a0_1)):=xhid (fun w' hb=>by
  have e:=hb.block _ HLT.out
  exact ⟨(World.cell?_of_block e).trans c0,(World.cell?_of_block e).trans c1⟩)
 have HT1:=xhid (fun w3 g v1 v2 (hO:Obj w3 wf.heap.size g v1 v2 [] []) (hb:Below wf.heap.size wf w3)=>txt_calls k wf.heap.size g v1 v2 ([],[]) o1 _ _ w3 (HG.out.below hb) hO H1.out au1)
 have HT2:=xhid (fun w3 g v1 v2 (hO:Obj w3 wf.heap.size g v1 v2 o1.1 o1.2) (hb:Below wf.heap.size wf w3)=>txt_calls k wf.heap.size g v1 v2 o1 o2 _ _ w3 (HG.out.below hb) hO H2.out (by have:=N1.out;omega))
 have HT3:=xhid (fun w3 g v1 v2 (hO:Obj w3 wf.heap.size g v1 v2 o2.1 o2.2) (hb:Below wf.heap.size wf w3)=>tree_calls k wf.heap.size g v1 v2 o2.1 o2.2 r w3 (HG.out.below hb) hO H3.out)
 have HT4:=xhid (fun w3 g v (hF:FxF wf w3 g v r)=>put_calls wf.heap.size g (.slice none 0 0) (.slice none 0 0) v ([],[]) ⟨#[69,114,114,111,114]⟩ r w3 (Obj.fresh hF.out hF.le) (Kd.R_mono (Kd.R_types hF.R hF.out au1) (fun k hk=>⟨hk.2,au30,au30⟩)) au1)
 have HT5:=xhid (fun w3 g v1 v2 (hO:Obj w3 wf.heap.size g v1 v2 (putL ([],[]) ⟨#[69,114,114,111,114]⟩ r).1 (putL ([],[]) ⟨#[69,114,114,111,114]⟩ r).2) (hb:Below wf.heap.size wf w3)=>tree_calls k wf.heap.size g v1 v2 _ _ q w3 (HG.out.below hb) hO H4.out)
 have HMK:=xhid (fun w3 base A5 p5 (hR:Kd.R k24 24 w3 base (fun _=>True) (.slice A5 q.length p5) q) (hb:Below wf.heap.size wf w3)=>response_Markup.calls k _ A5 p5 q r2 w3 (HM.out.below hb) (HG.out.below hb) (Kd.R_reads' hR).2.2 (Kd.R_reads' hR).2.1 H5.out)
 have HB0:=xhid (below_drew (Below.refl wf.heap.size wf))
 clear hal
 refine start_ (n:=14) (S:=fun w'=>w'.cell? ⟨w.heap.size,0,none⟩=some (.string a0_0)∧w'.cell? ⟨w.heap.size,1,none⟩=some (.string a0_1)) (ds:=[]) #[fF,fF,fF,fF,fF,fF,fF,fF,fF,fF,fF,fF,fF,fF] au2 rfl rfl ⟨c0,c1⟩ (fun hHeld=>?_)
 refine pure_ (i:=0) (N:=some 5) (v:=?_) (a':=?_) #[tT,fF,fF,fF,fF,fF,fF,fF,fF,fF,fF,fF,fF,fF] rfl rfl au2 (fun _ _ _ h=>h) (Or.inl ⟨au6,?_⟩) ?_ ?_
 rotate_left
 ·intro w'
  go_simp
  with_reducible rfl
 rotate_left
 ·simp only [Act.put,List.setIfInBounds_toArray,List.set_cons_zero,List.set_cons_succ,i64_w,i32_w]
  rfl
 refine pure_ (i:=2) (N:=some 7) (v:=?_) (a':=?_) #[tT,fF,tT,fF,fF,fF,fF,fF,fF,fF,fF,fF,fF,fF] rfl rfl au2 (fun _ _ _ h=>h) (Or.inl ⟨au6,?_⟩) ?_ ?_
 rotate_left
 ·intro w'
  go_simp
  with_reducible rfl
 rotate_left
 ·simp only [Act.put,List.setIfInBounds_toArray,List.set_cons_zero,List.set_cons_succ,i64_w,i32_w]
  rfl
 refine pure_ (i:=4) (N:=some 9) (v:=?_) (a':=?_) #[tT,fF,tT,fF,tT,fF,fF,fF,fF,fF,fF,fF,fF,fF] rfl rfl au2 (fun _ _ _ h=>h) (Or.inl ⟨au6,?_⟩) ?_ ?_
 rotate_left
 ·intro w'
  go_simp
  with_reducible rfl
 rotate_left
 ·simp only [Act.put,List.setIfInBounds_toArray,List.set_cons_zero,List.set_cons_succ,i64_w,i32_w]
  rfl
 refine pure_ (i:=7) (N:=some 12) (v:=?_) (a':=?_) #[tT,fF,tT,fF,tT,fF,fF,tT,fF,fF,fF,fF,fF,fF] rfl rfl au2 (fun _ _ _ h=>h) (Or.inl ⟨au6,?_⟩) ?_ ?_
 rotate_left
 ·intro w'
  go_simp
  with_reducible rfl
 rotate_left
 ·simp only [Act.put,List.setIfInBounds_toArray,List.set_cons_zero,List.set_cons_succ,i64_w,i32_w]
  rfl
 refine take_ (i:=5) (N:=some 10) (v:=?_) (a':=?_) #[tT,fF,tT,fF,tT,tT,fF,tT,fF,fF,fF,fF,fF,fF] rfl rfl au2 (fun _ _ _ h=>h) (Or.inl ⟨au6,?_⟩) hHeld ?_ ?_
 rotate_left
 ·rintro w' ⟨s0,s1⟩
  go_simp
  with_reducible rfl
 rotate_left
 ·simp only [Act.put,List.setIfInBounds_toArray,List.set_cons_zero,List.set_cons_succ,i64_w,i32_w]
  rfl
 refine take_ (i:=8) (N:=some 13) (v:=?_) (a':=?_) #[tT,fF,tT,fF,tT,tT,fF,tT,tT,fF,fF,fF,fF,fF] rfl rfl au2 (fun _ _ _ h=>h) (Or.inl ⟨au6,?_⟩) hHeld ?_ ?_
 rotate_left
 ·rintro w' ⟨s0,s1⟩
  go_simp
  with_reducible rfl
 rotate_left
 ·simp only [Act.put,List.setIfInBounds_toArray,List.set_cons_zero,List.set_cons_succ,i64_w,i32_w]
  rfl
 refine join_ (σ:=Nat × Nat × Value) 3 #[tT,tT,tT,tT,tT,tT,tT,tT,tT,tT,tT,fF,fF,fF] (fun s=>[(6,.pointer (some ⟨s.1,0,none⟩)),(8,.pointer (some ⟨s.2.1,0,none⟩)),(11,.pointer (some ⟨s.2.1,0,none⟩)),(14,.pointer (some ⟨s.2.1,0,none⟩)),(15,s.2.2)]) (fun s w6=>FxF wf w6 s.1 s.2.2 r) ?_ ?_
 rotate_left
 ·intro hCont
  refine two_ (i:=1) (j:=3) (Ni:=some 6) (Nj:=some 8) #[tT,tT,tT,fF,tT,tT,fF,tT,tT,fF,fF,fF,fF,fF] #[tT,fF,tT,tT,tT,tT,fF,tT,tT,fF,fF,fF,fF,fF] rfl rfl rfl rfl au2 au1 au1 (fun K hK=>?_) (fun K hK=>?_)
  ·skip
   refine value_ (w1:=?_) (v:=?_) au6 rfl ?_ ?_
   rotate_left 2
   ·go_simp
    constructor
    ·rfl
    ·rfl
   have HB1:Hid (Below wf.heap.size wf (wf.alloc (.cells #[.slice none 0 0,.slice none 0 0] 45 (0,0))).drew):=xhid (by repeat(first|exact HB0.out|exact Below.refl _ _|apply below_drew|apply below_alloc))
   have HN1:Hid (((wf.alloc (.cells #[.slice none 0 0,.slice none 0 0] 45 (0,0))).drew).heap[wf.heap.size]?=some (.cells #[.slice none 0 0,.slice none 0 0] 45 (0,0))):=xhid (heap_alloc_new _ _)
   have HZ:=HN1
   refine hK.out _ _ ⟨(HC.out _ HB1.out).1,(HC.out _ HB1.out).2⟩ (fun hHeld=>?_)
   clear hK K
   refine norm_ (a':=?_) ?_ ?_
   rotate_left
   ·show Act.put _ (some 6) _=_
    simp only [Act.put,List.setIfInBounds_toArray,List.set_cons_zero,List.set_cons_succ,i64_w,i32_w]
    rfl
   refine one_ (i:=3) (N:=some 8) #[tT,tT,tT,tT,tT,tT,fF,tT,tT,fF,fF,fF,fF,fF] rfl rfl au2 au1 (fun K hK=>?_)
   refine value_ (w1:=?_) (v:=?_) au6 rfl ?_ ?_
   rotate_left 2
   ·go_simp
    constructor
    ·rfl
    ·rfl
   have HB2:Hid (Below wf.heap.size wf ((wf.alloc (.cells #[.slice none 0 0,.slice none 0 0] 45 (0,0))).alloc (.cells #[.slice none 0 0,.slice none 0 0] 45 (0,0))).drew):=xhid (by repeat(first|exact HB1.out|exact Below.refl _ _|apply below_drew|apply below_alloc))
   have HN2:Hid ((((wf.alloc (.cells #[.slice none 0 0,.slice none 0 0] 45 (0,0))).alloc (.cells #[.slice none 0 0,.slice none 0 0] 45 (0,0))).drew).heap[(wf.heap.size+1)]?=some (.cells #[.slice none 0 0,.slice none 0 0] 45 (0,0))):=xhid ((al2 wf _ _).2)
   have HNE:Hid (wf.heap.size≠(wf.heap.size+1)):=xhid au0
   have HI:Hid (Obj (((wf.alloc (.cells #[.slice none 0 0,.slice none 0 0] 45 (0,0))).alloc (.cells #[.slice none 0 0,.slice none 0 0] 45 (0,0))).drew) wf.heap.size (wf.heap.size+1) (.slice none 0 0) (.slice none 0 0) [] []):=xhid (Obj.fresh HN2.out au0)
   have HZ:Hid ((((wf.alloc (.cells #[.slice none 0 0,.slice none 0 0] 45 (0,0))).alloc (.cells #[.slice none 0 0,.slice none 0 0] 45 (0,0))).drew).heap[wf.heap.size]?=some (.cells #[.slice none 0 0,.slice none 0 0] 45 (0,0))):=xhid (((below_al_drew (wf.alloc (.cells #[.slice none 0 0,.slice none 0 0] 45 (0,0))) (.cells #[.slice none 0 0,.slice none 0 0] 45 (0,0))).block _ (blk_lt HZ.out)).trans HZ.out)
   refine hK.out _ _ ⟨(HC.out _ HB2.out).1,(HC.out _ HB2.out).2⟩ (fun hHeld=>?_)
   clear hK K
   refine norm_ (a':=?_) ?_ ?_
   rotate_left
   ·show Act.put _ (some 8) _=_
    simp only [Act.put,List.setIfInBounds_toArray,List.set_cons_zero,List.set_cons_succ,i64_w,i32_w]
    rfl
   refine one_ (i:=6) (N:=some 11) #[tT,tT,tT,tT,tT,tT,tT,tT,tT,fF,fF,fF,fF,fF] rfl rfl au2 au1 (fun K hK=>?_)
   refine goes_ Tryd.func21 au2 rfl #[.pointer (some ⟨(wf.heap.size+1),0,none⟩),.string ⟨#[67,111,100,101]⟩,.string a0_0] au6 rfl rfl au15 ?_
   with_reducible refine(HT1.out _ _ _ _ HI.out HB2.out).mono ?_
   rintro e u6 ⟨rfl,va6,vb6,ho,hb,hk⟩
   refine ⟨_,rfl,?_⟩
   have HI:=xhid ho
   have HB3:=xhid (HB2.out.trans hb)
   have HZ:=xhid (hk _ _ HZ.out HNE.out)
   clear ho hb hk
   refine hK.out _ _ ⟨(HC.out _ HB3.out).1,(HC.out _ HB3.out).2⟩ (fun hHeld=>?_)
   clear hK K
   refine norm_ (a':=?_) ?_ ?_
   rotate_left
   ·show Act.put _ (some 11) _=_
    simp only [Act.put,List.setIfInBounds_toArray,List.set_cons_zero,List.set_cons_succ,i64_w,i32_w]
    rfl
   refine one_ (i:=9) (N:=some 14) #[tT,tT,tT,tT,tT,tT,tT,tT,tT,tT,fF,fF,fF,fF] rfl rfl au2 au1 (fun K hK=>?_)
   refine goes_ Tryd.func21 au2 rfl #[.pointer (some ⟨(wf.heap.size+1),0,none⟩),.string ⟨#[77,101,115,115,97,103,101]⟩,.string a0_1] au6 rfl rfl au15 ?_
   with_reducible refine(HT2.out _ _ _ _ HI.out HB3.out).mono ?_
   rintro e u9 ⟨rfl,va9,vb9,ho,hb,hk⟩
   refine ⟨_,rfl,?_⟩
   have HI:=xhid ho
   have HB4:=xhid (HB3.out.trans hb)
   have HZ:=xhid (hk _ _ HZ.out HNE.out)
   clear ho hb hk
   refine hK.out _ _ ⟨(HC.out _ HB4.out).1,(HC.out _ HB4.out).2⟩ (fun hHeld=>?_)
   clear hK K
   refine norm_ (a':=?_) ?_ ?_
   rotate_left
   ·show Act.put _ (some 14) _=_
    simp only [Act.put,List.setIfInBounds_toArray,List.set_cons_zero,List.set_cons_succ,i64_w,i32_w]
    rfl
   refine one_ (i:=10) (N:=some 15) #[tT,tT,tT,tT,tT,tT,tT,tT,tT,tT,tT,fF,fF,fF] rfl rfl au2 au1 (fun K hK=>?_)
   refine goes_ Tryd.func22 au2 rfl #[.pointer (some ⟨(wf.heap.size+1),0,none⟩)] au6 rfl rfl au15 ?_
   with_reducible refine(HT3.out _ _ _ _ HI.out HB4.out).mono ?_
   rintro e u10 ⟨v5,rfl,hr,hb⟩
   refine ⟨_,rfl,?_⟩
   have HR:Hid (Kd.R k24 24 u10 0 (fun _=>True) v5 r):=xhid (Kd.R_lower hr (Nat.zero_le _))
   have HB5:=xhid (HB4.out.trans (hb.mono HB4.out.size))
   have HZ:=xhid ((hb.block _ (blk_lt HZ.out)).trans HZ.out)
   clear hr hb
   refine hK.out _ _ ⟨(HC.out _ HB5.out).1,(HC.out _ HB5.out).2⟩ (fun hHeld=>?_)
   clear hK K
   refine norm_ (a':=?_) ?_ ?_
   rotate_left
   ·show Act.put _ (some 15) _=_
    simp only [Act.put,List.setIfInBounds_toArray,List.set_cons_zero,List.set_cons_succ,i64_w,i32_w]
    rfl
   exact norm_ au24 (hCont (wf.heap.size,(wf.heap.size+1),v5) _ ⟨HB5.out,HZ.out,au45,HR.out⟩)
  ·skip
   refine value_ (w1:=?_) (v:=?_) au6 rfl ?_ ?_
   rotate_left 2
   ·go_simp
    constructor
    ·rfl
    ·rfl
   have HB1:Hid (Below wf.heap.size wf (wf.alloc (.cells #[.slice none 0 0,.slice none 0 0] 45 (0,0))).drew):=xhid (by repeat(first|exact HB0.out|exact Below.refl _ _|apply below_drew|apply below_alloc))
   have HN1:Hid (((wf.alloc (.cells #[.slice none 0 0,.slice none 0 0] 45 (0,0))).drew).heap[wf.heap.size]?=some (.cells #[.slice none 0 0,.slice none 0 0] 45 (0,0))):=xhid (heap_alloc_new _ _)
   have HI:Hid (Obj ((wf.alloc (.cells #[.slice none 0 0,.slice none 0 0] 45 (0,0))).drew) wf.heap.size wf.heap.size (.slice none 0 0) (.slice none 0 0) [] []):=xhid (Obj.fresh HN1.out au0)
   refine hK.out _ _ ⟨(HC.out _ HB1.out).1,(HC.out _ HB1.out).2⟩ (fun hHeld=>?_)
   clear hK K
   refine norm_ (a':=?_) ?_ ?_
   rotate_left
   ·show Act.put _ (some 8) _=_
    simp only [Act.put,List.setIfInBounds_toArray,List.set_cons_zero,List.set_cons_succ,i64_w,i32_w]
    rfl
   refine two_ (i:=1) (j:=6) (Ni:=some 6) (Nj:=some 11) #[tT,tT,tT,tT,tT,tT,fF,tT,tT,fF,fF,fF,fF,fF] #[tT,fF,tT,tT,tT,tT,tT,tT,tT,fF,fF,fF,fF,fF] rfl rfl rfl rfl au2 au1 au1 (fun K hK=>?_) (fun K hK=>?_)
   ·skip
    refine value_ (w1:=?_) (v:=?_) au6 rfl ?_ ?_
    rotate_left 2
    ·go_simp
     constructor
     ·rfl
     ·rfl
    have HB2:Hid (Below wf.heap.size wf ((wf.alloc (.cells #[.slice none 0 0,.slice none 0 0] 45 (0,0))).alloc (.cells #[.slice none 0 0,.slice none 0 0] 45 (0,0))).drew):=xhid (by repeat(first|exact HB1.out|exact Below.refl _ _|apply below_drew|apply below_alloc))
    have HN2:Hid ((((wf.alloc (.cells #[.slice none 0 0,.slice none 0 0] 45 (0,0))).alloc (.cells #[.slice none 0 0,.slice none 0 0] 45 (0,0))).drew).heap[(wf.heap.size+1)]?=some (.cells #[.slice none 0 0,.slice none 0 0] 45 (0,0))):=xhid ((al2 wf _ _).2)
    have HNE:Hid ((wf.heap.size+1)≠wf.heap.size):=xhid au0
    have HZ:=HN2
    have HI:=xhid (HI.out.below (below_al_drew (wf.alloc (.cells #[.slice none 0 0,.slice none 0 0] 45 (0,0))) (.cells #[.slice none 0 0,.slice none 0 0] 45 (0,0))))
    refine hK.out _ _ ⟨(HC.out _ HB2.out).1,(HC.out _ HB2.out).2⟩ (fun hHeld=>?_)
    clear hK K
    refine norm_ (a':=?_) ?_ ?_
    rotate_left
    ·show Act.put _ (some 6) _=_
     simp only [Act.put,List.setIfInBounds_toArray,List.set_cons_zero,List.set_cons_succ,i64_w,i32_w]
     rfl
    refine one_ (i:=6) (N:=some 11) #[tT,tT,tT,tT,tT,tT,tT,tT,tT,fF,fF,fF,fF,fF] rfl rfl au2 au1 (fun K hK=>?_)
    refine goes_ Tryd.func21 au2 rfl #[.pointer (some ⟨wf.heap.size,0,none⟩),.string ⟨#[67,111,100,101]⟩,.string a0_0] au6 rfl rfl au15 ?_
    with_reducible refine(HT1.out _ _ _ _ HI.out HB2.out).mono ?_
    rintro e u6 ⟨rfl,va6,vb6,ho,hb,hk⟩
    refine ⟨_,rfl,?_⟩
    have HI:=xhid ho
    have HB3:=xhid (HB2.out.trans hb)
    have HZ:=xhid (hk _ _ HZ.out HNE.out)
    clear ho hb hk
    refine hK.out _ _ ⟨(HC.out _ HB3.out).1,(HC.out _ HB3.out).2⟩ (fun hHeld=>?_)
    clear hK K
    refine norm_ (a':=?_) ?_ ?_
    rotate_left
    ·show Act.put _ (some 11) _=_
     simp only [Act.put,List.setIfInBounds_toArray,List.set_cons_zero,List.set_cons_succ,i64_w,i32_w]
     rfl
    refine one_ (i:=9) (N:=some 14) #[tT,tT,tT,tT,tT,tT,tT,tT,tT,tT,fF,fF,fF,fF] rfl rfl au2 au1 (fun K hK=>?_)
    refine goes_ Tryd.func21 au2 rfl #[.pointer (some ⟨wf.heap.size,0,none⟩),.string ⟨#[77,101,115,115,97,103,101]⟩,.string a0_1] au6 rfl rfl au15 ?_
    with_reducible refine(HT2.out _ _ _ _ HI.out HB3.out).mono ?_
    rintro e u9 ⟨rfl,va9,vb9,ho,hb,hk⟩
    refine ⟨_,rfl,?_⟩
    have HI:=xhid ho
    have HB4:=xhid (HB3.out.trans hb)
    have HZ:=xhid (hk _ _ HZ.out HNE.out)
    clear ho hb hk
    refine hK.out _ _ ⟨(HC.out _ HB4.out).1,(HC.out _ HB4.out).2⟩ (fun hHeld=>?_)
    clear hK K
    refine norm_ (a':=?_) ?_ ?_
    rotate_left
    ·show Act.put _ (some 14) _=_
     simp only [Act.put,List.setIfInBounds_toArray,List.set_cons_zero,List.set_cons_succ,i64_w,i32_w]
     rfl
    refine one_ (i:=10) (N:=some 15) #[tT,tT,tT,tT,tT,tT,tT,tT,tT,tT,tT,fF,fF,fF] rfl rfl au2 au1 (fun K hK=>?_)
    refine goes_ Tryd.func22 au2 rfl #[.pointer (some ⟨wf.heap.size,0,none⟩)] au6 rfl rfl au15 ?_
    with_reducible refine(HT3.out _ _ _ _ HI.out HB4.out).mono ?_
    rintro e u10 ⟨v5,rfl,hr,hb⟩
    refine ⟨_,rfl,?_⟩
    have HR:Hid (Kd.R k24 24 u10 0 (fun _=>True) v5 r):=xhid (Kd.R_lower hr (Nat.zero_le _))
    have HB5:=xhid (HB4.out.trans (hb.mono HB4.out.size))
    have HZ:=xhid ((hb.block _ (blk_lt HZ.out)).trans HZ.out)
    clear hr hb
    refine hK.out _ _ ⟨(HC.out _ HB5.out).1,(HC.out _ HB5.out).2⟩ (fun hHeld=>?_)
    clear hK K
    refine norm_ (a':=?_) ?_ ?_
    rotate_left
    ·show Act.put _ (some 15) _=_
     simp only [Act.put,List.setIfInBounds_toArray,List.set_cons_zero,List.set_cons_succ,i64_w,i32_w]
     rfl
    exact norm_ au24 (hCont ((wf.heap.size+1),wf.heap.size,v5) _ ⟨HB5.out,HZ.out,au45,HR.out⟩)
   ·skip
    refine goes_ Tryd.func21 au2 rfl #[.pointer (some ⟨wf.heap.size,0,none⟩),.string ⟨#[67,111,100,101]⟩,.string a0_0] au6 rfl rfl au15 ?_
    with_reducible refine(HT1.out _ _ _ _ HI.out HB1.out).mono ?_
    rintro e u6 ⟨rfl,va6,vb6,ho,hb,hk⟩
    refine ⟨_,rfl,?_⟩
    have HI:=xhid ho
    have HB2:=xhid (HB1.out.trans hb)
    clear ho hb hk
    refine hK.out _ _ ⟨(HC.out _ HB2.out).1,(HC.out _ HB2.out).2⟩ (fun hHeld=>?_)
    clear hK K
    refine norm_ (a':=?_) ?_ ?_
    rotate_left
    ·show Act.put _ (some 11) _=_
     simp only [Act.put,List.setIfInBounds_toArray,List.set_cons_zero,List.set_cons_succ,i64_w,i32_w]
     rfl
    refine two_ (i:=1) (j:=9) (Ni:=some 6) (Nj:=some 14) #[tT,tT,tT,tT,tT,tT,tT,tT,tT,fF,fF,fF,fF,fF] #[tT,fF,tT,tT,tT,tT,tT,tT,tT,tT,fF,fF,fF,fF] rfl rfl rfl rfl au2 au1 au1 (fun K hK=>?_) (fun K hK=>?_)
    ·skip
     refine value_ (w1:=?_) (v:=?_) au6 rfl ?_ ?_
     rotate_left 2
     ·go_simp
      constructor
      ·rfl
      ·rfl
     have HB3:Hid (Below wf.heap.size wf (u6.alloc (.cells #[.slice none 0 0,.slice none 0 0] 45 (0,0)))):=xhid (by repeat(first|exact HB2.out|exact Below.refl _ _|apply below_drew|apply below_alloc))
     have HN3:Hid (((u6.alloc (.cells #[.slice none 0 0,.slice none 0 0] 45 (0,0)))).heap[u6.heap.size]?=some (.cells #[.slice none 0 0,.slice none 0 0] 45 (0,0))):=xhid (heap_alloc_new _ _)
     have HNE:Hid (u6.heap.size≠wf.heap.size):=xhid (by have:=HI.out.lt;omega)
     have HZ:=HN3
     have HI:=xhid (HI.out.below (below_al u6 (.cells #[.slice none 0 0,.slice none 0 0] 45 (0,0))))
     refine hK.out _ _ ⟨(HC.out _ HB3.out).1,(HC.out _ HB3.out).2⟩ (fun hHeld=>?_)
     clear hK K
     refine norm_ (a':=?_) ?_ ?_
     rotate_left
     ·show Act.put _ (some 6) _=_
      simp only [Act.put,List.setIfInBounds_toArray,List.set_cons_zero,List.set_cons_succ,i64_w,i32_w]
      rfl
     refine one_ (i:=9) (N:=some 14) #[tT,tT,tT,tT,tT,tT,tT,tT,tT,tT,fF,fF,fF,fF] rfl rfl au2 au1 (fun K hK=>?_)
     refine goes_ Tryd.func21 au2 rfl #[.pointer (some ⟨wf.heap.size,0,none⟩),.string ⟨#[77,101,115,115,97,103,101]⟩,.string a0_1] au6 rfl rfl au15 ?_
     with_reducible refine(HT2.out _ _ _ _ HI.out HB3.out).mono ?_
     rintro e u9 ⟨rfl,va9,vb9,ho,hb,hk⟩
     refine ⟨_,rfl,?_⟩
     have HI:=xhid ho
     have HB4:=xhid (HB3.out.trans hb)
     have HZ:=xhid (hk _ _ HZ.out HNE.out)
     clear ho hb hk
     refine hK.out _ _ ⟨(HC.out _ HB4.out).1,(HC.out _ HB4.out).2⟩ (fun hHeld=>?_)
     clear hK K
     refine norm_ (a':=?_) ?_ ?_
     rotate_left
     ·show Act.put _ (some 14) _=_
      simp only [Act.put,List.setIfInBounds_toArray,List.set_cons_zero,List.set_cons_succ,i64_w,i32_w]
      rfl
     refine one_ (i:=10) (N:=some 15) #[tT,tT,tT,tT,tT,tT,tT,tT,tT,tT,tT,fF,fF,fF] rfl rfl au2 au1 (fun K hK=>?_)
     refine goes_ Tryd.func22 au2 rfl #[.pointer (some ⟨wf.heap.size,0,none⟩)] au6 rfl rfl au15 ?_
     with_reducible refine(HT3.out _ _ _ _ HI.out HB4.out).mono ?_
     rintro e u10 ⟨v5,rfl,hr,hb⟩
     refine ⟨_,rfl,?_⟩
     have HR:Hid (Kd.R k24 24 u10 0 (fun _=>True) v5 r):=xhid (Kd.R_lower hr (Nat.zero_le _))
     have HB5:=xhid (HB4.out.trans (hb.mono HB4.out.size))
     have HZ:=xhid ((hb.block _ (blk_lt HZ.out)).trans HZ.out)
     clear hr hb
     refine hK.out _ _ ⟨(HC.out _ HB5.out).1,(HC.out _ HB5.out).2⟩ (fun hHeld=>?_)
     clear hK K
     refine norm_ (a':=?_) ?_ ?_
     rotate_left
     ·show Act.put _ (some 15) _=_
      simp only [Act.put,List.setIfInBounds_toArray,List.set_cons_zero,List.set_cons_succ,i64_w,i32_w]
      rfl
     exact norm_ au24 (hCont (u6.heap.size,wf.heap.size,v5) _ ⟨HB5.out,HZ.out,au45,HR.out⟩)
    ·skip
     refine goes_ Tryd.func21 au2 rfl #[.pointer (some ⟨wf.heap.size,0,none⟩),.string ⟨#[77,101,115,115,97,103,101]⟩,.string a0_1] au6 rfl rfl au15 ?_
     with_reducible refine(HT2.out _ _ _ _ HI.out HB2.out).mono ?_
     rintro e u9 ⟨rfl,va9,vb9,ho,hb,hk⟩
     refine ⟨_,rfl,?_⟩
     have HI:=xhid ho
     have HB3:=xhid (HB2.out.trans hb)
     clear ho hb hk
     refine hK.out _ _ ⟨(HC.out _ HB3.out).1,(HC.out _ HB3.out).2⟩ (fun hHeld=>?_)
     clear hK K
     refine norm_ (a':=?_) ?_ ?_
     rotate_left
     ·show Act.put _ (some 14) _=_
      simp only [Act.put,List.setIfInBounds_toArray,List.set_cons_zero,List.set_cons_succ,i64_w,i32_w]
      rfl
     refine two_ (i:=1) (j:=10) (Ni:=some 6) (Nj:=some 15) #[tT,tT,tT,tT,tT,tT,tT,tT,tT,tT,fF,fF,fF,fF] #[tT,fF,tT,tT,tT,tT,tT,tT,tT,tT,tT,fF,fF,fF] rfl rfl rfl rfl au2 au1 au1 (fun K hK=>?_) (fun K hK=>?_)
     ·skip
      refine value_ (w1:=?_) (v:=?_) au6 rfl ?_ ?_
      rotate_left 2
      ·go_simp
       constructor
       ·rfl
       ·rfl
      have HB4:Hid (Below wf.heap.size wf (u9.alloc (.cells #[.slice none 0 0,.slice none 0 0] 45 (0,0)))):=xhid (by repeat(first|exact HB3.out|exact Below.refl _ _|apply below_drew|apply below_alloc))
      have HN4:Hid (((u9.alloc (.cells #[.slice none 0 0,.slice none 0 0] 45 (0,0)))).heap[u9.heap.size]?=some (.cells #[.slice none 0 0,.slice none 0 0] 45 (0,0))):=xhid (heap_alloc_new _ _)
      have HNE:Hid (u9.heap.size≠wf.heap.size):=xhid (by have:=HI.out.lt;omega)
      have HZ:=HN4
      have HI:=xhid (HI.out.below (below_al u9 (.cells #[.slice none 0 0,.slice none 0 0] 45 (0,0))))
      refine hK.out _ _ ⟨(HC.out _ HB4.out).1,(HC.out _ HB4.out).2⟩ (fun hHeld=>?_)
      clear hK K
      refine norm_ (a':=?_) ?_ ?_
      rotate_left
      ·show Act.put _ (some 6) _=_
       simp only [Act.put,List.setIfInBounds_toArray,List.set_cons_zero,List.set_cons_succ,i64_w,i32_w]
       rfl
      refine one_ (i:=10) (N:=some 15) #[tT,tT,tT,tT,tT,tT,tT,tT,tT,tT,tT,fF,fF,fF] rfl rfl au2 au1 (fun K hK=>?_)
      refine goes_ Tryd.func22 au2 rfl #[.pointer (some ⟨wf.heap.size,0,none⟩)] au6 rfl rfl au15 ?_
      with_reducible refine(HT3.out _ _ _ _ HI.out HB4.out).mono ?_
      rintro e u10 ⟨v5,rfl,hr,hb⟩
      refine ⟨_,rfl,?_⟩
      have HR:Hid (Kd.R k24 24 u10 0 (fun _=>True) v5 r):=xhid (Kd.R_lower hr (Nat.zero_le _))
      have HB5:=xhid (HB4.out.trans (hb.mono HB4.out.size))
      have HZ:=xhid ((hb.block _ (blk_lt HZ.out)).trans HZ.out)
      clear hr hb
      refine hK.out _ _ ⟨(HC.out _ HB5.out).1,(HC.out _ HB5.out).2⟩ (fun hHeld=>?_)
      clear hK K
      refine norm_ (a':=?_) ?_ ?_
      rotate_left
      ·show Act.put _ (some 15) _=_
       simp only [Act.put,List.setIfInBounds_toArray,List.set_cons_zero,List.set_cons_succ,i64_w,i32_w]
       rfl
      exact norm_ au24 (hCont (u9.heap.size,wf.heap.size,v5) _ ⟨HB5.out,HZ.out,au45,HR.out⟩)
     ·skip
      refine goes_ Tryd.func22 au2 rfl #[.pointer (some ⟨wf.heap.size,0,none⟩)] au6 rfl rfl au15 ?_
      with_reducible refine(HT3.out _ _ _ _ HI.out HB3.out).mono ?_
      rintro e u10 ⟨v5,rfl,hr,hb⟩
      refine ⟨_,rfl,?_⟩
      have HR:Hid (Kd.R k24 24 u10 0 (fun _=>True) v5 r):=xhid (Kd.R_lower hr (Nat.zero_le _))
      have HB4:=xhid (HB3.out.trans (hb.mono HB3.out.size))
      clear hr hb
      refine hK.out _ _ ⟨(HC.out _ HB4.out).1,(HC.out _ HB4.out).2⟩ (fun hHeld=>?_)
      clear hK K
      refine norm_ (a':=?_) ?_ ?_
      rotate_left
      ·show Act.put _ (some 15) _=_
       simp only [Act.put,List.setIfInBounds_toArray,List.set_cons_zero,List.set_cons_succ,i64_w,i32_w]
       rfl
      refine one_ (i:=1) (N:=some 6) #[tT,tT,tT,tT,tT,tT,tT,tT,tT,tT,tT,fF,fF,fF] rfl rfl au2 au1 (fun K hK=>?_)
      refine value_ (w1:=?_) (v:=?_) au6 rfl ?_ ?_
      rotate_left 2
      ·go_simp
       constructor
       ·rfl
       ·rfl
      have HB5:Hid (Below wf.heap.size wf (u10.alloc (.cells #[.slice none 0 0,.slice none 0 0] 45 (0,0)))):=xhid (by repeat(first|exact HB4.out|exact Below.refl _ _|apply below_drew|apply below_alloc))
      have HN5:Hid (((u10.alloc (.cells #[.slice none 0 0,.slice none 0 0] 45 (0,0)))).heap[u10.heap.size]?=some (.cells #[.slice none 0 0,.slice none 0 0] 45 (0,0))):=xhid (heap_alloc_new _ _)
      have HZ:=HN5
      have HR:=xhid (Kd.R_below HR.out (below_al u10 (.cells #[.slice none 0 0,.slice none 0 0] 45 (0,0))))
      refine hK.out _ _ ⟨(HC.out _ HB5.out).1,(HC.out _ HB5.out).2⟩ (fun hHeld=>?_)
      clear hK K
      refine norm_ (a':=?_) ?_ ?_
      rotate_left
      ·show Act.put _ (some 6) _=_
       simp only [Act.put,List.setIfInBounds_toArray,List.set_cons_zero,List.set_cons_succ,i64_w,i32_w]
       rfl
      exact norm_ au24 (hCont (u10.heap.size,wf.heap.size,v5) _ ⟨HB5.out,HZ.out,au45,HR.out⟩)
 rintro ⟨g0,gI,v5⟩ w6 hF
 dsimp only at hF
 have HF:=xhid hF
 clear hF
 have hHeld:=HC.out _ HF.out.bel
 obtain ⟨A5,p5,rfl⟩:=Kd.R_slice HF.out.R
 refine norm_ (a':=?_) ?_ ?_
 rotate_left
 ·simp only [putAll,Act.put,List.setIfInBounds_toArray,List.set_cons_zero,List.set_cons_succ]
  rfl
 refine one_ (i:=11) (N:=some 16) #[tT,tT,tT,tT,tT,tT,tT,tT,tT,tT,tT,tT,fF,fF] rfl rfl au2 au1 (fun K hK=>?_)
 refine goes_ Tryd.func28 au2 rfl #[.pointer (some ⟨g0,0,none⟩),.string ⟨#[69,114,114,111,114]⟩,.slice A5 r.length p5] au6 rfl rfl au15 ?_
 with_reducible refine(HT4.out _ _ _ HF.out).mono ?_
 rintro e u11 ⟨rfl,v1,v2,ho,hb,_⟩
 refine ⟨_,rfl,?_⟩
 have HO:=xhid ho
 have HB6:=xhid (HF.out.bel.trans hb)
 clear ho hb
 refine hK.out _ _ ⟨(HC.out _ HB6.out).1,(HC.out _ HB6.out).2⟩ (fun hHeld=>?_)
 clear hK K
 refine norm_ (a':=?_) ?_ ?_
 rotate_left
 ·show Act.put _ (some 16) _=_
  simp only [Act.put,List.setIfInBounds_toArray,List.set_cons_zero,List.set_cons_succ,i64_w,i32_w]
  rfl
 refine one_ (i:=12) (N:=some 17) #[tT,tT,tT,tT,tT,tT,tT,tT,tT,tT,tT,tT,tT,fF] rfl rfl au2 au1 (fun K hK=>?_)
 refine goes_ Tryd.func22 au2 rfl #[.pointer (some ⟨g0,0,none⟩)] au6 rfl rfl au15 ?_
 with_reducible refine(HT5.out _ _ _ _ HO.out HB6.out).mono ?_
 rintro e u12 ⟨v7,rfl,hr,hb⟩
 refine ⟨_,rfl,?_⟩
 obtain ⟨A7,p7,rfl⟩:=Kd.R_slice hr
 have HR7:=xhid hr
 have HB7:=xhid (HB6.out.trans (hb.mono HB6.out.size))
 clear hr hb
 refine hK.out _ _ ⟨(HC.out _ HB7.out).1,(HC.out _ HB7.out).2⟩ (fun hHeld=>?_)
 clear hK K
 refine norm_ (a':=?_) ?_ ?_
 rotate_left
 ·show Act.put _ (some 17) _=_
  simp only [Act.put,List.setIfInBounds_toArray,List.set_cons_zero,List.set_cons_succ,i64_w,i32_w]
  rfl
 refine pure_ (i:=13) (N:=some 4) (v:=?_) (a':=?_) #[tT,tT,tT,tT,tT,tT,tT,tT,tT,tT,tT,tT,tT,tT] rfl rfl au2 (fun _ _ _ h=>h) (Or.inl ⟨au6,?_⟩) ?_ ?_
 rotate_left
 ·intro w'
  go_simp
  with_reducible rfl
 rotate_left
 ·simp only [Act.put,List.setIfInBounds_toArray,List.set_cons_zero,List.set_cons_succ,i64_w,i32_w]
  rfl
 refine done_ au2 ?_
 have z0:=(HC.out _ HB7.out).1
 have z9:=(HC.out _ HB7.out).2
 go_wp2_with (first
  | (go_at_call 23;(with_reducible refine(HST.out _).mono ?_);rintro e w7 ⟨rfl,hb7⟩;have HB8:=xhid (HB7.out.trans (hb7.mono HB7.out.size));have HR8:=xhid (Kd.R_below HR7.out hb7);clear hb7)
  | (go_at_call 5;(with_reducible refine(HMK.out _ _ _ _ HR8.out HB8.out).mono ?_);rintro e w8 ⟨rfl,hb8⟩;have HB9:=xhid (HB8.out.trans (hb8.mono HB8.out.size));clear hb8))
 go_ret2
 exact ⟨rfl,HHA.out.trans (HB9.out.mono HHA.out.size)⟩
def racewayref29_status.f (a0_0:ByteArray) (a0_1:ByteArray):Option (Int):=if a0_0.toList=([73,110,116,101,114,110,97,108,70,97,105,108,117,114,101]:List UInt8) then(some 500) else(if a0_0.toList=([83,101,114,118,105,99,101,85,110,97,118,97,105,108,97,98,108,101]:List UInt8) then(some 500) else(some 400))
set_option maxHeartbeats 8000000 in
set_option maxRecDepth 100000 in
theorem racewayref29_status.calls (a0_0:ByteArray) (a0_1:ByteArray) (r:Int) (w:World) (h:racewayref29_status.f a0_0 a0_1=some r) :
  Calls Tryd.prog 27 #[.agg #[.string a0_0,.string a0_1]] w fun e w'=>e=.returned (.int .i64 r)∧Below w.heap.size w w':=by
 have hu29:=Tryd.underlying29
 have HB:=Aside0.mk (Below.refl w.heap.size w)
 have H:(if a0_0.toList=([73,110,116,101,114,110,97,108,70,97,105,108,117,114,101]:List UInt8) then(some 500) else(if a0_0.toList=([83,101,114,118,105,99,101,85,110,97,118,97,105,108,97,98,108,101]:List UInt8) then(some 500) else(some 400)))=some r:=h
 clear h
 by_cases c2:a0_0.toList=([73,110,116,101,114,110,97,108,70,97,105,108,117,114,101]:List UInt8)
 ·rw [if_pos c2] at H
  have c2b0:(a0_0.toList==([73,110,116,101,114,110,97,108,70,97,105,108,117,114,101]:List UInt8))=true:=beq_iff_eq.mpr c2
  have c2b1:(a0_0.toList != ([73,110,116,101,114,110,97,108,70,97,105,108,117,114,101]:List UInt8))=false:=bne_eq_false_iff_eq.mpr c2
  clear c2
  obtain rfl:=Option.some.inj H
  go_enter Tryd.func27,Tryd.ntmps27
  go_wp2_with (first|((with_reducible refine gate_dst (N:=1) rfl ?_);refine box_event ?hg (N:=1) ?hd (cs:=#[.string a0_0,.string a0_1]) (t:=29) ?hr ?_;(case hd=>rfl);(case hg=>rfl);(case hr=>first|(go_simp;done)|(go_simp;rfl));intro gb229 hg w3 hbox hb;have n0_:=Aside0.mk (below_step au3 hb);have n1_:=Aside0.mk (hbox);have n2_:=Aside0.mk ((by rw [hg];exact(below_size au3):w.heap.size≤gb229));have n3_:=Aside0.mk ((by rw [hg];exact(below_size au3):w.heap.size≤gb229));clear HB;have HB:=n0_;have BK229:=n1_;have GW229:=n2_;have GE229:=n3_;clear n0_ n1_ n2_ n3_;clear hb hbox hg;have hcz4_0:w3.cell? ⟨gb229,0,none⟩=some (.string a0_0):=(blk_cell BK229.out 0).trans rfl;have hcz4_1:w3.cell? ⟨gb229,1,none⟩=some (.string a0_1):=(blk_cell BK229.out 1).trans rfl;have hfz4_0:=blk_frozen BK229.out 0;have hfz4_1:=blk_frozen BK229.out 1))
  go_ret
  exact ⟨au12,by repeat(first|(with_reducible first|exact HB.out|apply below_alloc|apply pw_below_drewN|apply below_drew1|refine below_set ?_ GE229.out)|exact HB.out)⟩
 ·rw [if_neg c2] at H
  have c2b0:(a0_0.toList==([73,110,116,101,114,110,97,108,70,97,105,108,117,114,101]:List UInt8))=false:=beq_eq_false_iff_ne.mpr c2
  have c2b1:(a0_0.toList != ([73,110,116,101,114,110,97,108,70,97,105,108,117,114,101]:List UInt8))=true:=bne_iff_ne.mpr c2
  by_cases c5:a0_0.toList=([83,101,114,118,105,99,101,85,110,97,118,97,105,108,97,98,108,101]:List UInt8)
  ·rw [if_pos c5] at H
   have c5b0:(a0_0.toList==([83,101,114,118,105,99,101,85,110,97,118,97,105,108,97,98,108,101]:List UInt8))=true:=beq_iff_eq.mpr c5
   have c5b1:(a0_0.toList != ([83,101,114,118,105,99,101,85,110,97,118,97,105,108,97,98,108,101]:List UInt8))=false:=bne_eq_false_iff_eq.mpr c5
   clear c5
   obtain rfl:=Option.some.inj H
   go_enter Tryd.func27,Tryd.ntmps27
   go_wp2_with (first|((with_reducible refine gate_dst (N:=1) rfl ?_);refine box_event ?hg (N:=1) ?hd (cs:=#[.string a0_0,.string a0_1]) (t:=29) ?hr ?_;(case hd=>rfl);(case hg=>rfl);(case hr=>first|(go_simp;done)|(go_simp;rfl));intro gb229 hg w6 hbox hb;have n0_:=Aside0.mk (below_step au3 hb);have n1_:=Aside0.mk (hbox);have n2_:=Aside0.mk ((by rw [hg];exact(below_size au3):w.heap.size≤gb229));have n3_:=Aside0.mk ((by rw [hg];exact(below_size au3):w.heap.size≤gb229));clear HB;have HB:=n0_;have BK229:=n1_;have GW229:=n2_;have GE229:=n3_;clear n0_ n1_ n2_ n3_;clear hb hbox hg;have hcz7_0:w6.cell? ⟨gb229,0,none⟩=some (.string a0_0):=(blk_cell BK229.out 0).trans rfl;have hcz7_1:w6.cell? ⟨gb229,1,none⟩=some (.string a0_1):=(blk_cell BK229.out 1).trans rfl;have hfz7_0:=blk_frozen BK229.out 0;have hfz7_1:=blk_frozen BK229.out 1))
   go_ret
   exact ⟨au12,by repeat(first|(with_reducible first|exact HB.out|apply below_alloc|apply pw_below_drewN|apply below_drew1|refine below_set ?_ GE229.out)|exact HB.out)⟩
  ·rw [if_neg c5] at H
   have c5b0:(a0_0.toList==([83,101,114,118,105,99,101,85,110,97,118,97,105,108,97,98,108,101]:List UInt8))=false:=beq_eq_false_iff_ne.mpr c5
   have c5b1:(a0_0.toList != ([83,101,114,118,105,99,101,85,110,97,118,97,105,108,97,98,108,101]:List UInt8))=true:=bne_iff_ne.mpr c5
   obtain rfl:=Option.some.inj H
   go_enter Tryd.func27,Tryd.ntmps27
   go_wp2_with (first|((with_reducible refine gate_dst (N:=1) rfl ?_);refine box_event ?hg (N:=1) ?hd (cs:=#[.string a0_0,.string a0_1]) (t:=29) ?hr ?_;(case hd=>rfl);(case hg=>rfl);(case hr=>first|(go_simp;done)|(go_simp;rfl));intro gb229 hg w8 hbox hb;have n0_:=Aside0.mk (below_step au3 hb);have n1_:=Aside0.mk (hbox);have n2_:=Aside0.mk ((by rw [hg];exact(below_size au3):w.heap.size≤gb229));have n3_:=Aside0.mk ((by rw [hg];exact(below_size au3):w.heap.size≤gb229));clear HB;have HB:=n0_;have BK229:=n1_;have GW229:=n2_;have GE229:=n3_;clear n0_ n1_ n2_ n3_;clear hb hbox hg;have hcz9_0:w8.cell? ⟨gb229,0,none⟩=some (.string a0_0):=(blk_cell BK229.out 0).trans rfl;have hcz9_1:w8.cell? ⟨gb229,1,none⟩=some (.string a0_1):=(blk_cell BK229.out 1).trans rfl;have hfz9_0:=blk_frozen BK229.out 0;have hfz9_1:=blk_frozen BK229.out 1))
   go_ret
   exact ⟨au12,by repeat(first|(with_reducible first|exact HB.out|apply below_alloc|apply pw_below_drewN|apply below_drew1|refine below_set ?_ GE229.out)|exact HB.out)⟩
def racewayref29_FaultJson.f (k:Nat) (a0_0:ByteArray) (a0_1:ByteArray):Option (Int × ByteArray):=if 18+a0_0.size≤9223372036854775807 then((racewayref29_text.f k (⟨#[95,95,116,121,112,101]⟩:ByteArray) ((⟨#[99,111,109,46,97,109,97,122,111,110,97,119,115,46,115,113,115,35]⟩:ByteArray)++a0_0)).bind fun bt231=>((racewayref29_text.f k (⟨#[109,101,115,115,97,103,101]⟩:ByteArray) a0_1).bind fun bt235=>((racewayref29_object.f k (([(⟨bt231.1,bt231.2⟩:S53),(⟨bt235.1,bt235.2⟩:S53)]:List (S53)))).bind fun t242=>((racewayref25_Print.f k t242).bind fun bt245=>((racewayref29_status.f a0_0 a0_1).bind fun t247=>(some (t247,bt245.1))))))) else(none)
def racewayref29_FaultJson.T1:Bool × List (List Nat × List Nat):=(true,[([],[]),([0],[0]),([1],[1]),([2],[2]),([],[]),([4],[4]),([5,3],[5]),([3,6],[3,6]),([7,6],[7]),([8,8],[8]),([9],[9]),([10],[10]),([10],[10]),([11,9,0,1,2,3,4,5,6,7,8,9,10,11],[11]),([12,13,0,1,2,3,4,5,6,7,8,9,10,11,12,13],[12])])
def racewayref29_FaultJson.B1:List Nat:=[0,1,3,7,0,16,63,127,255,511,1023,2047,2047,4095,16383]
theorem racewayref29_FaultJson.tab1:rtab .any (opsOf Tryd.f9 1)=racewayref29_FaultJson.T1:=by kernel_rfl
theorem racewayref29_FaultJson.bits1:waitsOk racewayref29_FaultJson.T1.2 racewayref29_FaultJson.B1=true:=by kernel_rfl
set_option maxHeartbeats 8000000 in
set_option maxRecDepth 100000 in
theorem racewayref29_FaultJson.calls (k:Nat) (a0_0:ByteArray) (a0_1:ByteArray) (r1:Int) (r2:ByteArray) (w:World) (h:racewayref29_FaultJson.f k a0_0 a0_1=some (r1,r2)) :
  Calls Tryd.prog 9 #[.agg #[.string a0_0,.string a0_1]] w fun e w'=>e=.returned (.tuple #[.int .i64 r1,.string r2])∧Below w.heap.size w w':=by
 have hu29:=Tryd.underlying29
 have HB:=Aside0.mk (Below.refl w.heap.size w)
 have H:(if 18+a0_0.size≤9223372036854775807 then((racewayref29_text.f k (⟨#[95,95,116,121,112,101]⟩:ByteArray) ((⟨#[99,111,109,46,97,109,97,122,111,110,97,119,115,46,115,113,115,35]⟩:ByteArray)++a0_0)).bind fun bt231=>((racewayref29_text.f k (⟨#[109,101,115,115,97,103,101]⟩:ByteArray) a0_1).bind fun bt235=>((racewayref29_object.f k (([(⟨bt231.1,bt231.2⟩:S53),(⟨bt235.1,bt235.2⟩:S53)]:List (S53)))).bind fun t242=>((racewayref25_Print.f k t242).bind fun bt245=>((racewayref29_status.f a0_0 a0_1).bind fun t247=>(some (t247,bt245.1))))))) else(none))=some (r1,r2):=h
 clear h
 by_cases c2:18+a0_0.size≤9223372036854775807
 ·rw [if_pos c2] at H
  have c2b0:=eq_true c2
  have c2b1:decide (18+a0_0.size≤9223372036854775807)=true:=decide_eq_true c2
  try have c2b2:(9223372036854775807<18+a0_0.size)=False:=eq_false (Nat.not_lt.2 c2)
  replace H:=Option.bind_eq_some_iff.mp H
  obtain ⟨⟨t231,t232⟩,A30,H⟩:=H
  replace H:((racewayref29_text.f k (⟨#[109,101,115,115,97,103,101]⟩:ByteArray) a0_1).bind fun bt235=>((racewayref29_object.f k (([(⟨t231,t232⟩:S53),(⟨bt235.1,bt235.2⟩:S53)]:List (S53)))).bind fun t242=>((racewayref25_Print.f k t242).bind fun bt245=>((racewayref29_status.f a0_0 a0_1).bind fun t247=>(some (t247,bt245.1))))))=some (r1,r2):=H
  have A3:=Aside0.mk A30
  clear A30
  replace H:=Option.bind_eq_some_iff.mp H
  obtain ⟨⟨t235,t236⟩,A40,H⟩:=H
  replace H:((racewayref29_object.f k (([(⟨t231,t232⟩:S53),(⟨t235,t236⟩:S53)]:List (S53)))).bind fun t242=>((racewayref25_Print.f k t242).bind fun bt245=>((racewayref29_status.f a0_0 a0_1).bind fun t247=>(some (t247,bt245.1)))))=some (r1,r2):=H
  have A4:=Aside0.mk A40
  clear A40
  obtain ⟨y239,hy239⟩:∃ y_:List (S53),y_=(([(⟨t231,t232⟩:S53),(⟨t235,t236⟩:S53)]:List (S53))):=⟨_,rfl⟩
  replace H:((racewayref29_object.f k y239).bind fun t242=>((racewayref25_Print.f k t242).bind fun bt245=>((racewayref29_status.f a0_0 a0_1).bind fun t247=>(some (t247,bt245.1)))))=some (r1,r2):=by first|(rw [hy239];with_reducible exact H)|(have H2_:=(Option.bind_some _ _).symm.trans H;rw [hy239];with_reducible exact H2_)|(have H2_:=(Option.bind_some _ _).symm.trans H;with_reducible exact H2_)|with_reducible exact H|(rw [hy239];exact H)|exact H
  have Ny239:=Aside0.mk hy239
  clear hy239
  replace H:=Option.bind_eq_some_iff.mp H
  obtain ⟨t242,A50,H⟩:=H
  replace H:((racewayref25_Print.f k t242).bind fun bt245=>((racewayref29_status.f a0_0 a0_1).bind fun t247=>(some (t247,bt245.1))))=some (r1,r2):=H
  have A5:=Aside0.mk A50
  clear A50
  replace H:=Option.bind_eq_some_iff.mp H
  obtain ⟨⟨t245,t246⟩,A60,H⟩:=H
  replace H:((racewayref29_status.f a0_0 a0_1).bind fun t247=>(some (t247,t245)))=some (r1,r2):=H
  have A6:=Aside0.mk A60
  clear A60
  replace H:=Option.bind_eq_some_iff.mp H
  obtain ⟨t247,A70,H⟩:=H
  replace H:(some (t247,t245))=some (r1,r2):=H
  have A7:=Aside0.mk A70
  clear A70
  simp only [Option.some.injEq,Prod.mk.injEq] at H
  obtain ⟨rfl,rfl⟩:=H
  go_enter Tryd.func9,Tryd.ntmps9
  try go_wp2_with (first|((with_reducible refine gate_dst (N:=1) rfl ?_);refine box_event ?hg (N:=1) ?hd (cs:=#[.string a0_0,.string a0_1]) (t:=29) ?hr ?_;(case hd=>rfl);(case hg=>rfl);(case hr=>first|(go_simp;done)|(go_simp;rfl));intro gb230 hg w8 hbox hb;have n0_:=Aside0.mk (below_step au3 hb);have n1_:=Aside0.mk (hbox);have n2_:=Aside0.mk ((by rw [hg];exact(below_size au3):w.heap.size≤gb230));have n3_:=Aside0.mk ((by rw [hg];exact(below_size au3):w.heap.size≤gb230));clear HB;have HB:=n0_;have BK230:=n1_;have GW230:=n2_;have GE230:=n3_;clear n0_ n1_ n2_ n3_;clear hb hbox hg))
  have n0_:=Aside0.mk (blk_drew BK230.out)
  have n1_:=Aside0.mk (below_drew1 HB.out)
  clear BK230
  clear HB
  have BK230:=n0_
  have HB:=n1_
  clear n0_ n1_
  refine start_ (n:=15) (S:=fun w'=>w'.cell? ⟨gb230,0,none⟩=some (.string a0_0)∧w'.cell? ⟨gb230,1,none⟩=some (.string a0_1)) (ds:=[]) #[fF,fF,fF,fF,fF,fF,fF,fF,fF,fF,fF,fF,fF,fF,fF] au2 rfl rfl ⟨(blk_cell BK230.out 0).trans rfl,(blk_cell BK230.out 1).trans rfl⟩ (fun hHeld=>?_);refine with_tabW racewayref29_FaultJson.tab1 racewayref29_FaultJson.bits1 (fun HT_ HW_=>?_)
  generalize w8.drew=w9 at BK230 HB hHeld ⊢
  refine pure_ (i:=0) (N:=some 7) (v:=?_) (a':=?_) #[tT,fF,fF,fF,fF,fF,fF,fF,fF,fF,fF,fF,fF,fF,fF] rfl rfl (any_of HT_.out au2) (fun _ _ _ h=>h) (Or.inl ⟨au6,?_⟩) ?_ ?_
  rotate_left
  ·intro w'
   go_simp
   with_reducible rfl
  rotate_left
  ·simp only [Act.put,List.setIfInBounds_toArray,List.set_cons_zero,List.set_cons_succ,i64_w,i32_w]
   rfl
  refine pure_ (i:=4) (N:=some 11) (v:=?_) (a':=?_) #[tT,fF,fF,fF,tT,fF,fF,fF,fF,fF,fF,fF,fF,fF,fF] rfl rfl (any_of HT_.out au2) (fun _ _ _ h=>h) (Or.inl ⟨au6,?_⟩) ?_ ?_
  rotate_left
  ·intro w'
   go_simp
   with_reducible rfl
  rotate_left
  ·simp only [Act.put,List.setIfInBounds_toArray,List.set_cons_zero,List.set_cons_succ,i64_w,i32_w]
   rfl
  refine take_ (i:=1) (N:=some 8) (v:=?_) (a':=?_) #[tT,tT,fF,fF,tT,fF,fF,fF,fF,fF,fF,fF,fF,fF,fF] rfl rfl (take_ofW HT_.out HW_.out au2) (fun _ _ _ h=>h) (Or.inl ⟨au6,?_⟩) hHeld ?_ ?_
  rotate_left
  ·rintro w' ⟨s0,s1⟩
   go_simp
   with_reducible rfl
  rotate_left
  ·simp only [Act.put,List.setIfInBounds_toArray,List.set_cons_zero,List.set_cons_succ,i64_w,i32_w]
   rfl
  refine pure_ (i:=2) (N:=some 9) (v:=?_) (a':=?_) #[tT,tT,tT,fF,tT,fF,fF,fF,fF,fF,fF,fF,fF,fF,fF] rfl rfl (any_of HT_.out au2) (fun _ _ _ h=>h) (Or.inl ⟨au6,?_⟩) ?_ ?_
  rotate_left
  ·intro w'
   go_simp
   with_reducible rfl
  rotate_left
  ·simp only [Act.put,List.setIfInBounds_toArray,List.set_cons_zero,List.set_cons_succ,i64_w,i32_w]
   rfl
  refine take_ (i:=5) (N:=some 12) (v:=?_) (a':=?_) #[tT,tT,tT,fF,tT,tT,fF,fF,fF,fF,fF,fF,fF,fF,fF] rfl rfl (take_ofW HT_.out HW_.out au2) (fun _ _ _ h=>h) (Or.inl ⟨au6,?_⟩) hHeld ?_ ?_
  rotate_left
  ·rintro w' ⟨s0,s1⟩
   go_simp
   with_reducible rfl
  rotate_left
  ·simp only [Act.put,List.setIfInBounds_toArray,List.set_cons_zero,List.set_cons_succ,i64_w,i32_w]
   rfl
  refine one_ (i:=3) (N:=some 10) #[tT,tT,tT,tT,tT,tT,fF,fF,fF,fF,fF,fF,fF,fF,fF] rfl rfl (one_of HT_.out au2) au1 (fun K hK=>?_)
  refine goes_ Tryd.func26 au2 rfl #[.string (⟨#[95,95,116,121,112,101]⟩:ByteArray),.string ((⟨#[99,111,109,46,97,109,97,122,111,110,97,119,115,46,115,113,115,35]⟩:ByteArray)++a0_0)] au6 rfl rfl au10 ?_
  with_reducible refine(racewayref29_text.calls k (⟨#[95,95,116,121,112,101]⟩:ByteArray) ((⟨#[99,111,109,46,97,109,97,122,111,110,97,119,115,46,115,113,115,35]⟩:ByteArray)++a0_0) t231 t232 _ A3.out).mono ?_
  rintro e w10 ⟨v233,rfl,ho0,hb⟩
  refine ⟨_,rfl,?_⟩
  have n0_:=Aside0.mk (Kd.R_lower ho0 (below_size (by repeat(first|(with_reducible first|exact HB.out|apply below_alloc|apply pw_below_drewN|apply below_drew1|refine below_set ?_ GE230.out)|exact HB.out))))
  have n1_:=Aside0.mk (blk_below (g:=gb230) (o:=.cells #[.string a0_0,.string a0_1] 29 (0,0)) (by(with_reducible repeat(first|refine blk_drewN ?_ _|refine blk_drew ?_|refine blk_alloc ?_ _));exact BK230.out) hb)
  have n2_:=Aside0.mk (below_step (by repeat(first|(with_reducible first|exact HB.out|apply below_alloc|apply pw_below_drewN|apply below_drew1|refine below_set ?_ GE230.out)|exact HB.out)) hb)
  clear BK230
  clear HB
  have HO234:=n0_
  have BK230:=n1_
  have HB:=n2_
  clear n0_ n1_ n2_
  (try clear hb)
  (try clear hb2)
  (try clear hk)
  (try clear hi)
  (try clear ho0)
  refine hK.out _ _ ⟨(blk_cell BK230.out 0).trans rfl,(blk_cell BK230.out 1).trans rfl⟩ (fun hHeld=>?_)
  clear hK K
  refine norm_ (a':=?_) ?_ ?_
  rotate_left
  ·show Act.put _ (some 10) _=_
   simp only [Act.put,List.setIfInBounds_toArray,List.set_cons_zero,List.set_cons_succ,i64_w,i32_w]
   rfl
  refine one_ (i:=6) (N:=some 13) #[tT,tT,tT,tT,tT,tT,tT,fF,fF,fF,fF,fF,fF,fF,fF] rfl rfl (one_of HT_.out au2) au1 (fun K hK=>?_)
  refine goes_ Tryd.func26 au2 rfl #[.string (⟨#[109,101,115,115,97,103,101]⟩:ByteArray),.string a0_1] au6 rfl rfl au10 ?_
  with_reducible refine(racewayref29_text.calls k (⟨#[109,101,115,115,97,103,101]⟩:ByteArray) a0_1 t235 t236 _ A4.out).mono ?_
  rintro e w11 ⟨v237,rfl,ho0,hb⟩
  refine ⟨_,rfl,?_⟩
  have n0_:=Aside0.mk (Kd.R_elder' (by(with_reducible repeat(first|apply Kd.R_alloc|apply Kd.R_drewN|apply Kd.R_drew));exact HO234.out) (Kd.R_base ho0) hb)
  have n1_:=Aside0.mk (Kd.R_lower (Kd.R_new' ho0 (Kd.R_lt (by(with_reducible repeat(first|apply Kd.R_alloc|apply Kd.R_drewN|apply Kd.R_drew));exact HO234.out))) (below_size (by repeat(first|(with_reducible first|exact HB.out|apply below_alloc|apply pw_below_drewN|apply below_drew1|refine below_set ?_ GE230.out)|exact HB.out))))
  have n2_:=Aside0.mk (blk_below (g:=gb230) (o:=.cells #[.string a0_0,.string a0_1] 29 (0,0)) (by(with_reducible repeat(first|refine blk_drewN ?_ _|refine blk_drew ?_|refine blk_alloc ?_ _));exact BK230.out) hb)
  have n3_:=Aside0.mk (below_step (by repeat(first|(with_reducible first|exact HB.out|apply below_alloc|apply pw_below_drewN|apply below_drew1|refine below_set ?_ GE230.out)|exact HB.out)) hb)
  clear HO234
  clear BK230
  clear HB
  have HO234:=n0_
  have HO238:=n1_
  have BK230:=n2_
  have HB:=n3_
  clear n0_ n1_ n2_ n3_
  (try clear hb)
  (try clear hb2)
  (try clear hk)
  (try clear hi)
  (try clear ho0)
  obtain ⟨Ao12,co12,eo12⟩:=Kd.R_slice HO234.out
  (first|subst eo12|(injection eo12 with f1_ f2_ f3_;have f4_:=f1_.symm;have f5_:=f3_.symm;clear f1_ f2_ f3_;subst f4_;subst f5_))
  obtain ⟨Ao13,co13,eo13⟩:=Kd.R_slice HO238.out
  (first|subst eo13|(injection eo13 with f1_ f2_ f3_;have f4_:=f1_.symm;have f5_:=f3_.symm;clear f1_ f2_ f3_;subst f4_;subst f5_))
  refine hK.out _ _ ⟨(blk_cell BK230.out 0).trans rfl,(blk_cell BK230.out 1).trans rfl⟩ (fun hHeld=>?_)
  clear hK K
  refine norm_ (a':=?_) ?_ ?_
  rotate_left
  ·show Act.put _ (some 13) _=_
   simp only [Act.put,List.setIfInBounds_toArray,List.set_cons_zero,List.set_cons_succ,i64_w,i32_w]
   rfl
  refine one_ (i:=7) (N:=some 14) #[tT,tT,tT,tT,tT,tT,tT,tT,fF,fF,fF,fF,fF,fF,fF] rfl rfl (one_of HT_.out au2) au1 (fun K hK=>?_)
  refine Kd.N_lit_step k53 _ 53 ?hg (N':=14) ?hd (xs:=([(⟨t231,t232⟩:S53),(⟨t235,t236⟩:S53)]:List (S53))) (inner:=[.string t231,.slice Ao12 t232.length co12,.string t235,.slice Ao13 t236.length co13]) (ok:=(fun k_=>k_≠gb230)) (okp:=(fun k_=>k_≠gb230)) ?hr ?hp (fun _ hk=>hk) ((show ∀ k_,w11.heap.size≤k_→(fun k_=>k_≠gb230) k_ from fun k_ hk=>Kd.freshB (g:=gb230) (o:=.cells #[.string a0_0,.string a0_1] 29 (0,0)) (by(with_reducible repeat(first|refine blk_drewN ?_ _|refine blk_drew ?_|refine blk_alloc ?_ _));exact BK230.out) k_ hk) _ (Nat.le_refl _)) (Below.refl _ _) (Nat.le_refl _) au5 ?_;(case hd=>rfl);(case hg=>rfl);(case hr=>first|(go_simp;done)|(go_simp;rfl));(case hp=>exact(Reps.c2 (show Kd.FK k53 _ _ (⟨t231,t232⟩:S53) [.string t231,.slice Ao12 t232.length co12] from (k53_mkF _ _ (⟨t231,t232⟩:S53) (Kd.R_reads' (Kd.R_mono (ok':=(fun k_=>k_≠gb230)) (Kd.R_types (HO234.out) BK230.out au1) (fun k_ hk=>hk.2))).2.1 (Kd.R_F (Kd.R_mono (ok':=(fun k_=>k_≠gb230)) (Kd.R_types (HO234.out) BK230.out au1) (fun k_ hk=>hk.2))))) (Reps.c2 (show Kd.FK k53 _ _ (⟨t235,t236⟩:S53) [.string t235,.slice Ao13 t236.length co13] from (k53_mkF _ _ (⟨t235,t236⟩:S53) (Kd.R_reads' (Kd.R_mono (ok':=(fun k_=>k_≠gb230)) (Kd.R_types (HO238.out) BK230.out au1) (fun k_ hk=>hk.2))).2.1 (Kd.R_F (Kd.R_mono (ok':=(fun k_=>k_≠gb230)) (Kd.R_types (HO238.out) BK230.out au1) (fun k_ hk=>hk.2))))) (Reps.none _ _))))
  intro v240 w14 ho15 hb hg_ hnew_
  clear hg_ hnew_
  (first|rw [← Ny239.out] at ho15|(simp only [Int.reduceToNat] at ho15;rw [← Ny239.out] at ho15))
  have n0_:=Aside0.mk (Kd.N_lower ho15 (below_size (by repeat(first|(with_reducible first|exact HB.out|apply below_alloc|apply pw_below_drewN|apply below_drew1|refine below_set ?_ GE230.out)|exact HB.out))))
  have n1_:=Aside0.mk (blk_below (g:=gb230) (o:=.cells #[.string a0_0,.string a0_1] 29 (0,0)) (by(with_reducible repeat(first|refine blk_drewN ?_ _|refine blk_drew ?_|refine blk_alloc ?_ _));exact BK230.out) hb)
  have n2_:=Aside0.mk (below_step (by repeat(first|(with_reducible first|exact HB.out|apply below_alloc|apply pw_below_drewN|apply below_drew1|refine below_set ?_ GE230.out)|exact HB.out)) hb)
  clear BK230
  clear HB
  clear HO234
  clear HO238
  have HO241:=n0_
  have BK230:=n1_
  have HB:=n2_
  clear n0_ n1_ n2_
  clear hb ho15
  obtain ⟨Ao16,co16,eo16⟩:=Kd.N_slice HO241.out
  (first|subst eo16|(injection eo16 with f1_ f2_ f3_;have f4_:=f1_.symm;have f5_:=f3_.symm;clear f1_ f2_ f3_;subst f4_;subst f5_))
  refine hK.out _ _ ⟨(blk_cell BK230.out 0).trans rfl,(blk_cell BK230.out 1).trans rfl⟩ (fun hHeld=>?_)
  clear hK K
  refine norm_ (a':=?_) ?_ ?_
  rotate_left
  ·show Act.put _ (some 14) _=_
   simp only [Act.put,List.setIfInBounds_toArray,List.set_cons_zero,List.set_cons_succ,i64_w,i32_w]
   rfl
  refine one_ (i:=8) (N:=some 15) #[tT,tT,tT,tT,tT,tT,tT,tT,tT,fF,fF,fF,fF,fF,fF] rfl rfl (one_of HT_.out au2) au1 (fun K hK=>?_)
  refine goes_ Tryd.func25 au2 rfl #[.slice Ao16 y239.length co16] au6 rfl rfl au10 ?_
  with_reducible refine(racewayref29_object.calls k (fun k_=>k_≠gb230) _ _ y239 t242 _ ?side1 A5.out).mono ?_
  (case side1=>exact Kd.N_V (HO241.out))
  rintro e w17 ⟨v243,rfl,ho0,hb⟩
  refine ⟨_,rfl,?_⟩
  have n0_:=Aside0.mk (Kd.N_elder' au76 (Kd.R_base ho0) hb)
  have n1_:=Aside0.mk (Kd.R_lower (Kd.R_mono (ok':=fun k_=>True) ho0 (fun _ hk_=>trivial)) (below_size (by repeat(first|(with_reducible first|exact HB.out|apply below_alloc|apply pw_below_drewN|apply below_drew1|refine below_set ?_ GE230.out)|exact HB.out))))
  have n2_:=Aside0.mk (blk_below (g:=gb230) (o:=.cells #[.string a0_0,.string a0_1] 29 (0,0)) (by(with_reducible repeat(first|refine blk_drewN ?_ _|refine blk_drew ?_|refine blk_alloc ?_ _));exact BK230.out) hb)
  have n3_:=Aside0.mk (below_step (by repeat(first|(with_reducible first|exact HB.out|apply below_alloc|apply pw_below_drewN|apply below_drew1|refine below_set ?_ GE230.out)|exact HB.out)) hb)
  clear HO241
  clear BK230
  clear HB
  have HO241:=n0_
  have HO244:=n1_
  have BK230:=n2_
  have HB:=n3_
  clear n0_ n1_ n2_ n3_
  (try clear hb)
  (try clear hb2)
  (try clear hk)
  (try clear hi)
  (try clear ho0)
  obtain ⟨Ao18,co18,eo18⟩:=Kd.R_slice HO244.out
  (first|subst eo18|(injection eo18 with f1_ f2_ f3_;have f4_:=f1_.symm;have f5_:=f3_.symm;clear f1_ f2_ f3_;subst f4_;subst f5_))
  refine hK.out _ _ ⟨(blk_cell BK230.out 0).trans rfl,(blk_cell BK230.out 1).trans rfl⟩ (fun hHeld=>?_)
  clear hK K
  refine norm_ (a':=?_) ?_ ?_
  rotate_left
  ·show Act.put _ (some 15) _=_
   simp only [Act.put,List.setIfInBounds_toArray,List.set_cons_zero,List.set_cons_succ,i64_w,i32_w]
   rfl
  refine one_ (i:=9) (N:=some 16) #[tT,tT,tT,tT,tT,tT,tT,tT,tT,tT,fF,fF,fF,fF,fF] rfl rfl (one_of HT_.out au2) au1 (fun K hK=>?_)
  refine goes_ Tryd.func24 au2 rfl #[.slice Ao18 t242.length co18] au6 rfl rfl au10 ?_
  with_reducible refine(racewayref25_Print.calls k _ _ t242 t245 t246 _ ?side1 ?side2 A6.out).mono ?_
  (case side1=>repeat(first|exact(Kd.R_reads' HO244.out).2.2|(with_reducible refine Kd.C_alloc ?_ _)|(with_reducible refine Kd.C_drewN ?_ _)|(with_reducible refine Kd.C_drew ?_)))
  (case side2=>exact(Kd.R_reads' HO244.out).2.1)
  rintro e w19 ⟨rfl,hb⟩
  refine ⟨_,rfl,?_⟩
  have n0_:=Aside0.mk (Kd.N_below au76 hb)
  have n1_:=Aside0.mk (Kd.R_below (by(with_reducible repeat(first|apply Kd.R_alloc|apply Kd.R_drewN|apply Kd.R_drew));exact HO244.out) hb)
  have n2_:=Aside0.mk (blk_below (g:=gb230) (o:=.cells #[.string a0_0,.string a0_1] 29 (0,0)) (by(with_reducible repeat(first|refine blk_drewN ?_ _|refine blk_drew ?_|refine blk_alloc ?_ _));exact BK230.out) hb)
  have n3_:=Aside0.mk (below_step (by repeat(first|(with_reducible first|exact HB.out|apply below_alloc|apply pw_below_drewN|apply below_drew1|refine below_set ?_ GE230.out)|exact HB.out)) hb)
  clear HO241
  clear HO244
  clear BK230
  clear HB
  have HO241:=n0_
  have HO244:=n1_
  have BK230:=n2_
  have HB:=n3_
  clear n0_ n1_ n2_ n3_
  (try clear hb)
  (try clear hb2)
  (try clear hk)
  (try clear hi)
  refine hK.out _ _ ⟨(blk_cell BK230.out 0).trans rfl,(blk_cell BK230.out 1).trans rfl⟩ (fun hHeld=>?_)
  clear hK K
  refine norm_ (a':=?_) ?_ ?_
  rotate_left
  ·show Act.put _ (some 16) _=_
   simp only [Act.put,List.setIfInBounds_toArray,List.set_cons_zero,List.set_cons_succ,i64_w,i32_w]
   rfl
  refine pure_ (i:=10) (N:=some 6) (v:=?_) (a':=?_) #[tT,tT,tT,tT,tT,tT,tT,tT,tT,tT,tT,fF,fF,fF,fF] rfl rfl (any_of HT_.out au2) (fun _ _ _ h=>h) (Or.inl ⟨au6,?_⟩) ?_ ?_
  rotate_left
  ·intro w'
   go_simp
   with_reducible rfl
  rotate_left
  ·simp only [Act.put,List.setIfInBounds_toArray,List.set_cons_zero,List.set_cons_succ,i64_w,i32_w]
   rfl
  refine pure_ (i:=11) (N:=some 17) (v:=?_) (a':=?_) #[tT,tT,tT,tT,tT,tT,tT,tT,tT,tT,tT,tT,fF,fF,fF] rfl rfl (any_of HT_.out au2) (fun _ _ _ h=>h) (Or.inl ⟨au6,?_⟩) ?_ ?_
  rotate_left
  ·intro w'
   go_simp
   with_reducible rfl
  rotate_left
  ·simp only [Act.put,List.setIfInBounds_toArray,List.set_cons_zero,List.set_cons_succ,i64_w,i32_w]
   rfl
  refine pure_ (i:=12) (N:=some 18) (v:=?_) (a':=?_) #[tT,tT,tT,tT,tT,tT,tT,tT,tT,tT,tT,tT,tT,fF,fF] rfl rfl (any_of HT_.out au2) (fun _ _ _ h=>h) (Or.inl ⟨au6,?_⟩) ?_ ?_
  rotate_left
  ·intro w'
   go_simp
   with_reducible rfl
  rotate_left
  ·simp only [Act.put,List.setIfInBounds_toArray,List.set_cons_zero,List.set_cons_succ,i64_w,i32_w]
   rfl
  refine pure_ (i:=13) (N:=some 4) (v:=?_) (a':=?_) #[tT,tT,tT,tT,tT,tT,tT,tT,tT,tT,tT,tT,tT,tT,fF] rfl rfl (any_of HT_.out au2) (fun _ _ _ h=>h) (Or.inl ⟨au6,?_⟩) ?_ ?_
  rotate_left
  ·intro w'
   go_simp
   with_reducible rfl
  rotate_left
  ·simp only [Act.put,List.setIfInBounds_toArray,List.set_cons_zero,List.set_cons_succ,i64_w,i32_w]
   rfl
  refine pure_ (i:=14) (N:=some 5) (v:=?_) (a':=?_) #[tT,tT,tT,tT,tT,tT,tT,tT,tT,tT,tT,tT,tT,tT,tT] rfl rfl (any_of HT_.out au2) (fun _ _ _ h=>h) (Or.inl ⟨au6,?_⟩) ?_ ?_
  rotate_left
  ·intro w'
   go_simp
   with_reducible rfl
  rotate_left
  ·simp only [Act.put,List.setIfInBounds_toArray,List.set_cons_zero,List.set_cons_succ,i64_w,i32_w]
   rfl
  refine done_ (done_of HT_.out au2) ?_
  have hcz20_0:w19.cell? ⟨gb230,0,none⟩=some (.string a0_0):=(blk_cell BK230.out 0).trans rfl
  have hcz20_1:w19.cell? ⟨gb230,1,none⟩=some (.string a0_1):=(blk_cell BK230.out 1).trans rfl
  have hfz20_0:=blk_frozen BK230.out 0
  have hfz20_1:=blk_frozen BK230.out 1
  try go_wp2_with (first|((with_reducible refine gate_callee (f:=27) rfl ?_);refine goesL_ (some 20) rfl rfl Tryd.func27 au2 rfl #[.agg #[.string a0_0,.string a0_1]] rfl au10 ?_;(with_reducible refine(racewayref29_status.calls a0_0 a0_1 t247 _ A7.out).mono ?_);rintro e w21 ⟨rfl,hb⟩;refine ⟨_,rfl,?_⟩;have n0_:=Aside0.mk (Kd.N_below au76 hb);have n1_:=Aside0.mk (Kd.R_below (by(with_reducible repeat(first|apply Kd.R_alloc|apply Kd.R_drewN|apply Kd.R_drew));exact HO244.out) hb);have n2_:=Aside0.mk (blk_below (g:=gb230) (o:=.cells #[.string a0_0,.string a0_1] 29 (0,0)) (by(with_reducible repeat(first|refine blk_drewN ?_ _|refine blk_drew ?_|refine blk_alloc ?_ _));exact BK230.out) hb);have n3_:=Aside0.mk (below_step (by repeat(first|(with_reducible first|exact HB.out|apply below_alloc|apply pw_below_drewN|apply below_drew1|refine below_set ?_ GE230.out)|exact HB.out)) hb);clear HO241;clear HO244;clear BK230;clear HB;have HO241:=n0_;have HO244:=n1_;have BK230:=n2_;have HB:=n3_;clear n0_ n1_ n2_ n3_;(try clear hb);(try clear hb2);(try clear hk);(try clear hi)))
  go_ret2
  exact ⟨au12,by repeat(first|(with_reducible first|exact HB.out|apply below_alloc|apply pw_below_drewN|apply below_drew1|refine below_set ?_ GE230.out)|exact HB.out)⟩
 ·rw [if_neg c2] at H
  exact absurd H au5
def racewayref29_Markup.f (k:Nat) (a0:ByteArray) (l1:List (S24)):Option (ByteArray):=(racewayref25_Check.f k l1).bind fun t172=>(if t172=0 then((racewayref29_element.f k a0 l1 0).bind fun t173=>(some t173)) else(some (⟨#[]⟩:ByteArray)))
set_option maxHeartbeats 8000000 in
set_option maxRecDepth 100000 in
theorem racewayref29_Markup.calls (k:Nat) (a0:ByteArray) (A1:Option Addr) (c1:Nat) (l1:List (S24)) (r:ByteArray) (w:World) (hr1:Kd.C k24 w A1 l1.length l1) (hc1:l1.length≤c1) (h:racewayref29_Markup.f k a0 l1=some r) :
  Calls Tryd.prog 6 #[.string a0,.slice A1 l1.length c1] w fun e w'=>e=.returned (.string r)∧Below w.heap.size w w':=by
 have HR1:=Aside0.mk hr1
 have HC1:=Aside0.mk hc1
 clear hr1 hc1
 have HB:=Aside0.mk (Below.refl w.heap.size w)
 have H:((racewayref25_Check.f k l1).bind fun t172=>(if t172=0 then((racewayref29_element.f k a0 l1 0).bind fun t173=>(some t173)) else(some (⟨#[]⟩:ByteArray))))=some r:=h
 clear h
 replace H:=Option.bind_eq_some_iff.mp H
 obtain ⟨t172,A30,H⟩:=H
 replace H:(if t172=0 then((racewayref29_element.f k a0 l1 0).bind fun t173=>(some t173)) else(some (⟨#[]⟩:ByteArray)))=some r:=H
 have A3:=Aside0.mk A30
 clear A30
 by_cases c4:t172=0
 ·rw [if_pos c4] at H
  have c4b0:(t172==0)=true:=beq_iff_eq.mpr c4
  have c4b1:(t172 != 0)=false:=bne_eq_false_iff_eq.mpr c4
  clear c4
  replace H:=Option.bind_eq_some_iff.mp H
  obtain ⟨t173,A50,H⟩:=H
  replace H:(some t173)=some r:=H
  have A5:=Aside0.mk A50
  clear A50
  obtain rfl:=Option.some.inj H
  go_enter Tryd.func6,Tryd.ntmps6
  go_wp2_with (first|((with_reducible refine gate_callee (f:=18) rfl ?_);refine goesL_ (some 6) rfl rfl Tryd.func18 au2 rfl #[.slice A1 l1.length c1] rfl au10 ?_;(with_reducible refine(racewayref25_Check.calls k _ _ l1 t172 _ ?side1 ?side2 A3.out).mono ?_);(case side1=>repeat(first|exact HR1.out|(with_reducible refine Kd.C_alloc ?_ _)|(with_reducible refine Kd.C_drewN ?_ _)|(with_reducible refine Kd.C_drew ?_)));(case side2=>exact HC1.out);rintro e w6 ⟨rfl,hb⟩;refine ⟨_,rfl,?_⟩;have n0_:=Aside0.mk (below_step au3 hb);clear HB;have HB:=n0_;clear n0_;(try clear hb);(try clear hb2);(try clear hk);(try clear hi))|((with_reducible refine gate_callee (f:=19) rfl ?_);refine goesL_ (some 10) rfl rfl Tryd.func19 au2 rfl #[.string a0,.slice A1 l1.length c1,.int .i64 0] rfl au10 ?_;(with_reducible refine(racewayref29_element.calls k a0 _ _ l1 0 t173 _ ?side1 ?side2 A5.out).mono ?_);(case side1=>repeat(first|exact(Kd.C_below HR1.out HB.out)|(with_reducible refine Kd.C_alloc ?_ _)|(with_reducible refine Kd.C_drewN ?_ _)|(with_reducible refine Kd.C_drew ?_)));(case side2=>exact HC1.out);rintro e w7 ⟨rfl,hb⟩;refine ⟨_,rfl,?_⟩;have n0_:=Aside0.mk (below_step au3 hb);clear HB;have HB:=n0_;clear n0_;(try clear hb);(try clear hb2);(try clear hk);(try clear hi)))
  go_ret
  exact ⟨au12,au3⟩
 ·rw [if_neg c4] at H
  have c4b0:(t172==0)=false:=beq_eq_false_iff_ne.mpr c4
  have c4b1:(t172 != 0)=true:=bne_iff_ne.mpr c4
  obtain rfl:=Option.some.inj H
  go_enter Tryd.func6,Tryd.ntmps6
  go_wp2_with (first|((with_reducible refine gate_callee (f:=18) rfl ?_);refine goesL_ (some 6) rfl rfl Tryd.func18 au2 rfl #[.slice A1 l1.length c1] rfl au10 ?_;(with_reducible refine(racewayref25_Check.calls k _ _ l1 t172 _ ?side1 ?side2 A3.out).mono ?_);(case side1=>repeat(first|exact HR1.out|(with_reducible refine Kd.C_alloc ?_ _)|(with_reducible refine Kd.C_drewN ?_ _)|(with_reducible refine Kd.C_drew ?_)));(case side2=>exact HC1.out);rintro e w8 ⟨rfl,hb⟩;refine ⟨_,rfl,?_⟩;have n0_:=Aside0.mk (below_step au3 hb);clear HB;have HB:=n0_;clear n0_;(try clear hb);(try clear hb2);(try clear hk);(try clear hi)))
  go_ret
  exact ⟨au12,au3⟩
def racewayref29_FaultXml.f (k:Nat) (a0_0:ByteArray) (a0_1:ByteArray):Option (Int × ByteArray):=(racewayref29_status.f a0_0 a0_1).bind fun t249=>((racewayref29_text.f k (⟨#[67,111,100,101]⟩:ByteArray) a0_0).bind fun bt250=>((racewayref29_text.f k (⟨#[77,101,115,115,97,103,101]⟩:ByteArray) a0_1).bind fun bt254=>((racewayref29_object.f k (([(⟨bt250.1,bt250.2⟩:S53),(⟨bt254.1,bt254.2⟩:S53)]:List (S53)))).bind fun t261=>((racewayref29_object.f k (([(⟨(⟨#[69,114,114,111,114]⟩:ByteArray),t261⟩:S53)]:List (S53)))).bind fun t267=>((racewayref29_Markup.f k (⟨#[69,114,114,111,114,82,101,115,112,111,110,115,101]⟩:ByteArray) t267).bind fun t270=>(some (t249,t270)))))))
def racewayref29_FaultXml.T1:Bool × List (List Nat × List Nat):=(true,[([],[]),([0],[0]),([],[]),([2],[2]),([3,1],[3]),([],[]),([5],[5]),([6,4],[6]),([4,7],[4,7]),([8,7],[8]),([9],[9]),([10],[10]),([11,9],[11]),([12,12],[12]),([1,13,0,1],[1]),([13,14,0,1,2,3,4,5,6,7,8,9,10,11,12,13,14],[13])])
def racewayref29_FaultXml.B1:List Nat:=[0,1,0,4,15,0,32,127,255,511,1023,2047,4095,8191,16383,32767]
theorem racewayref29_FaultXml.tab1:rtab .any (opsOf Tryd.f11 1)=racewayref29_FaultXml.T1:=by kernel_rfl
theorem racewayref29_FaultXml.bits1:waitsOk racewayref29_FaultXml.T1.2 racewayref29_FaultXml.B1=true:=by kernel_rfl
set_option maxHeartbeats 8000000 in
set_option maxRecDepth 100000 in
theorem racewayref29_FaultXml.calls (k:Nat) (a0_0:ByteArray) (a0_1:ByteArray) (r1:Int) (r2:ByteArray) (w:World) (h:racewayref29_FaultXml.f k a0_0 a0_1=some (r1,r2)) :
  Calls Tryd.prog 11 #[.agg #[.string a0_0,.string a0_1]] w fun e w'=>e=.returned (.tuple #[.int .i64 r1,.string r2])∧Below w.heap.size w w':=by
 have hu29:=Tryd.underlying29
 have hu53:=Tryd.underlying53
 have HB:=Aside0.mk (Below.refl w.heap.size w)
 have H:((racewayref29_status.f a0_0 a0_1).bind fun t249=>((racewayref29_text.f k (⟨#[67,111,100,101]⟩:ByteArray) a0_0).bind fun bt250=>((racewayref29_text.f k (⟨#[77,101,115,115,97,103,101]⟩:ByteArray) a0_1).bind fun bt254=>((racewayref29_object.f k (([(⟨bt250.1,bt250.2⟩:S53),(⟨bt254.1,bt254.2⟩:S53)]:List (S53)))).bind fun t261=>((racewayref29_object.f k (([(⟨(⟨#[69,114,114,111,114]⟩:ByteArray),t261⟩:S53)]:List (S53)))).bind fun t267=>((racewayref29_Markup.f k (⟨#[69,114,114,111,114,82,101,115,112,111,110,115,101]⟩:ByteArray) t267).bind fun t270=>(some (t249,t270))))))))=some (r1,r2):=h
 clear h
 replace H:=Option.bind_eq_some_iff.mp H
 obtain ⟨t249,A20,H⟩:=H
 replace H:((racewayref29_text.f k (⟨#[67,111,100,101]⟩:ByteArray) a0_0).bind fun bt250=>((racewayref29_text.f k (⟨#[77,101,115,115,97,103,101]⟩:ByteArray) a0_1).bind fun bt254=>((racewayref29_object.f k (([(⟨bt250.1,bt250.2⟩:S53),(⟨bt254.1,bt254.2⟩:S53)]:List (S53)))).bind fun t261=>((racewayref29_object.f k (([(⟨(⟨#[69,114,114,111,114]⟩:ByteArray),t261⟩:S53)]:List (S53)))).bind fun t267=>((racewayref29_Markup.f k (⟨#[69,114,114,111,114,82,101,115,112,111,110,115,101]⟩:ByteArray) t267).bind fun t270=>(some (t249,t270)))))))=some (r1,r2):=H
 have A2:=Aside0.mk A20
 clear A20
 replace H:=Option.bind_eq_some_iff.mp H
 obtain ⟨⟨t250,t251⟩,A30,H⟩:=H
 replace H:((racewayref29_text.f k (⟨#[77,101,115,115,97,103,101]⟩:ByteArray) a0_1).bind fun bt254=>((racewayref29_object.f k (([(⟨t250,t251⟩:S53),(⟨bt254.1,bt254.2⟩:S53)]:List (S53)))).bind fun t261=>((racewayref29_object.f k (([(⟨(⟨#[69,114,114,111,114]⟩:ByteArray),t261⟩:S53)]:List (S53)))).bind fun t267=>((racewayref29_Markup.f k (⟨#[69,114,114,111,114,82,101,115,112,111,110,115,101]⟩:ByteArray) t267).bind fun t270=>(some (t249,t270))))))=some (r1,r2):=H
 have A3:=Aside0.mk A30
 clear A30
 replace H:=Option.bind_eq_some_iff.mp H
 obtain ⟨⟨t254,t255⟩,A40,H⟩:=H
 replace H:((racewayref29_object.f k (([(⟨t250,t251⟩:S53),(⟨t254,t255⟩:S53)]:List (S53)))).bind fun t261=>((racewayref29_object.f k (([(⟨(⟨#[69,114,114,111,114]⟩:ByteArray),t261⟩:S53)]:List (S53)))).bind fun t267=>((racewayref29_Markup.f k (⟨#[69,114,114,111,114,82,101,115,112,111,110,115,101]⟩:ByteArray) t267).bind fun t270=>(some (t249,t270)))))=some (r1,r2):=H
 have A4:=Aside0.mk A40
 clear A40
 obtain ⟨y258,hy258⟩:∃ y_:List (S53),y_=(([(⟨t250,t251⟩:S53),(⟨t254,t255⟩:S53)]:List (S53))):=⟨_,rfl⟩
 replace H:((racewayref29_object.f k y258).bind fun t261=>((racewayref29_object.f k (([(⟨(⟨#[69,114,114,111,114]⟩:ByteArray),t261⟩:S53)]:List (S53)))).bind fun t267=>((racewayref29_Markup.f k (⟨#[69,114,114,111,114,82,101,115,112,111,110,115,101]⟩:ByteArray) t267).bind fun t270=>(some (t249,t270)))))=some (r1,r2):=by first|(rw [hy258];with_reducible exact H)|(have H2_:=(Option.bind_some _ _).symm.trans H;rw [hy258];with_reducible exact H2_)|(have H2_:=(Option.bind_some _ _).symm.trans H;with_reducible exact H2_)|with_reducible exact H|(rw [hy258];exact H)|exact H
 have Ny258:=Aside0.mk hy258
 clear hy258
 replace H:=Option.bind_eq_some_iff.mp H
 obtain ⟨t261,A50,H⟩:=H
 replace H:((racewayref29_object.f k (([(⟨(⟨#[69,114,114,111,114]⟩:ByteArray),t261⟩:S53)]:List (S53)))).bind fun t267=>((racewayref29_Markup.f k (⟨#[69,114,114,111,114,82,101,115,112,111,110,115,101]⟩:ByteArray) t267).bind fun t270=>(some (t249,t270))))=some (r1,r2):=H
 have A5:=Aside0.mk A50
 clear A50
 obtain ⟨y264,hy264⟩:∃ y_:List (S53),y_=(([(⟨(⟨#[69,114,114,111,114]⟩:ByteArray),t261⟩:S53)]:List (S53))):=⟨_,rfl⟩
 replace H:((racewayref29_object.f k y264).bind fun t267=>((racewayref29_Markup.f k (⟨#[69,114,114,111,114,82,101,115,112,111,110,115,101]⟩:ByteArray) t267).bind fun t270=>(some (t249,t270))))=some (r1,r2):=by first|(rw [hy264];with_reducible exact H)|(have H2_:=(Option.bind_some _ _).symm.trans H;rw [hy264];with_reducible exact H2_)|(have H2_:=(Option.bind_some _ _).symm.trans H;with_reducible exact H2_)|with_reducible exact H|(rw [hy264];exact H)|exact H
 have Ny264:=Aside0.mk hy264
 clear hy264
 replace H:=Option.bind_eq_some_iff.mp H
 obtain ⟨t267,A60,H⟩:=H
 replace H:((racewayref29_Markup.f k (⟨#[69,114,114,111,114,82,101,115,112,111,110,115,101]⟩:ByteArray) t267).bind fun t270=>(some (t249,t270)))=some (r1,r2):=H
 have A6:=Aside0.mk A60
 clear A60
 replace H:=Option.bind_eq_some_iff.mp H
 obtain ⟨t270,A70,H⟩:=H
 replace H:(some (t249,t270))=some (r1,r2):=H
 have A7:=Aside0.mk A70
 clear A70
 simp only [Option.some.injEq,Prod.mk.injEq] at H
 obtain ⟨rfl,rfl⟩:=H
 go_enter Tryd.func11,Tryd.ntmps11
 try go_wp2_with (first|((with_reducible refine gate_dst (N:=1) rfl ?_);refine box_event ?hg (N:=1) ?hd (cs:=#[.string a0_0,.string a0_1]) (t:=29) ?hr ?_;(case hd=>rfl);(case hg=>rfl);(case hr=>first|(go_simp;done)|(go_simp;rfl));intro gb248 hg w8 hbox hb;have n0_:=Aside0.mk (below_step au3 hb);have n1_:=Aside0.mk (hbox);have n2_:=Aside0.mk ((by rw [hg];exact(below_size au3):w.heap.size≤gb248));have n3_:=Aside0.mk ((by rw [hg];exact(below_size au3):w.heap.size≤gb248));clear HB;have HB:=n0_;have BK248:=n1_;have GW248:=n2_;have GE248:=n3_;clear n0_ n1_ n2_ n3_;clear hb hbox hg))
 have n0_:=Aside0.mk (blk_drew BK248.out)
 have n1_:=Aside0.mk (below_drew1 HB.out)
 clear BK248
 clear HB
 have BK248:=n0_
 have HB:=n1_
 clear n0_ n1_
 refine start_ (n:=16) (S:=fun w'=>w'.cell? ⟨gb248,0,none⟩=some (.string a0_0)∧w'.cell? ⟨gb248,1,none⟩=some (.string a0_1)) (ds:=[]) #[fF,fF,fF,fF,fF,fF,fF,fF,fF,fF,fF,fF,fF,fF,fF,fF] au2 rfl rfl ⟨(blk_cell BK248.out 0).trans rfl,(blk_cell BK248.out 1).trans rfl⟩ (fun hHeld=>?_);refine with_tabW racewayref29_FaultXml.tab1 racewayref29_FaultXml.bits1 (fun HT_ HW_=>?_)
 generalize w8.drew=w9 at BK248 HB hHeld ⊢
 refine pure_ (i:=2) (N:=some 6) (v:=?_) (a':=?_) #[fF,fF,tT,fF,fF,fF,fF,fF,fF,fF,fF,fF,fF,fF,fF,fF] rfl rfl (any_of HT_.out au2) (fun _ _ _ h=>h) (Or.inl ⟨au6,?_⟩) ?_ ?_
 rotate_left
 ·intro w'
  go_simp
  with_reducible rfl
 rotate_left
 ·simp only [Act.put,List.setIfInBounds_toArray,List.set_cons_zero,List.set_cons_succ,i64_w,i32_w]
  rfl
 refine pure_ (i:=5) (N:=some 9) (v:=?_) (a':=?_) #[fF,fF,tT,fF,fF,tT,fF,fF,fF,fF,fF,fF,fF,fF,fF,fF] rfl rfl (any_of HT_.out au2) (fun _ _ _ h=>h) (Or.inl ⟨au6,?_⟩) ?_ ?_
 rotate_left
 ·intro w'
  go_simp
  with_reducible rfl
 rotate_left
 ·simp only [Act.put,List.setIfInBounds_toArray,List.set_cons_zero,List.set_cons_succ,i64_w,i32_w]
  rfl
 refine take_ (i:=0) (N:=some 4) (v:=?_) (a':=?_) #[tT,fF,tT,fF,fF,tT,fF,fF,fF,fF,fF,fF,fF,fF,fF,fF] rfl rfl (take_ofW HT_.out HW_.out au2) (fun _ _ _ h=>h) (Or.inl ⟨au6,?_⟩) hHeld ?_ ?_
 rotate_left
 ·rintro w' ⟨s0,s1⟩
  go_simp
  with_reducible rfl
 rotate_left
 ·simp only [Act.put,List.setIfInBounds_toArray,List.set_cons_zero,List.set_cons_succ,i64_w,i32_w]
  rfl
 refine take_ (i:=3) (N:=some 7) (v:=?_) (a':=?_) #[tT,fF,tT,tT,fF,tT,fF,fF,fF,fF,fF,fF,fF,fF,fF,fF] rfl rfl (take_ofW HT_.out HW_.out au2) (fun _ _ _ h=>h) (Or.inl ⟨au6,?_⟩) hHeld ?_ ?_
 rotate_left
 ·rintro w' ⟨s0,s1⟩
  go_simp
  with_reducible rfl
 rotate_left
 ·simp only [Act.put,List.setIfInBounds_toArray,List.set_cons_zero,List.set_cons_succ,i64_w,i32_w]
  rfl
 refine take_ (i:=6) (N:=some 10) (v:=?_) (a':=?_) #[tT,fF,tT,tT,fF,tT,tT,fF,fF,fF,fF,fF,fF,fF,fF,fF] rfl rfl (take_ofW HT_.out HW_.out au2) (fun _ _ _ h=>h) (Or.inl ⟨au6,?_⟩) hHeld ?_ ?_
 rotate_left
 ·rintro w' ⟨s0,s1⟩
  go_simp
  with_reducible rfl
 rotate_left
 ·simp only [Act.put,List.setIfInBounds_toArray,List.set_cons_zero,List.set_cons_succ,i64_w,i32_w]
  rfl
 refine one_ (i:=1) (N:=some 5) #[tT,tT,tT,tT,fF,tT,tT,fF,fF,fF,fF,fF,fF,fF,fF,fF] rfl rfl (one_of HT_.out au2) au1 (fun K hK=>?_)
 refine goes_ Tryd.func27 au2 rfl #[.agg #[.string a0_0,.string a0_1]] au6 rfl rfl au10 ?_
 with_reducible refine(racewayref29_status.calls a0_0 a0_1 t249 _ A2.out).mono ?_
 rintro e w10 ⟨rfl,hb⟩
 refine ⟨_,rfl,?_⟩
 have n0_:=Aside0.mk (blk_below (g:=gb248) (o:=.cells #[.string a0_0,.string a0_1] 29 (0,0)) (by(with_reducible repeat(first|refine blk_drewN ?_ _|refine blk_drew ?_|refine blk_alloc ?_ _));exact BK248.out) hb)
 have n1_:=Aside0.mk (below_step (by repeat(first|(with_reducible first|exact HB.out|apply below_alloc|apply pw_below_drewN|apply below_drew1|refine below_set ?_ GE248.out)|exact HB.out)) hb)
 clear BK248
 clear HB
 have BK248:=n0_
 have HB:=n1_
 clear n0_ n1_
 (try clear hb)
 (try clear hb2)
 (try clear hk)
 (try clear hi)
 refine hK.out _ _ ⟨(blk_cell BK248.out 0).trans rfl,(blk_cell BK248.out 1).trans rfl⟩ (fun hHeld=>?_)
 clear hK K
 refine norm_ (a':=?_) ?_ ?_
 rotate_left
 ·show Act.put _ (some 5) _=_
  simp only [Act.put,List.setIfInBounds_toArray,List.set_cons_zero,List.set_cons_succ,i64_w,i32_w]
  rfl
 refine one_ (i:=4) (N:=some 8) #[tT,tT,tT,tT,tT,tT,tT,fF,fF,fF,fF,fF,fF,fF,fF,fF] rfl rfl (one_of HT_.out au2) au1 (fun K hK=>?_)
 refine goes_ Tryd.func26 au2 rfl #[.string (⟨#[67,111,100,101]⟩:ByteArray),.string a0_0] au6 rfl rfl au10 ?_
 with_reducible refine(racewayref29_text.calls k (⟨#[67,111,100,101]⟩:ByteArray) a0_0 t250 t251 _ A3.out).mono ?_
 rintro e w11 ⟨v252,rfl,ho0,hb⟩
 refine ⟨_,rfl,?_⟩
 have n0_:=Aside0.mk (Kd.R_lower ho0 (below_size (by repeat(first|(with_reducible first|exact HB.out|apply below_alloc|apply pw_below_drewN|apply below_drew1|refine below_set ?_ GE248.out)|exact HB.out))))
 have n1_:=Aside0.mk (blk_below (g:=gb248) (o:=.cells #[.string a0_0,.string a0_1] 29 (0,0)) (by(with_reducible repeat(first|refine blk_drewN ?_ _|refine blk_drew ?_|refine blk_alloc ?_ _));exact BK248.out) hb)
 have n2_:=Aside0.mk (below_step (by repeat(first|(with_reducible first|exact HB.out|apply below_alloc|apply pw_below_drewN|apply below_drew1|refine below_set ?_ GE248.out)|exact HB.out)) hb)
 clear BK248
 clear HB
 have HO253:=n0_
 have BK248:=n1_
 have HB:=n2_
 clear n0_ n1_ n2_
 (try clear hb)
 (try clear hb2)
 (try clear hk)
 (try clear hi)
 (try clear ho0)
 refine hK.out _ _ ⟨(blk_cell BK248.out 0).trans rfl,(blk_cell BK248.out 1).trans rfl⟩ (fun hHeld=>?_)
 clear hK K
 refine norm_ (a':=?_) ?_ ?_
 rotate_left
 ·show Act.put _ (some 8) _=_
  simp only [Act.put,List.setIfInBounds_toArray,List.set_cons_zero,List.set_cons_succ,i64_w,i32_w]
  rfl
 refine one_ (i:=7) (N:=some 11) #[tT,tT,tT,tT,tT,tT,tT,tT,fF,fF,fF,fF,fF,fF,fF,fF] rfl rfl (one_of HT_.out au2) au1 (fun K hK=>?_)
 refine goes_ Tryd.func26 au2 rfl #[.string (⟨#[77,101,115,115,97,103,101]⟩:ByteArray),.string a0_1] au6 rfl rfl au10 ?_
 with_reducible refine(racewayref29_text.calls k (⟨#[77,101,115,115,97,103,101]⟩:ByteArray) a0_1 t254 t255 _ A4.out).mono ?_
 rintro e w12 ⟨v256,rfl,ho0,hb⟩
 refine ⟨_,rfl,?_⟩
 have n0_:=Aside0.mk (Kd.R_elder' (by(with_reducible repeat(first|apply Kd.R_alloc|apply Kd.R_drewN|apply Kd.R_drew));exact HO253.out) (Kd.R_base ho0) hb)
 have n1_:=Aside0.mk (Kd.R_lower (Kd.R_new' ho0 (Kd.R_lt (by(with_reducible repeat(first|apply Kd.R_alloc|apply Kd.R_drewN|apply Kd.R_drew));exact HO253.out))) (below_size (by repeat(first|(with_reducible first|exact HB.out|apply below_alloc|apply pw_below_drewN|apply below_drew1|refine below_set ?_ GE248.out)|exact HB.out))))
 have n2_:=Aside0.mk (blk_below (g:=gb248) (o:=.cells #[.string a0_0,.string a0_1] 29 (0,0)) (by(with_reducible repeat(first|refine blk_drewN ?_ _|refine blk_drew ?_|refine blk_alloc ?_ _));exact BK248.out) hb)
 have n3_:=Aside0.mk (below_step (by repeat(first|(with_reducible first|exact HB.out|apply below_alloc|apply pw_below_drewN|apply below_drew1|refine below_set ?_ GE248.out)|exact HB.out)) hb)
 clear HO253
 clear BK248
 clear HB
 have HO253:=n0_
 have HO257:=n1_
 have BK248:=n2_
 have HB:=n3_
 clear n0_ n1_ n2_ n3_
 (try clear hb)
 (try clear hb2)
 (try clear hk)
 (try clear hi)
 (try clear ho0)
 obtain ⟨Ao13,co13,eo13⟩:=Kd.R_slice HO253.out
 (first|subst eo13|(injection eo13 with f1_ f2_ f3_;have f4_:=f1_.symm;have f5_:=f3_.symm;clear f1_ f2_ f3_;subst f4_;subst f5_))
 obtain ⟨Ao14,co14,eo14⟩:=Kd.R_slice HO257.out
 (first|subst eo14|(injection eo14 with f1_ f2_ f3_;have f4_:=f1_.symm;have f5_:=f3_.symm;clear f1_ f2_ f3_;subst f4_;subst f5_))
 refine hK.out _ _ ⟨(blk_cell BK248.out 0).trans rfl,(blk_cell BK248.out 1).trans rfl⟩ (fun hHeld=>?_)
 clear hK K
 refine norm_ (a':=?_) ?_ ?_
 rotate_left
 ·show Act.put _ (some 11) _=_
  simp only [Act.put,List.setIfInBounds_toArray,List.set_cons_zero,List.set_cons_succ,i64_w,i32_w]
  rfl
 refine one_ (i:=8) (N:=some 12) #[tT,tT,tT,tT,tT,tT,tT,tT,tT,fF,fF,fF,fF,fF,fF,fF] rfl rfl (one_of HT_.out au2) au1 (fun K hK=>?_)
 refine Kd.N_lit_step k53 _ 53 ?hg (N':=12) ?hd (xs:=([(⟨t250,t251⟩:S53),(⟨t254,t255⟩:S53)]:List (S53))) (inner:=[.string t250,.slice Ao13 t251.length co13,.string t254,.slice Ao14 t255.length co14]) (ok:=(fun k_=>k_≠gb248)) (okp:=(fun k_=>k_≠gb248)) ?hr ?hp (fun _ hk=>hk) ((show ∀ k_,w12.heap.size≤k_→(fun k_=>k_≠gb248) k_ from fun k_ hk=>Kd.freshB (g:=gb248) (o:=.cells #[.string a0_0,.string a0_1] 29 (0,0)) (by(with_reducible repeat(first|refine blk_drewN ?_ _|refine blk_drew ?_|refine blk_alloc ?_ _));exact BK248.out) k_ hk) _ (Nat.le_refl _)) (Below.refl _ _) (Nat.le_refl _) au5 ?_;(case hd=>rfl);(case hg=>rfl);(case hr=>first|(go_simp;done)|(go_simp;rfl));(case hp=>exact(Reps.c2 (show Kd.FK k53 _ _ (⟨t250,t251⟩:S53) [.string t250,.slice Ao13 t251.length co13] from (k53_mkF _ _ (⟨t250,t251⟩:S53) (Kd.R_reads' (Kd.R_mono (ok':=(fun k_=>k_≠gb248)) (Kd.R_types (HO253.out) BK248.out au1) (fun k_ hk=>hk.2))).2.1 (Kd.R_F (Kd.R_mono (ok':=(fun k_=>k_≠gb248)) (Kd.R_types (HO253.out) BK248.out au1) (fun k_ hk=>hk.2))))) (Reps.c2 (show Kd.FK k53 _ _ (⟨t254,t255⟩:S53) [.string t254,.slice Ao14 t255.length co14] from (k53_mkF _ _ (⟨t254,t255⟩:S53) (Kd.R_reads' (Kd.R_mono (ok':=(fun k_=>k_≠gb248)) (Kd.R_types (HO257.out) BK248.out au1) (fun k_ hk=>hk.2))).2.1 (Kd.R_F (Kd.R_mono (ok':=(fun k_=>k_≠gb248)) (Kd.R_types (HO257.out) BK248.out au1) (fun k_ hk=>hk.2))))) (Reps.none _ _))))
 intro v259 w15 ho16 hb hg_ hnew_
 clear hg_ hnew_
 (first|rw [← Ny258.out] at ho16|(simp only [Int.reduceToNat] at ho16;rw [← Ny258.out] at ho16))
 have n0_:=Aside0.mk (Kd.N_lower ho16 (below_size (by repeat(first|(with_reducible first|exact HB.out|apply below_alloc|apply pw_below_drewN|apply below_drew1|refine below_set ?_ GE248.out)|exact HB.out))))
 have n1_:=Aside0.mk (blk_below (g:=gb248) (o:=.cells #[.string a0_0,.string a0_1] 29 (0,0)) (by(with_reducible repeat(first|refine blk_drewN ?_ _|refine blk_drew ?_|refine blk_alloc ?_ _));exact BK248.out) hb)
 have n2_:=Aside0.mk (below_step (by repeat(first|(with_reducible first|exact HB.out|apply below_alloc|apply pw_below_drewN|apply below_drew1|refine below_set ?_ GE248.out)|exact HB.out)) hb)
 clear BK248
 clear HB
 clear HO253
 clear HO257
 have HO260:=n0_
 have BK248:=n1_
 have HB:=n2_
 clear n0_ n1_ n2_
 clear hb ho16
 obtain ⟨Ao17,co17,eo17⟩:=Kd.N_slice HO260.out
 (first|subst eo17|(injection eo17 with f1_ f2_ f3_;have f4_:=f1_.symm;have f5_:=f3_.symm;clear f1_ f2_ f3_;subst f4_;subst f5_))
 refine hK.out _ _ ⟨(blk_cell BK248.out 0).trans rfl,(blk_cell BK248.out 1).trans rfl⟩ (fun hHeld=>?_)
 clear hK K
 refine norm_ (a':=?_) ?_ ?_
 rotate_left
 ·show Act.put _ (some 12) _=_
  simp only [Act.put,List.setIfInBounds_toArray,List.set_cons_zero,List.set_cons_succ,i64_w,i32_w]
  rfl
 refine one_ (i:=9) (N:=some 13) #[tT,tT,tT,tT,tT,tT,tT,tT,tT,tT,fF,fF,fF,fF,fF,fF] rfl rfl (one_of HT_.out au2) au1 (fun K hK=>?_)
 refine goes_ Tryd.func25 au2 rfl #[.slice Ao17 y258.length co17] au6 rfl rfl au10 ?_
 with_reducible refine(racewayref29_object.calls k (fun k_=>k_≠gb248) _ _ y258 t261 _ ?side1 A5.out).mono ?_
 (case side1=>exact Kd.N_V (HO260.out))
 rintro e w18 ⟨v262,rfl,ho0,hb⟩
 refine ⟨_,rfl,?_⟩
 have n0_:=Aside0.mk (Kd.N_elder' au46 (Kd.R_base ho0) hb)
 have n1_:=Aside0.mk (Kd.R_lower (Kd.R_mono (ok':=fun k_=>True) ho0 (fun _ hk_=>trivial)) (below_size (by repeat(first|(with_reducible first|exact HB.out|apply below_alloc|apply pw_below_drewN|apply below_drew1|refine below_set ?_ GE248.out)|exact HB.out))))
 have n2_:=Aside0.mk (blk_below (g:=gb248) (o:=.cells #[.string a0_0,.string a0_1] 29 (0,0)) (by(with_reducible repeat(first|refine blk_drewN ?_ _|refine blk_drew ?_|refine blk_alloc ?_ _));exact BK248.out) hb)
 have n3_:=Aside0.mk (below_step (by repeat(first|(with_reducible first|exact HB.out|apply below_alloc|apply pw_below_drewN|apply below_drew1|refine below_set ?_ GE248.out)|exact HB.out)) hb)
 clear HO260
 clear BK248
 clear HB
 have HO260:=n0_
 have HO263:=n1_
 have BK248:=n2_
 have HB:=n3_
 clear n0_ n1_ n2_ n3_
 (try clear hb)
 (try clear hb2)
 (try clear hk)
 (try clear hi)
 (try clear ho0)
 obtain ⟨Ao19,co19,eo19⟩:=Kd.R_slice HO263.out
 (first|subst eo19|(injection eo19 with f1_ f2_ f3_;have f4_:=f1_.symm;have f5_:=f3_.symm;clear f1_ f2_ f3_;subst f4_;subst f5_))
 refine hK.out _ _ ⟨(blk_cell BK248.out 0).trans rfl,(blk_cell BK248.out 1).trans rfl⟩ (fun hHeld=>?_)
 clear hK K
 refine norm_ (a':=?_) ?_ ?_
 rotate_left
 ·show Act.put _ (some 13) _=_
  simp only [Act.put,List.setIfInBounds_toArray,List.set_cons_zero,List.set_cons_succ,i64_w,i32_w]
  rfl
 refine pure_ (i:=10) (N:=some 14) (v:=?_) (a':=?_) #[tT,tT,tT,tT,tT,tT,tT,tT,tT,tT,tT,fF,fF,fF,fF,fF] rfl rfl (any_of HT_.out au2) (fun _ _ _ h=>h) (Or.inl ⟨au6,?_⟩) ?_ ?_
 rotate_left
 ·intro w'
  go_simp
  with_reducible rfl
 rotate_left
 ·simp only [Act.put,List.setIfInBounds_toArray,List.set_cons_zero,List.set_cons_succ,i64_w,i32_w]
  rfl
 refine one_ (i:=11) (N:=some 15) #[tT,tT,tT,tT,tT,tT,tT,tT,tT,tT,tT,tT,fF,fF,fF,fF] rfl rfl (one_of HT_.out au2) au1 (fun K hK=>?_)
 refine Kd.N_lit_step k53 _ 53 ?hg (N':=15) ?hd (xs:=([(⟨(⟨#[69,114,114,111,114]⟩:ByteArray),t261⟩:S53)]:List (S53))) (inner:=[.string (⟨#[69,114,114,111,114]⟩:ByteArray),.slice Ao19 t261.length co19]) (ok:=(fun k_=>some k_≠(.slice Ao17 y258.length co17:Value).ownBlock∧k_≠gb248)) (okp:=(fun k_=>some k_≠(.slice Ao17 y258.length co17:Value).ownBlock∧k_≠gb248)) ?hr ?hp (fun _ hk=>hk) ((show ∀ k_,w18.heap.size≤k_→(fun k_=>some k_≠(.slice Ao17 y258.length co17:Value).ownBlock∧k_≠gb248) k_ from fun k_ hk=>⟨Kd.fresh' (Kd.N_lt au46) k_ hk,Kd.freshB (g:=gb248) (o:=.cells #[.string a0_0,.string a0_1] 29 (0,0)) (by(with_reducible repeat(first|refine blk_drewN ?_ _|refine blk_drew ?_|refine blk_alloc ?_ _));exact BK248.out) k_ hk⟩) _ (Nat.le_refl _)) (Below.refl _ _) (Nat.le_refl _) au5 ?_;(case hd=>rfl);(case hg=>rfl);(case hr=>first|(go_simp;done)|(go_simp;rfl));(case hp=>exact(Reps.c2 (show Kd.FK k53 _ _ (⟨(⟨#[69,114,114,111,114]⟩:ByteArray),t261⟩:S53) [.string (⟨#[69,114,114,111,114]⟩:ByteArray),.slice Ao19 t261.length co19] from (k53_mkF _ _ (⟨(⟨#[69,114,114,111,114]⟩:ByteArray),t261⟩:S53) (Kd.R_reads' (Kd.R_mono (ok':=(fun k_=>some k_≠(.slice Ao17 y258.length co17:Value).ownBlock∧k_≠gb248)) (Kd.R_types (Kd.R_apart' (HO263.out) (Kd.N_typed HO260.out) au1) BK248.out au1) (fun k_ hk=>⟨hk.1.2,hk.2⟩))).2.1 (Kd.R_F (Kd.R_mono (ok':=(fun k_=>some k_≠(.slice Ao17 y258.length co17:Value).ownBlock∧k_≠gb248)) (Kd.R_types (Kd.R_apart' (HO263.out) (Kd.N_typed HO260.out) au1) BK248.out au1) (fun k_ hk=>⟨hk.1.2,hk.2⟩))))) (Reps.none _ _)))
 intro v265 w20 ho21 hb hg_ hnew_
 clear hg_ hnew_
 (first|rw [← Ny264.out] at ho21|(simp only [Int.reduceToNat] at ho21;rw [← Ny264.out] at ho21))
 have n0_:=Aside0.mk (Kd.N_elder' au46 (Kd.N_base ho21) hb)
 have n1_:=Aside0.mk (Kd.N_lower ho21 (below_size (by repeat(first|(with_reducible first|exact HB.out|apply below_alloc|apply pw_below_drewN|apply below_drew1|refine below_set ?_ GE248.out)|exact HB.out))))
 have n2_:=Aside0.mk (blk_below (g:=gb248) (o:=.cells #[.string a0_0,.string a0_1] 29 (0,0)) (by(with_reducible repeat(first|refine blk_drewN ?_ _|refine blk_drew ?_|refine blk_alloc ?_ _));exact BK248.out) hb)
 have n3_:=Aside0.mk (below_step (by repeat(first|(with_reducible first|exact HB.out|apply below_alloc|apply pw_below_drewN|apply below_drew1|refine below_set ?_ GE248.out)|exact HB.out)) hb)
 clear HO260
 clear BK248
 clear HB
 clear HO263
 have HO260:=n0_
 have HO266:=n1_
 have BK248:=n2_
 have HB:=n3_
 clear n0_ n1_ n2_ n3_
 clear hb ho21
 obtain ⟨Ao22,co22,eo22⟩:=Kd.N_slice HO266.out
 (first|subst eo22|(injection eo22 with f1_ f2_ f3_;have f4_:=f1_.symm;have f5_:=f3_.symm;clear f1_ f2_ f3_;subst f4_;subst f5_))
 refine hK.out _ _ ⟨(blk_cell BK248.out 0).trans rfl,(blk_cell BK248.out 1).trans rfl⟩ (fun hHeld=>?_)
 clear hK K
 refine norm_ (a':=?_) ?_ ?_
 rotate_left
 ·show Act.put _ (some 15) _=_
  simp only [Act.put,List.setIfInBounds_toArray,List.set_cons_zero,List.set_cons_succ,i64_w,i32_w]
  rfl
 refine one_ (i:=12) (N:=some 16) #[tT,tT,tT,tT,tT,tT,tT,tT,tT,tT,tT,tT,tT,fF,fF,fF] rfl rfl (one_of HT_.out au2) au1 (fun K hK=>?_)
 refine goes_ Tryd.func25 au2 rfl #[.slice Ao22 y264.length co22] au6 rfl rfl au10 ?_
 with_reducible refine(racewayref29_object.calls k (fun k_=>(some k_≠(.slice Ao17 y258.length co17:Value).ownBlock∧k_≠gb248)) _ _ y264 t267 _ ?side1 A6.out).mono ?_
 (case side1=>exact Kd.N_V (HO266.out))
 rintro e w23 ⟨v268,rfl,ho0,hb⟩
 refine ⟨_,rfl,?_⟩
 have n0_:=Aside0.mk (Kd.N_elder' au46 (Kd.R_base ho0) hb)
 have n1_:=Aside0.mk (Kd.N_elder' (by(with_reducible repeat(first|apply Kd.N_alloc|apply Kd.N_drewN|apply Kd.N_drew));exact HO266.out) (Kd.R_base ho0) hb)
 have n2_:=Aside0.mk (Kd.R_lower (Kd.R_mono (ok':=fun k_=>True) ho0 (fun _ hk_=>trivial)) (below_size (by repeat(first|(with_reducible first|exact HB.out|apply below_alloc|apply pw_below_drewN|apply below_drew1|refine below_set ?_ GE248.out)|exact HB.out))))
 have n3_:=Aside0.mk (blk_below (g:=gb248) (o:=.cells #[.string a0_0,.string a0_1] 29 (0,0)) (by(with_reducible repeat(first|refine blk_drewN ?_ _|refine blk_drew ?_|refine blk_alloc ?_ _));exact BK248.out) hb)
 have n4_:=Aside0.mk (below_step (by repeat(first|(with_reducible first|exact HB.out|apply below_alloc|apply pw_below_drewN|apply below_drew1|refine below_set ?_ GE248.out)|exact HB.out)) hb)
 clear HO260
 clear HO266
 clear BK248
 clear HB
 have HO260:=n0_
 have HO266:=n1_
 have HO269:=n2_
 have BK248:=n3_
 have HB:=n4_
 clear n0_ n1_ n2_ n3_ n4_
 (try clear hb)
 (try clear hb2)
 (try clear hk)
 (try clear hi)
 (try clear ho0)
 obtain ⟨Ao24,co24,eo24⟩:=Kd.R_slice HO269.out
 (first|subst eo24|(injection eo24 with f1_ f2_ f3_;have f4_:=f1_.symm;have f5_:=f3_.symm;clear f1_ f2_ f3_;subst f4_;subst f5_))
 refine hK.out _ _ ⟨(blk_cell BK248.out 0).trans rfl,(blk_cell BK248.out 1).trans rfl⟩ (fun hHeld=>?_)
 clear hK K
 refine norm_ (a':=?_) ?_ ?_
 rotate_left
 ·show Act.put _ (some 16) _=_
  simp only [Act.put,List.setIfInBounds_toArray,List.set_cons_zero,List.set_cons_succ,i64_w,i32_w]
  rfl
 refine one_ (i:=13) (N:=some 17) #[tT,tT,tT,tT,tT,tT,tT,tT,tT,tT,tT,tT,tT,tT,fF,fF] rfl rfl (one_of HT_.out au2) au1 (fun K hK=>?_)
 refine goes_ Tryd.func6 au2 rfl #[.string (⟨#[69,114,114,111,114,82,101,115,112,111,110,115,101]⟩:ByteArray),.slice Ao24 t267.length co24] au6 rfl rfl au10 ?_
 with_reducible refine(racewayref29_Markup.calls k (⟨#[69,114,114,111,114,82,101,115,112,111,110,115,101]⟩:ByteArray) _ _ t267 t270 _ ?side1 ?side2 A7.out).mono ?_
 (case side1=>repeat(first|exact(Kd.R_reads' HO269.out).2.2|(with_reducible refine Kd.C_alloc ?_ _)|(with_reducible refine Kd.C_drewN ?_ _)|(with_reducible refine Kd.C_drew ?_)))
 (case side2=>exact(Kd.R_reads' HO269.out).2.1)
 rintro e w25 ⟨rfl,hb⟩
 refine ⟨_,rfl,?_⟩
 have n0_:=Aside0.mk (Kd.N_below au46 hb)
 have n1_:=Aside0.mk (Kd.N_below (by(with_reducible repeat(first|apply Kd.N_alloc|apply Kd.N_drewN|apply Kd.N_drew));exact HO266.out) hb)
 have n2_:=Aside0.mk (Kd.R_below (by(with_reducible repeat(first|apply Kd.R_alloc|apply Kd.R_drewN|apply Kd.R_drew));exact HO269.out) hb)
 have n3_:=Aside0.mk (blk_below (g:=gb248) (o:=.cells #[.string a0_0,.string a0_1] 29 (0,0)) (by(with_reducible repeat(first|refine blk_drewN ?_ _|refine blk_drew ?_|refine blk_alloc ?_ _));exact BK248.out) hb)
 have n4_:=Aside0.mk (below_step (by repeat(first|(with_reducible first|exact HB.out|apply below_alloc|apply pw_below_drewN|apply below_drew1|refine below_set ?_ GE248.out)|exact HB.out)) hb)
 clear HO260
 clear HO266
 clear HO269
 clear BK248
 clear HB
 have HO260:=n0_
 have HO266:=n1_
 have HO269:=n2_
 have BK248:=n3_
 have HB:=n4_
 clear n0_ n1_ n2_ n3_ n4_
 (try clear hb)
 (try clear hb2)
 (try clear hk)
 (try clear hi)
 refine hK.out _ _ ⟨(blk_cell BK248.out 0).trans rfl,(blk_cell BK248.out 1).trans rfl⟩ (fun hHeld=>?_)
 clear hK K
 refine norm_ (a':=?_) ?_ ?_
 rotate_left
 ·show Act.put _ (some 17) _=_
  simp only [Act.put,List.setIfInBounds_toArray,List.set_cons_zero,List.set_cons_succ,i64_w,i32_w]
  rfl
 refine pure_ (i:=14) (N:=some 2) (v:=?_) (a':=?_) #[tT,tT,tT,tT,tT,tT,tT,tT,tT,tT,tT,tT,tT,tT,tT,fF] rfl rfl (any_of HT_.out au2) (fun _ _ _ h=>h) (Or.inl ⟨au6,?_⟩) ?_ ?_
 rotate_left
 ·intro w'
  go_simp
  with_reducible rfl
 rotate_left
 ·simp only [Act.put,List.setIfInBounds_toArray,List.set_cons_zero,List.set_cons_succ,i64_w,i32_w]
  rfl
 refine pure_ (i:=15) (N:=some 3) (v:=?_) (a':=?_) #[tT,tT,tT,tT,tT,tT,tT,tT,tT,tT,tT,tT,tT,tT,tT,tT] rfl rfl (any_of HT_.out au2) (fun _ _ _ h=>h) (Or.inl ⟨au6,?_⟩) ?_ ?_
 rotate_left
 ·intro w'
  go_simp
  with_reducible rfl
 rotate_left
 ·simp only [Act.put,List.setIfInBounds_toArray,List.set_cons_zero,List.set_cons_succ,i64_w,i32_w]
  rfl
 refine done_ (done_of HT_.out au2) ?_
 try go_wp2
 go_ret2
 exact ⟨au12,by repeat(first|(with_reducible first|exact HB.out|apply below_alloc|apply pw_below_drewN|apply below_drew1|refine below_set ?_ GE248.out)|exact HB.out)⟩
mutual
def racewayref29_Code.j0:Nat→Int→Bool→Option (ByteArray)
 | 0,_,_=>none
 | k+1,x0,x12=>if x12=true then(some (⟨#[82,101,99,101,105,112,116,72,97,110,100,108,101,73,115,73,110,118,97,108,105,100]⟩:ByteArray)) else(if x0=8 then(some (⟨#[77,101,115,115,97,103,101,78,111,116,73,110,102,108,105,103,104,116]⟩:ByteArray)) else(if x0=11 then(some (⟨#[81,117,101,117,101,68,111,101,115,78,111,116,69,120,105,115,116]⟩:ByteArray)) else(if x0=17 then(racewayref29_Code.j1 k x0 true) else(racewayref29_Code.j1 k x0 (x0==14)))))
def racewayref29_Code.j1:Nat→Int→Bool→Option (ByteArray)
 | 0,_,_=>none
 | k+1,x0,x22=>if x22=true then(some (⟨#[82,101,113,117,101,115,116,84,104,114,111,116,116,108,101,100]⟩:ByteArray)) else(if x0=15 then(racewayref29_Code.j2 k x0 true) else(racewayref29_Code.j2 k x0 (x0==10)))
def racewayref29_Code.j2:Nat→Int→Bool→Option (ByteArray)
 | 0,_,_=>none
 | k+1,x0,x28=>if x28=true then(some (⟨#[83,101,114,118,105,99,101,85,110,97,118,97,105,108,97,98,108,101]⟩:ByteArray)) else(if x0=2 then(some (⟨#[73,110,118,97,108,105,100,80,97,114,97,109,101,116,101,114,86,97,108,117,101]⟩:ByteArray)) else(if x0=3 then(some (⟨#[73,110,118,97,108,105,100,80,97,114,97,109,101,116,101,114,86,97,108,117,101]⟩:ByteArray)) else(if x0=18 then(some (⟨#[73,110,118,97,108,105,100,80,97,114,97,109,101,116,101,114,86,97,108,117,101]⟩:ByteArray)) else(some (⟨#[73,110,116,101,114,110,97,108,70,97,105,108,117,114,101]⟩:ByteArray)))))
end
def racewayref29_Code.f (k:Nat) (a0:Int):Option (ByteArray):=if a0=0 then(some (⟨#[]⟩:ByteArray)) else(if a0=7 then(some (⟨#[79,118,101,114,76,105,109,105,116]⟩:ByteArray)) else(if a0=12 then(racewayref29_Code.j0 k a0 true) else(racewayref29_Code.j0 k a0 (a0==13))))
set_option maxHeartbeats 8000000 in
set_option maxRecDepth 100000 in
theorem racewayref29_Code.calls (k:Nat) (a0:Int) (r:ByteArray) (w:World) (h:racewayref29_Code.f k a0=some r) :
  Calls Tryd.prog 13 #[.int .i64 a0] w fun e w'=>e=.returned (.string r)∧Drawn0 w w':=by
 have H:(if a0=0 then(some (⟨#[]⟩:ByteArray)) else(if a0=7 then(some (⟨#[79,118,101,114,76,105,109,105,116]⟩:ByteArray)) else(if a0=12 then(racewayref29_Code.j0 k a0 true) else(racewayref29_Code.j0 k a0 (a0==13)))))=some r:=h
 clear h
 by_cases c2:a0=0
 ·rw [if_pos c2] at H
  have c2b0:(a0==0)=true:=beq_iff_eq.mpr c2
  have c2b1:(a0 != 0)=false:=bne_eq_false_iff_eq.mpr c2
  clear c2
  obtain rfl:=Option.some.inj H
  go_enter Tryd.func13,Tryd.ntmps13
  go_wp2
  go_ret
  exact ⟨au4,au8⟩
 ·rw [if_neg c2] at H
  have c2b0:(a0==0)=false:=beq_eq_false_iff_ne.mpr c2
  have c2b1:(a0 != 0)=true:=bne_iff_ne.mpr c2
  by_cases c3:a0=7
  ·rw [if_pos c3] at H
   have c3b0:(a0==7)=true:=beq_iff_eq.mpr c3
   have c3b1:(a0 != 7)=false:=bne_eq_false_iff_eq.mpr c3
   clear c3
   obtain rfl:=Option.some.inj H
   go_enter Tryd.func13,Tryd.ntmps13
   go_wp2
   go_ret
   exact ⟨au4,au8⟩
  ·rw [if_neg c3] at H
   have c3b0:(a0==7)=false:=beq_eq_false_iff_ne.mpr c3
   have c3b1:(a0 != 7)=true:=bne_iff_ne.mpr c3
   have HC4:=Aside0.mk H
   clear H
   go_enter Tryd.func13,Tryd.ntmps13
   go_upto_region 5 with(fail)
   go_cut [12] (fun v12 wc=>∃(kq:Nat) (x12_3:Bool),v12=.bool x12_3∧Aside0 (racewayref29_Code.j0 kq a0 x12_3=some r)∧Aside0 (kq≤k)∧Drawn0 w wc)
   case first =>
    have H:=HC4.out
    clear HC4
    by_cases c5:a0=12
    ·rw [if_pos c5] at H
     have c5b0:(a0==12)=true:=beq_iff_eq.mpr c5
     have c5b1:(a0 != 12)=false:=bne_eq_false_iff_eq.mpr c5
     clear c5
     (first|rw [c5b0]|(simp only [i64_w,i32_w];rw [c5b0])|skip)
     have H':=Aside0.mk H
     clear H
     go_wp2
     go_meet
     case rel=>exact ⟨_,(true),au4,au9,⟨au14⟩,au8⟩
    ·rw [if_neg c5] at H
     have c5b0:(a0==12)=false:=beq_eq_false_iff_ne.mpr c5
     have c5b1:(a0 != 12)=true:=bne_iff_ne.mpr c5
     (first|rw [c5b0]|(simp only [i64_w,i32_w];rw [c5b0])|skip)
     have H':=Aside0.mk H
     clear H
     go_wp2
     go_meet
     case rel=>exact ⟨_,((a0==13)),au4,au9,⟨au14⟩,au8⟩
   case rest =>
    clear HC4
    obtain ⟨kq,x12_3,rfl,HA,HJ3,⟨mc3,rfl⟩⟩:=hcut
    cases kq with
    | zero=>exact absurd HA.out (by simp [racewayref29_Code.j0])
    | succ kj3 =>
     have H:=HA.out
     clear HA
     simp only [racewayref29_Code.j0] at H
     by_cases c6:x12_3=true
     ·subst c6
      replace H:(some (⟨#[82,101,99,101,105,112,116,72,97,110,100,108,101,73,115,73,110,118,97,108,105,100]⟩:ByteArray))=some r:=by rw [if_pos rfl] at H;exact H
      obtain rfl:=Option.some.inj H
      go_wp2
      go_ret
      exact ⟨au4,au8⟩
     ·replace c6:=Bool.eq_false_iff.mpr c6
      subst c6
      replace H:(if a0=8 then(some (⟨#[77,101,115,115,97,103,101,78,111,116,73,110,102,108,105,103,104,116]⟩:ByteArray)) else(if a0=11 then(some (⟨#[81,117,101,117,101,68,111,101,115,78,111,116,69,120,105,115,116]⟩:ByteArray)) else(if a0=17 then(racewayref29_Code.j1 kj3 a0 true) else(racewayref29_Code.j1 kj3 a0 (a0==14)))))=some r:=by rw [if_neg (show ¬ (false=true) by decide)] at H;exact H
      by_cases c7:a0=8
      ·rw [if_pos c7] at H
       have c7b0:(a0==8)=true:=beq_iff_eq.mpr c7
       have c7b1:(a0 != 8)=false:=bne_eq_false_iff_eq.mpr c7
       clear c7
       obtain rfl:=Option.some.inj H
       go_wp2
       go_ret
       exact ⟨au4,au8⟩
      ·rw [if_neg c7] at H
       have c7b0:(a0==8)=false:=beq_eq_false_iff_ne.mpr c7
       have c7b1:(a0 != 8)=true:=bne_iff_ne.mpr c7
       by_cases c8:a0=11
       ·rw [if_pos c8] at H
        have c8b0:(a0==11)=true:=beq_iff_eq.mpr c8
        have c8b1:(a0 != 11)=false:=bne_eq_false_iff_eq.mpr c8
        clear c8
        obtain rfl:=Option.some.inj H
        go_wp2
        go_ret
        exact ⟨au4,au8⟩
       ·rw [if_neg c8] at H
        have c8b0:(a0==11)=false:=beq_eq_false_iff_ne.mpr c8
        have c8b1:(a0 != 11)=true:=bne_iff_ne.mpr c8
        have HC9:=Aside0.mk H
        clear H
        go_upto_region 11 with(fail)
        go_cut [22] (fun v22 wc=>∃(kq:Nat) (x22_8:Bool),v22=.bool x22_8∧Aside0 (racewayref29_Code.j1 kq a0 x22_8=some r)∧Aside0 (kq≤kj3)∧Drawn0 w wc)
        case first =>
         have H:=HC9.out
         clear HC9
         by_cases c10:a0=17
         ·rw [if_pos c10] at H
          have c10b0:(a0==17)=true:=beq_iff_eq.mpr c10
          have c10b1:(a0 != 17)=false:=bne_eq_false_iff_eq.mpr c10
          clear c10
          (first|rw [c10b0]|(simp only [i64_w,i32_w];rw [c10b0])|skip)
          have H':=Aside0.mk H
          clear H
          go_wp2
          go_meet
          case rel=>exact ⟨_,(true),au4,au9,⟨au40⟩,au8⟩
         ·rw [if_neg c10] at H
          have c10b0:(a0==17)=false:=beq_eq_false_iff_ne.mpr c10
          have c10b1:(a0 != 17)=true:=bne_iff_ne.mpr c10
          (first|rw [c10b0]|(simp only [i64_w,i32_w];rw [c10b0])|skip)
          have H':=Aside0.mk H
          clear H
          go_wp2
          go_meet
          case rel=>exact ⟨_,((a0==14)),au4,au9,⟨au40⟩,au8⟩
        case rest =>
         clear HC9
         obtain ⟨kq,x22_8,rfl,HA,HJ8,⟨mc8,rfl⟩⟩:=hcut
         cases kq with
         | zero=>exact absurd HA.out (by simp [racewayref29_Code.j1])
         | succ kj8 =>
          have H:=HA.out
          clear HA
          simp only [racewayref29_Code.j1] at H
          by_cases c11:x22_8=true
          ·subst c11
           replace H:(some (⟨#[82,101,113,117,101,115,116,84,104,114,111,116,116,108,101,100]⟩:ByteArray))=some r:=by rw [if_pos rfl] at H;exact H
           obtain rfl:=Option.some.inj H
           go_wp2
           go_ret
           exact ⟨au4,au8⟩
          ·replace c11:=Bool.eq_false_iff.mpr c11
           subst c11
           replace H:(if a0=15 then(racewayref29_Code.j2 kj8 a0 true) else(racewayref29_Code.j2 kj8 a0 (a0==10)))=some r:=by rw [if_neg (show ¬ (false=true) by decide)] at H;exact H
           have HC12:=Aside0.mk H
           clear H
           go_upto_region 13 with(fail)
           go_cut [28] (fun v28 wc=>∃(kq:Nat) (x28_11:Bool),v28=.bool x28_11∧Aside0 (racewayref29_Code.j2 kq a0 x28_11=some r)∧Aside0 (kq≤kj8)∧Drawn0 w wc)
           case first =>
            have H:=HC12.out
            clear HC12
            by_cases c13:a0=15
            ·rw [if_pos c13] at H
             have c13b0:(a0==15)=true:=beq_iff_eq.mpr c13
             have c13b1:(a0 != 15)=false:=bne_eq_false_iff_eq.mpr c13
             clear c13
             (first|rw [c13b0]|(simp only [i64_w,i32_w];rw [c13b0])|skip)
             have H':=Aside0.mk H
             clear H
             go_wp2
             go_meet
             case rel=>exact ⟨_,(true),au4,au9,⟨by have:=HJ3.out;have:=HJ8.out;first|omega|exact Nat.le_refl _⟩,au8⟩
            ·rw [if_neg c13] at H
             have c13b0:(a0==15)=false:=beq_eq_false_iff_ne.mpr c13
             have c13b1:(a0 != 15)=true:=bne_iff_ne.mpr c13
             (first|rw [c13b0]|(simp only [i64_w,i32_w];rw [c13b0])|skip)
             have H':=Aside0.mk H
             clear H
             go_wp2
             go_meet
             case rel=>exact ⟨_,((a0==10)),au4,au9,⟨by have:=HJ3.out;have:=HJ8.out;first|omega|exact Nat.le_refl _⟩,au8⟩
           case rest =>
            clear HC12
            obtain ⟨kq,x28_11,rfl,HA,HJ11,⟨mc11,rfl⟩⟩:=hcut
            cases kq with
            | zero=>exact absurd HA.out (by simp [racewayref29_Code.j2])
            | succ kj11 =>
             have H:=HA.out
             clear HA
             simp only [racewayref29_Code.j2] at H
             by_cases c14:x28_11=true
             ·subst c14
              replace H:(some (⟨#[83,101,114,118,105,99,101,85,110,97,118,97,105,108,97,98,108,101]⟩:ByteArray))=some r:=by rw [if_pos rfl] at H;exact H
              obtain rfl:=Option.some.inj H
              go_wp2
              go_ret
              exact ⟨au4,au8⟩
             ·replace c14:=Bool.eq_false_iff.mpr c14
              subst c14
              replace H:(if a0=2 then(some (⟨#[73,110,118,97,108,105,100,80,97,114,97,109,101,116,101,114,86,97,108,117,101]⟩:ByteArray)) else(if a0=3 then(some (⟨#[73,110,118,97,108,105,100,80,97,114,97,109,101,116,101,114,86,97,108,117,101]⟩:ByteArray)) else(if a0=18 then(some (⟨#[73,110,118,97,108,105,100,80,97,114,97,109,101,116,101,114,86,97,108,117,101]⟩:ByteArray)) else(some (⟨#[73,110,116,101,114,110,97,108,70,97,105,108,117,114,101]⟩:ByteArray)))))=some r:=by rw [if_neg (show ¬ (false=true) by decide)] at H;exact H
              by_cases c15:a0=2
              ·rw [if_pos c15] at H
               have c15b0:(a0==2)=true:=beq_iff_eq.mpr c15
               have c15b1:(a0 != 2)=false:=bne_eq_false_iff_eq.mpr c15
               clear c15
               obtain rfl:=Option.some.inj H
               go_wp2
               go_ret
               exact ⟨au4,au8⟩
              ·rw [if_neg c15] at H
               have c15b0:(a0==2)=false:=beq_eq_false_iff_ne.mpr c15
               have c15b1:(a0 != 2)=true:=bne_iff_ne.mpr c15
               by_cases c16:a0=3
               ·rw [if_pos c16] at H
                have c16b0:(a0==3)=true:=beq_iff_eq.mpr c16
                have c16b1:(a0 != 3)=false:=bne_eq_false_iff_eq.mpr c16
                clear c16
                obtain rfl:=Option.some.inj H
                go_wp2
                go_ret
                exact ⟨au4,au8⟩
               ·rw [if_neg c16] at H
                have c16b0:(a0==3)=false:=beq_eq_false_iff_ne.mpr c16
                have c16b1:(a0 != 3)=true:=bne_iff_ne.mpr c16
                by_cases c17:a0=18
                ·rw [if_pos c17] at H
                 have c17b0:(a0==18)=true:=beq_iff_eq.mpr c17
                 have c17b1:(a0 != 18)=false:=bne_eq_false_iff_eq.mpr c17
                 clear c17
                 obtain rfl:=Option.some.inj H
                 go_wp2
                 go_ret
                 exact ⟨au4,au8⟩
                ·rw [if_neg c17] at H
                 have c17b0:(a0==18)=false:=beq_eq_false_iff_ne.mpr c17
                 have c17b1:(a0 != 18)=true:=bne_iff_ne.mpr c17
                 obtain rfl:=Option.some.inj H
                 go_wp2
                 go_ret
                 exact ⟨au4,au8⟩
mutual
def response_Code.j0:Nat→Int→Bool→Option (ByteArray)
 | 0,_,_=>none
 | k+1,x3,x16=>if x16=true then(some (⟨#[82,101,113,117,101,115,116,84,104,114,111,116,116,108,101,100]⟩:ByteArray)) else(if x3=15 then(response_Code.j1 k x3 (x3==15)) else(response_Code.j1 k x3 (x3==10)))
def response_Code.j1:Nat→Int→Bool→Option (ByteArray)
 | 0,_,_=>none
 | k+1,x3,x19=>if x19=true then(some (⟨#[83,101,114,118,105,99,101,85,110,97,118,97,105,108,97,98,108,101]⟩:ByteArray)) else(if x3=2 then(some (⟨#[73,110,118,97,108,105,100,80,97,114,97,109,101,116,101,114,86,97,108,117,101]⟩:ByteArray)) else(if x3=3 then(some (⟨#[73,110,118,97,108,105,100,80,97,114,97,109,101,116,101,114,86,97,108,117,101]⟩:ByteArray)) else(if x3=18 then(some (⟨#[73,110,118,97,108,105,100,80,97,114,97,109,101,116,101,114,86,97,108,117,101]⟩:ByteArray)) else(some (⟨#[73,110,116,101,114,110,97,108,70,97,105,108,117,114,101]⟩:ByteArray)))))
end
def response_Code.f (k:Nat) (a0:Int):Option (ByteArray):=if a0=0 then(some (⟨#[]⟩:ByteArray)) else(if a0=7 then(some (⟨#[79,118,101,114,76,105,109,105,116]⟩:ByteArray)) else(if a0=12 then(some (⟨#[82,101,99,101,105,112,116,72,97,110,100,108,101,73,115,73,110,118,97,108,105,100]⟩:ByteArray)) else(if a0=13 then(some (⟨#[82,101,99,101,105,112,116,72,97,110,100,108,101,73,115,73,110,118,97,108,105,100]⟩:ByteArray)) else(if a0=8 then(some (⟨#[77,101,115,115,97,103,101,78,111,116,73,110,102,108,105,103,104,116]⟩:ByteArray)) else(if a0=11 then(some (⟨#[81,117,101,117,101,68,111,101,115,78,111,116,69,120,105,115,116]⟩:ByteArray)) else(if a0=17 then(response_Code.j0 k a0 (a0==17)) else(response_Code.j0 k a0 (a0==14))))))))
set_option maxHeartbeats 8000000 in
set_option maxRecDepth 100000 in
theorem response_Code.calls (k:Nat) (a0:Int) (r:ByteArray) (w:World) (h:response_Code.f k a0=some r) :
  Calls Tryd.prog 12 #[.int .i64 a0] w fun e w'=>e=.returned (.string r)∧Drawn0 w w':=by
 have H:(if a0=0 then(some (⟨#[]⟩:ByteArray)) else(if a0=7 then(some (⟨#[79,118,101,114,76,105,109,105,116]⟩:ByteArray)) else(if a0=12 then(some (⟨#[82,101,99,101,105,112,116,72,97,110,100,108,101,73,115,73,110,118,97,108,105,100]⟩:ByteArray)) else(if a0=13 then(some (⟨#[82,101,99,101,105,112,116,72,97,110,100,108,101,73,115,73,110,118,97,108,105,100]⟩:ByteArray)) else(if a0=8 then(some (⟨#[77,101,115,115,97,103,101,78,111,116,73,110,102,108,105,103,104,116]⟩:ByteArray)) else(if a0=11 then(some (⟨#[81,117,101,117,101,68,111,101,115,78,111,116,69,120,105,115,116]⟩:ByteArray)) else(if a0=17 then(response_Code.j0 k a0 (a0==17)) else(response_Code.j0 k a0 (a0==14)))))))))=some r:=h
 clear h
 by_cases c2:a0=0
 ·rw [if_pos c2] at H
  have c2b0:(a0==0)=true:=beq_iff_eq.mpr c2
  have c2b1:(a0 != 0)=false:=bne_eq_false_iff_eq.mpr c2
  clear c2
  obtain rfl:=Option.some.inj H
  go_enter Tryd.func12,Tryd.ntmps12
  go_wp2
  go_ret
  exact ⟨au4,au8⟩
 ·rw [if_neg c2] at H
  have c2b0:(a0==0)=false:=beq_eq_false_iff_ne.mpr c2
  have c2b1:(a0 != 0)=true:=bne_iff_ne.mpr c2
  by_cases c3:a0=7
  ·rw [if_pos c3] at H
   have c3b0:(a0==7)=true:=beq_iff_eq.mpr c3
   have c3b1:(a0 != 7)=false:=bne_eq_false_iff_eq.mpr c3
   clear c3
   obtain rfl:=Option.some.inj H
   go_enter Tryd.func12,Tryd.ntmps12
   go_wp2
   go_ret
   exact ⟨au4,au8⟩
  ·rw [if_neg c3] at H
   have c3b0:(a0==7)=false:=beq_eq_false_iff_ne.mpr c3
   have c3b1:(a0 != 7)=true:=bne_iff_ne.mpr c3
   by_cases c4:a0=12
   ·rw [if_pos c4] at H
    have c4b0:(a0==12)=true:=beq_iff_eq.mpr c4
    have c4b1:(a0 != 12)=false:=bne_eq_false_iff_eq.mpr c4
    clear c4
    obtain rfl:=Option.some.inj H
    go_enter Tryd.func12,Tryd.ntmps12
    go_wp2
    go_ret
    exact ⟨au4,au8⟩
   ·rw [if_neg c4] at H
    have c4b0:(a0==12)=false:=beq_eq_false_iff_ne.mpr c4
    have c4b1:(a0 != 12)=true:=bne_iff_ne.mpr c4
    by_cases c5:a0=13
    ·rw [if_pos c5] at H
     have c5b0:(a0==13)=true:=beq_iff_eq.mpr c5
     have c5b1:(a0 != 13)=false:=bne_eq_false_iff_eq.mpr c5
     clear c5
     obtain rfl:=Option.some.inj H
     go_enter Tryd.func12,Tryd.ntmps12
     go_wp2
     go_ret
     exact ⟨au4,au8⟩
    ·rw [if_neg c5] at H
     have c5b0:(a0==13)=false:=beq_eq_false_iff_ne.mpr c5
     have c5b1:(a0 != 13)=true:=bne_iff_ne.mpr c5
     by_cases c6:a0=8
     ·rw [if_pos c6] at H
      have c6b0:(a0==8)=true:=beq_iff_eq.mpr c6
      have c6b1:(a0 != 8)=false:=bne_eq_false_iff_eq.mpr c6
      clear c6
      obtain rfl:=Option.some.inj H
      go_enter Tryd.func12,Tryd.ntmps12
      go_wp2
      go_ret
      exact ⟨au4,au8⟩
     ·rw [if_neg c6] at H
      have c6b0:(a0==8)=false:=beq_eq_false_iff_ne.mpr c6
      have c6b1:(a0 != 8)=true:=bne_iff_ne.mpr c6
      by_cases c7:a0=11
      ·rw [if_pos c7] at H
       have c7b0:(a0==11)=true:=beq_iff_eq.mpr c7
       have c7b1:(a0 != 11)=false:=bne_eq_false_iff_eq.mpr c7
       clear c7
       obtain rfl:=Option.some.inj H
       go_enter Tryd.func12,Tryd.ntmps12
       go_wp2
       go_ret
       exact ⟨au4,au8⟩
      ·rw [if_neg c7] at H
       have c7b0:(a0==11)=false:=beq_eq_false_iff_ne.mpr c7
       have c7b1:(a0 != 11)=true:=bne_iff_ne.mpr c7
       have HC8:=Aside0.mk H
       clear H
       go_enter Tryd.func12,Tryd.ntmps12
       go_upto_if 16 with(fail)
       go_cut [16] (fun v16 wc=>∃(kq:Nat) (x16_7:Bool),v16=.bool x16_7∧Aside0 (response_Code.j0 kq a0 x16_7=some r)∧Aside0 (kq≤k)∧Drawn0 w wc)
       case first =>
        have H:=HC8.out
        clear HC8
        by_cases c9:a0=17
        ·rw [if_pos c9] at H
         have c9b0:(a0==17)=true:=beq_iff_eq.mpr c9
         have c9b1:(a0 != 17)=false:=bne_eq_false_iff_eq.mpr c9
         clear c9
         (first|rw [c9b0]|(simp only [i64_w,i32_w];rw [c9b0])|skip)
         have H':=Aside0.mk H
         clear H
         go_wp2
         go_meet
         case rel=>exact ⟨_,((a0==17)),au4,au9,⟨au14⟩,au8⟩
        ·rw [if_neg c9] at H
         have c9b0:(a0==17)=false:=beq_eq_false_iff_ne.mpr c9
         have c9b1:(a0 != 17)=true:=bne_iff_ne.mpr c9
         (first|rw [c9b0]|(simp only [i64_w,i32_w];rw [c9b0])|skip)
         have H':=Aside0.mk H
         clear H
         go_wp2
         go_meet
         case rel=>exact ⟨_,((a0==14)),au4,au9,⟨au14⟩,au8⟩
       case rest =>
        clear HC8
        obtain ⟨kq,x16_7,rfl,HA,HJ7,⟨mc7,rfl⟩⟩:=hcut
        cases kq with
        | zero=>exact absurd HA.out (by simp [response_Code.j0])
        | succ kj7 =>
         have H:=HA.out
         clear HA
         simp only [response_Code.j0] at H
         by_cases c10:x16_7=true
         ·subst c10
          replace H:(some (⟨#[82,101,113,117,101,115,116,84,104,114,111,116,116,108,101,100]⟩:ByteArray))=some r:=by rw [if_pos rfl] at H;exact H
          obtain rfl:=Option.some.inj H
          go_wp2
          go_ret
          exact ⟨au4,au8⟩
         ·replace c10:=Bool.eq_false_iff.mpr c10
          subst c10
          replace H:(if a0=15 then(response_Code.j1 kj7 a0 (a0==15)) else(response_Code.j1 kj7 a0 (a0==10)))=some r:=by rw [if_neg (show ¬ (false=true) by decide)] at H;exact H
          have HC11:=Aside0.mk H
          clear H
          go_upto_if 19 with(fail)
          go_cut [19] (fun v19 wc=>∃(kq:Nat) (x19_10:Bool),v19=.bool x19_10∧Aside0 (response_Code.j1 kq a0 x19_10=some r)∧Aside0 (kq≤kj7)∧Drawn0 w wc)
          case first =>
           have H:=HC11.out
           clear HC11
           by_cases c12:a0=15
           ·rw [if_pos c12] at H
            have c12b0:(a0==15)=true:=beq_iff_eq.mpr c12
            have c12b1:(a0 != 15)=false:=bne_eq_false_iff_eq.mpr c12
            clear c12
            (first|rw [c12b0]|(simp only [i64_w,i32_w];rw [c12b0])|skip)
            have H':=Aside0.mk H
            clear H
            go_wp2
            go_meet
            case rel=>exact ⟨_,((a0==15)),au4,au9,⟨au54⟩,au8⟩
           ·rw [if_neg c12] at H
            have c12b0:(a0==15)=false:=beq_eq_false_iff_ne.mpr c12
            have c12b1:(a0 != 15)=true:=bne_iff_ne.mpr c12
            (first|rw [c12b0]|(simp only [i64_w,i32_w];rw [c12b0])|skip)
            have H':=Aside0.mk H
            clear H
            go_wp2
            go_meet
            case rel=>exact ⟨_,((a0==10)),au4,au9,⟨au54⟩,au8⟩
          case rest =>
           clear HC11
           obtain ⟨kq,x19_10,rfl,HA,HJ10,⟨mc10,rfl⟩⟩:=hcut
           cases kq with
           | zero=>exact absurd HA.out (by simp [response_Code.j1])
           | succ kj10 =>
            have H:=HA.out
            clear HA
            simp only [response_Code.j1] at H
            by_cases c13:x19_10=true
            ·subst c13
             replace H:(some (⟨#[83,101,114,118,105,99,101,85,110,97,118,97,105,108,97,98,108,101]⟩:ByteArray))=some r:=by rw [if_pos rfl] at H;exact H
             obtain rfl:=Option.some.inj H
             go_wp2
             go_ret
             exact ⟨au4,au8⟩
            ·replace c13:=Bool.eq_false_iff.mpr c13
             subst c13
             replace H:(if a0=2 then(some (⟨#[73,110,118,97,108,105,100,80,97,114,97,109,101,116,101,114,86,97,108,117,101]⟩:ByteArray)) else(if a0=3 then(some (⟨#[73,110,118,97,108,105,100,80,97,114,97,109,101,116,101,114,86,97,108,117,101]⟩:ByteArray)) else(if a0=18 then(some (⟨#[73,110,118,97,108,105,100,80,97,114,97,109,101,116,101,114,86,97,108,117,101]⟩:ByteArray)) else(some (⟨#[73,110,116,101,114,110,97,108,70,97,105,108,117,114,101]⟩:ByteArray)))))=some r:=by rw [if_neg (show ¬ (false=true) by decide)] at H;exact H
             by_cases c14:a0=2
             ·rw [if_pos c14] at H
              have c14b0:(a0==2)=true:=beq_iff_eq.mpr c14
              have c14b1:(a0 != 2)=false:=bne_eq_false_iff_eq.mpr c14
              clear c14
              obtain rfl:=Option.some.inj H
              go_wp2
              go_ret
              exact ⟨au4,au8⟩
             ·rw [if_neg c14] at H
              have c14b0:(a0==2)=false:=beq_eq_false_iff_ne.mpr c14
              have c14b1:(a0 != 2)=true:=bne_iff_ne.mpr c14
              by_cases c15:a0=3
              ·rw [if_pos c15] at H
               have c15b0:(a0==3)=true:=beq_iff_eq.mpr c15
               have c15b1:(a0 != 3)=false:=bne_eq_false_iff_eq.mpr c15
               clear c15
               obtain rfl:=Option.some.inj H
               go_wp2
               go_ret
               exact ⟨au4,au8⟩
              ·rw [if_neg c15] at H
               have c15b0:(a0==3)=false:=beq_eq_false_iff_ne.mpr c15
               have c15b1:(a0 != 3)=true:=bne_iff_ne.mpr c15
               by_cases c16:a0=18
               ·rw [if_pos c16] at H
                have c16b0:(a0==18)=true:=beq_iff_eq.mpr c16
                have c16b1:(a0 != 18)=false:=bne_eq_false_iff_eq.mpr c16
                clear c16
                obtain rfl:=Option.some.inj H
                go_wp2
                go_ret
                exact ⟨au4,au8⟩
               ·rw [if_neg c16] at H
                have c16b0:(a0==18)=false:=beq_eq_false_iff_ne.mpr c16
                have c16b1:(a0 != 18)=true:=bne_iff_ne.mpr c16
                obtain rfl:=Option.some.inj H
                go_wp2
                go_ret
                exact ⟨au4,au8⟩
def racewaylaw29_works.f (k:Nat) :Option (Bool):=(response_FaultJson.f k (⟨#[81,117,101,117,101,68,111,101,115,78,111,116,69,120,105,115,116]⟩:ByteArray) (⟨#[81,117,101,117,101,85,114,108]⟩:ByteArray)).bind fun bt174=>(if bt174.1=400 then(if bt174.2.toList=([123,34,95,95,116,121,112,101,34,58,34,99,111,109,46,97,109,97,122,111,110,97,119,115,46,115,113,115,35,81,117,101,117,101,68,111,101,115,78,111,116,69,120,105,115,116,34,44,34,109,101,115,115,97,103,101,34,58,34,81,117,101,117,101,85,114,108,34,125]:List UInt8) then((response_Code.f k 7).bind fun t176=>(some (t176.toList==([79,118,101,114,76,105,109,105,116]:List UInt8)))) else(some false)) else(some false))
set_option maxHeartbeats 8000000 in
set_option maxRecDepth 100000 in
theorem racewaylaw29_works.calls (k:Nat)  (r:Bool) (w:World) (hGU8:GlobU8 w) (h:racewaylaw29_works.f k =some r) :
  Calls Tryd.prog 7 #[] w fun e w'=>e=.returned (.bool r)∧Below w.heap.size w w':=by
 have hu29:=Tryd.underlying29
 have HGU8:=Aside0.mk hGU8
 clear hGU8
 have HB:=Aside0.mk (Below.refl w.heap.size w)
 have H:((response_FaultJson.f k (⟨#[81,117,101,117,101,68,111,101,115,78,111,116,69,120,105,115,116]⟩:ByteArray) (⟨#[81,117,101,117,101,85,114,108]⟩:ByteArray)).bind fun bt174=>(if bt174.1=400 then(if bt174.2.toList=([123,34,95,95,116,121,112,101,34,58,34,99,111,109,46,97,109,97,122,111,110,97,119,115,46,115,113,115,35,81,117,101,117,101,68,111,101,115,78,111,116,69,120,105,115,116,34,44,34,109,101,115,115,97,103,101,34,58,34,81,117,101,117,101,85,114,108,34,125]:List UInt8) then((response_Code.f k 7).bind fun t176=>(some (t176.toList==([79,118,101,114,76,105,109,105,116]:List UInt8)))) else(some false)) else(some false)))=some r:=h
 clear h
 replace H:=Option.bind_eq_some_iff.mp H
 obtain ⟨⟨t174,t175⟩,A10,H⟩:=H
 replace H:(if t174=400 then(if t175.toList=([123,34,95,95,116,121,112,101,34,58,34,99,111,109,46,97,109,97,122,111,110,97,119,115,46,115,113,115,35,81,117,101,117,101,68,111,101,115,78,111,116,69,120,105,115,116,34,44,34,109,101,115,115,97,103,101,34,58,34,81,117,101,117,101,85,114,108,34,125]:List UInt8) then((response_Code.f k 7).bind fun t176=>(some (t176.toList==([79,118,101,114,76,105,109,105,116]:List UInt8)))) else(some false)) else(some false))=some r:=H
 have A1:=Aside0.mk A10
 clear A10
 by_cases c2:t174=400
 ·rw [if_pos c2] at H
  have c2b0:(t174==400)=true:=beq_iff_eq.mpr c2
  have c2b1:(t174 != 400)=false:=bne_eq_false_iff_eq.mpr c2
  clear c2
  by_cases c3:t175.toList=([123,34,95,95,116,121,112,101,34,58,34,99,111,109,46,97,109,97,122,111,110,97,119,115,46,115,113,115,35,81,117,101,117,101,68,111,101,115,78,111,116,69,120,105,115,116,34,44,34,109,101,115,115,97,103,101,34,58,34,81,117,101,117,101,85,114,108,34,125]:List UInt8)
  ·rw [if_pos c3] at H
   have c3b0:(t175.toList==([123,34,95,95,116,121,112,101,34,58,34,99,111,109,46,97,109,97,122,111,110,97,119,115,46,115,113,115,35,81,117,101,117,101,68,111,101,115,78,111,116,69,120,105,115,116,34,44,34,109,101,115,115,97,103,101,34,58,34,81,117,101,117,101,85,114,108,34,125]:List UInt8))=true:=beq_iff_eq.mpr c3
   have c3b1:(t175.toList != ([123,34,95,95,116,121,112,101,34,58,34,99,111,109,46,97,109,97,122,111,110,97,119,115,46,115,113,115,35,81,117,101,117,101,68,111,101,115,78,111,116,69,120,105,115,116,34,44,34,109,101,115,115,97,103,101,34,58,34,81,117,101,117,101,85,114,108,34,125]:List UInt8))=false:=bne_eq_false_iff_eq.mpr c3
   clear c3
   replace H:=Option.bind_eq_some_iff.mp H
   obtain ⟨t176,A40,H⟩:=H
   replace H:(some (t176.toList==([79,118,101,114,76,105,109,105,116]:List UInt8)))=some r:=H
   have A4:=Aside0.mk A40
   clear A40
   obtain rfl:=Option.some.inj H
   go_enter Tryd.func7,Tryd.ntmps7
   go_wp2_with (first|((with_reducible refine gate_callee (f:=8) rfl ?_);refine goesL_ (some 5) rfl rfl Tryd.func8 au2 rfl #[.agg #[.string (⟨#[81,117,101,117,101,68,111,101,115,78,111,116,69,120,105,115,116]⟩:ByteArray),.string (⟨#[81,117,101,117,101,85,114,108]⟩:ByteArray)]] rfl au10 ?_;(with_reducible refine(response_FaultJson.calls k (⟨#[81,117,101,117,101,68,111,101,115,78,111,116,69,120,105,115,116]⟩:ByteArray) (⟨#[81,117,101,117,101,85,114,108]⟩:ByteArray) t174 t175 _ ?side1 A1.out).mono ?_);(case side1=>first|exact HGU8.out|exact GlobU8.below HGU8.out au3|exact GlobU8.drawn HGU8.out au8);rintro e w5 ⟨rfl,hb⟩;refine ⟨_,rfl,?_⟩;have n0_:=Aside0.mk (below_step au3 hb);clear HB;have HB:=n0_;clear n0_;(try clear hb);(try clear hb2);(try clear hk);(try clear hi))|(go_at_call 12;(with_reducible refine(response_Code.calls k 7 t176 _ A4.out).mono ?_);rintro e w' ⟨rfl,⟨nd,rfl⟩⟩))
   go_ret
   exact ⟨au12,au3⟩
  ·rw [if_neg c3] at H
   have c3b0:(t175.toList==([123,34,95,95,116,121,112,101,34,58,34,99,111,109,46,97,109,97,122,111,110,97,119,115,46,115,113,115,35,81,117,101,117,101,68,111,101,115,78,111,116,69,120,105,115,116,34,44,34,109,101,115,115,97,103,101,34,58,34,81,117,101,117,101,85,114,108,34,125]:List UInt8))=false:=beq_eq_false_iff_ne.mpr c3
   have c3b1:(t175.toList != ([123,34,95,95,116,121,112,101,34,58,34,99,111,109,46,97,109,97,122,111,110,97,119,115,46,115,113,115,35,81,117,101,117,101,68,111,101,115,78,111,116,69,120,105,115,116,34,44,34,109,101,115,115,97,103,101,34,58,34,81,117,101,117,101,85,114,108,34,125]:List UInt8))=true:=bne_iff_ne.mpr c3
   obtain rfl:=Option.some.inj H
   go_enter Tryd.func7,Tryd.ntmps7
   go_wp2_with (first|((with_reducible refine gate_callee (f:=8) rfl ?_);refine goesL_ (some 5) rfl rfl Tryd.func8 au2 rfl #[.agg #[.string (⟨#[81,117,101,117,101,68,111,101,115,78,111,116,69,120,105,115,116]⟩:ByteArray),.string (⟨#[81,117,101,117,101,85,114,108]⟩:ByteArray)]] rfl au10 ?_;(with_reducible refine(response_FaultJson.calls k (⟨#[81,117,101,117,101,68,111,101,115,78,111,116,69,120,105,115,116]⟩:ByteArray) (⟨#[81,117,101,117,101,85,114,108]⟩:ByteArray) t174 t175 _ ?side1 A1.out).mono ?_);(case side1=>first|exact HGU8.out|exact GlobU8.below HGU8.out au3|exact GlobU8.drawn HGU8.out au8);rintro e w6 ⟨rfl,hb⟩;refine ⟨_,rfl,?_⟩;have n0_:=Aside0.mk (below_step au3 hb);clear HB;have HB:=n0_;clear n0_;(try clear hb);(try clear hb2);(try clear hk);(try clear hi)))
   go_ret
   exact ⟨au12,au3⟩
 ·rw [if_neg c2] at H
  have c2b0:(t174==400)=false:=beq_eq_false_iff_ne.mpr c2
  have c2b1:(t174 != 400)=true:=bne_iff_ne.mpr c2
  obtain rfl:=Option.some.inj H
  go_enter Tryd.func7,Tryd.ntmps7
  go_wp2_with (first|((with_reducible refine gate_callee (f:=8) rfl ?_);refine goesL_ (some 5) rfl rfl Tryd.func8 au2 rfl #[.agg #[.string (⟨#[81,117,101,117,101,68,111,101,115,78,111,116,69,120,105,115,116]⟩:ByteArray),.string (⟨#[81,117,101,117,101,85,114,108]⟩:ByteArray)]] rfl au10 ?_;(with_reducible refine(response_FaultJson.calls k (⟨#[81,117,101,117,101,68,111,101,115,78,111,116,69,120,105,115,116]⟩:ByteArray) (⟨#[81,117,101,117,101,85,114,108]⟩:ByteArray) t174 t175 _ ?side1 A1.out).mono ?_);(case side1=>first|exact HGU8.out|exact GlobU8.below HGU8.out au3|exact GlobU8.drawn HGU8.out au8);rintro e w7 ⟨rfl,hb⟩;refine ⟨_,rfl,?_⟩;have n0_:=Aside0.mk (below_step au3 hb);clear HB;have HB:=n0_;clear n0_;(try clear hb);(try clear hb2);(try clear hk);(try clear hi)))
  go_ret
  exact ⟨au12,au3⟩
end Go.Proofs.YtjehflambbjoaaaDoor.X
namespace Go.Proofs.YtjehflambbjoaaaDoor.Pure
open Go.Proofs.YtjehflambbjoaaaDoor.X Go.RowKit Go.Proofs.YtjehflambbjoaaaDoorW.PrintWords Go.Proofs.YtjehflambbjoaaaDoorW.PrintMore
theorem code_both (e:Int) (k:Nat) (hk:5≤k):∃ s,response_Code.f k e=some s∧racewayref29_Code.f k e=some s:=by
 obtain ⟨k,rfl⟩:∃ k',k=k'+5:=⟨k - 5,au0⟩
 by_cases h0:e=0
 ·subst h0;exact ⟨_,rfl,rfl⟩
 by_cases h7:e=7
 ·subst h7;exact ⟨_,rfl,rfl⟩
 by_cases h12:e=12
 ·subst h12;exact ⟨_,rfl,rfl⟩
 by_cases h13:e=13
 ·subst h13;exact ⟨_,rfl,rfl⟩
 by_cases h8:e=8
 ·subst h8;exact ⟨_,rfl,rfl⟩
 by_cases h11:e=11
 ·subst h11;exact ⟨_,rfl,rfl⟩
 by_cases h17:e=17
 ·subst h17;exact ⟨_,rfl,rfl⟩
 by_cases h14:e=14
 ·subst h14;exact ⟨_,rfl,rfl⟩
 by_cases h15:e=15
 ·subst h15;exact ⟨_,rfl,rfl⟩
 by_cases h10:e=10
 ·subst h10;exact ⟨_,rfl,rfl⟩
 by_cases h2:e=2
 ·subst h2;exact ⟨_,rfl,rfl⟩
 by_cases h3:e=3
 ·subst h3;exact ⟨_,rfl,rfl⟩
 by_cases h18:e=18
 ·subst h18;exact ⟨_,rfl,rfl⟩
 refine ⟨⟨#[73,110,116,101,114,110,97,108,70,97,105,108,117,114,101]⟩,?_,?_⟩
 ·simp [response_Code.f,response_Code.j0,response_Code.j1,h0,h7,h12,h13,h8,h11,h17,h14,h15,h10,h2,h3,h18]
 ·simp [racewayref29_Code.f,racewayref29_Code.j0,racewayref29_Code.j1,racewayref29_Code.j2,h0,h7,h12,h13,h8,h11,h17,h14,h15,h10,h2,h3,h18]
theorem status_both (c p:ByteArray):∃ n,response_status.f c p=some n∧racewayref29_status.f c p=some n:=by
 unfold response_status.f racewayref29_status.f
 split
 ·exact ⟨_,rfl,rfl⟩
 ·split
  ·exact ⟨_,rfl,rfl⟩
  ·exact ⟨_,rfl,rfl⟩
def kType:Bs:=[95,95,116,121,112,101]
def kMessage:Bs:=[109,101,115,115,97,103,101]
def pSqs:Bs:=[99,111,109,46,97,109,97,122,111,110,97,119,115,46,115,113,115,35]
def kCode:Bs:=[67,111,100,101]
def kMess:Bs:=[77,101,115,115,97,103,101]
def kError:Bs:=[69,114,114,111,114]
def kResp:Bs:=[69,114,114,111,114,82,101,115,112,111,110,115,101]
def faultM (c p:Bs):List (Bs × F):=[(kType,leafF (shown (pSqs++c))),(kMessage,leafF (shown p))]
def faultX (c p:Bs):List (Bs × F):=[(kCode,leafF (shown c)),(kMess,leafF (shown p))]
theorem two_ok (k1 k2 a b:Bs) (h1:Lib.validD k1=true∧k1.length≤100) (h2:Lib.validD k2=true∧k2.length≤100) (ha:a.length≤70000) (hb:b.length≤70000) (d:Nat) (hd:1≤d):∀ q∈[(k1,leafF (shown a)),(k2,leafF (shown b))],Tr d 1 q.2∧Lib.validD q.1=true∧q.1.length≤700000:=by
 have s1:=shown_size a
 have s2:=shown_size b
 intro q hq
 simp only [List.mem_cons,List.not_mem_nil,or_false] at hq
 rcases hq with rfl|rfl
 ·exact ⟨leafF_tr _ (shown_valid a) au0 d hd,h1.1,Nat.le_trans h1.2 au0⟩
 ·exact ⟨leafF_tr _ (shown_valid b) au0 d hd,h2.1,Nat.le_trans h2.2 au0⟩
theorem json_both (c p:Bs) (hc:c.length≤1000) (hp:p.length≤1000) (k:Nat) (hk:20000000≤k):∃ n s,response_FaultJson.f k (str c) (str p)=some (n,s)∧racewayref29_FaultJson.f k (str c) (str p)=some (n,s):=by
 obtain ⟨n,s1,s2⟩:=status_both (str c) (str p)
 have hpc:(pSqs++c).length≤70000:=by simp only [pSqs,List.length_append,List.length_cons,List.length_nil];omega
 have hm:=two_ok kType kMessage (pSqs++c) p au1 au1 hpc au0 1 (Nat.le_refl _)
 have hm31:=two_ok kType kMessage (pSqs++c) p au1 au1 hpc au0 31 au0
 have ht:=objF_tr 1 1 3 (faultM c p) hm (by simp [faultM]) au0 (by simp [faultM])
 obtain ⟨q1,q2⟩:=print_both ht au0 au0 k hk
 have o1:=obj_is 1 (faultM c p) hm31 au0 (by simp [faultM]) k au0
 have o2:=robj_is 1 (faultM c p) hm31 au0 (by simp [faultM]) k au0
 have ep:(⟨#[99,111,109,46,97,109,97,122,111,110,97,119,115,46,115,113,115,35]⟩:ByteArray)++str c=str (pSqs++c):=mstr_app pSqs c
 have t1:=txtL_is [] kType (pSqs++c) hpc k au0
 have t2:=txtL_is [(kType,leafF (shown (pSqs++c)))] kMessage p au0 k au0
 have u1:=rtext_is kType (pSqs++c) hpc k au0
 have u2:=rtext_is kMessage p au0 k au0
 refine ⟨n,str (objF (faultM c p)).txt,?_,?_⟩
 ·unfold response_FaultJson.f
  rw [if_pos au25,ep]
  rw [show txtL k ([],[]) ⟨#[95,95,116,121,112,101]⟩ (str (pSqs++c))=_ from t1,Option.bind_some]
  rw [show txtL k (keysOf ([]++[(kType,leafF (shown (pSqs++c)))]),treesOf ([]++[(kType,leafF (shown (pSqs++c)))])) ⟨#[109,101,115,115,97,103,101]⟩ (str p)=_ from t2,Option.bind_some]
  show(jsontext_Object.f k (keysOf (faultM c p)) (treesOf (faultM c p))).bind _=_
  rw [o1,Option.bind_some,q1,Option.bind_some,s1]
  rfl
 ·unfold racewayref29_FaultJson.f
  rw [if_pos au25,ep]
  rw [show racewayref29_text.f k ⟨#[95,95,116,121,112,101]⟩ (str (pSqs++c))=_ from u1,Option.bind_some]
  rw [show racewayref29_text.f k ⟨#[109,101,115,115,97,103,101]⟩ (str p)=_ from u2,Option.bind_some]
  show(racewayref29_object.f k (memsOf (faultM c p))).bind _=_
  rw [o2,Option.bind_some,q2,Option.bind_some,s2]
  rfl
set_option maxRecDepth 100000 in
theorem marks_two {l:List S24} {name:ByteArray} (h:markOk name l) {u:F} (ht:tree? l=some u) (k:Nat) (hk:20000000≤k):response_Markup.f k name l=some (str (mkup (some name.data.toList) u))∧racewayref29_Markup.f k name l=some (str (mkup (some name.data.toList) u)):=by
 have hC:=Check_law l h.2.2.2 k (by have:=h.1;omega)
 have hR:=rCheck_law l h.2.2.2 (by have:=h.1;omega) k (by have:=h.1;omega)
 rw [ht] at hC hR
 have hC':jsontext_Check.f k l=some 0:=hC
 have hR':racewayref25_Check.f k l=some 0:=hR
 have hl70:=h.1
 have hkk:70*(l.length+100000+10)≤k:=Nat.le_trans (Nat.mul_le_mul_left 70 (Nat.add_le_add_right (Nat.add_le_add_right hl70 100000) 10)) (Nat.le_trans au1 hk)
 obtain ⟨p1,p2,p3,p4,p5,p6,p7⟩:=mark_parts h ht
 unfold response_Markup.f racewayref29_Markup.f
 refine ⟨?_,?_⟩
 ·rw [hC',Option.bind_some,if_pos rfl]
  unfold response_element.f
  rw [if_pos ⟨rfl,h⟩,ht]
  rfl
 ·have:=rel_law l p7 1000 100000 au0 au0 70 u [] 0 k name.data.toList p1 p2 p3 p4 p5 (Nat.le_trans p6 au1) hkk
  rw [hR',Option.bind_some,if_pos rfl]
  rw [str_back] at this
  show(racewayref29_element.f k name l ((0:Nat):Int)).bind _=_
  rw [show racewayref29_element.f k name l ((0:Nat):Int)=_ from this]
  rfl
theorem xml_both (c p:Bs) (hc:c.length≤1000) (hp:p.length≤1000) (k:Nat) (hk:20000000≤k):∃ n s,response_FaultXml.f k (str c) (str p)=some (n,s)∧racewayref29_FaultXml.f k (str c) (str p)=some (n,s):=by
 obtain ⟨n,s1,s2⟩:=status_both (str c) (str p)
 have hm:=two_ok kCode kMess c p au1 au1 au0 au0 1 (Nat.le_refl _)
 have hm31:=two_ok kCode kMess c p au1 au1 au0 au0 31 au0
 have ht:=objF_tr 1 1 3 (faultX c p) hm (by simp [faultX]) au0 (by simp [faultX])
 have hm2:∀ q∈[(kError,objF (faultX c p))],Tr 2 3 q.2∧Lib.validD q.1=true∧q.1.length≤700000:=by
  intro q hq
  obtain rfl:=List.mem_singleton.1 hq
  exact ⟨ht,(by decide:Lib.validD kError=true),(by decide:kError.length≤700000)⟩
 have hm231:∀ q∈[(kError,objF (faultX c p))],Tr 31 3 q.2∧Lib.validD q.1=true∧q.1.length≤700000:=by
  intro q hq
  obtain rfl:=List.mem_singleton.1 hq
  exact ⟨⟨ht.one,good_up _ 2 31 false au0 ht.good,ht.fit,ht.len⟩,(by decide:Lib.validD kError=true),(by decide:kError.length≤700000)⟩
 have ht2:=objF_tr 2 3 4 [(kError,objF (faultX c p))] hm2 au5 au0 au5
 have o1:=obj_is 1 (faultX c p) hm31 au0 (by simp [faultX]) k au0
 have o2:=robj_is 1 (faultX c p) hm31 au0 (by simp [faultX]) k au0
 have o3:=obj_is 3 [(kError,objF (faultX c p))] hm231 au0 au5 k au0
 have o4:=robj_is 3 [(kError,objF (faultX c p))] hm231 au0 au5 k au0
 have e1:=putL_is [] kError (objF (faultX c p)) trivial
 have z1:=shown_size c
 have z2:=shown_size p
 have hok:markOk (str kResp) (objF [(kError,objF (faultX c p))]).flat:=by
  refine ⟨Nat.le_trans ht2.len au1,au1,?_,ht2.fit⟩
  intro x hx
  simp only [objF,rowF,F.setKey,F.app,F.flat,leafF,faultX,List.append_nil,List.cons_append,List.nil_append,List.mem_cons,List.not_mem_nil,or_false] at hx
  rcases hx with rfl|rfl|rfl|rfl
  ·simp only [msize,List.length_nil];omega
  ·simp only [msize,kError,List.length_nil,List.length_cons];omega
  ·simp only [msize,kCode,List.length_nil,List.length_cons];omega
  ·simp only [msize,kMess,List.length_nil,List.length_cons];omega
 obtain ⟨q1,q2⟩:=marks_two hok (ht2.tree au0) k hk
 have t1:=txtL_is [] kCode c au0 k au0
 have t2:=txtL_is [(kCode,leafF (shown c))] kMess p au0 k au0
 have u1:=rtext_is kCode c au0 k au0
 have u2:=rtext_is kMess p au0 k au0
 refine ⟨n,str (mkup (some (str kResp).data.toList) (objF [(kError,objF (faultX c p))])),?_,?_⟩
 ·unfold response_FaultXml.f
  rw [show txtL k ([],[]) ⟨#[67,111,100,101]⟩ (str c)=_ from t1,Option.bind_some]
  rw [show txtL k (keysOf ([]++[(kCode,leafF (shown c))]),treesOf ([]++[(kCode,leafF (shown c))])) ⟨#[77,101,115,115,97,103,101]⟩ (str p)=_ from t2,Option.bind_some]
  show(jsontext_Object.f k (keysOf (faultX c p)) (treesOf (faultX c p))).bind _=_
  rw [o1,Option.bind_some]
  rw [show putL ([],[]) ⟨#[69,114,114,111,114]⟩ (objF (faultX c p)).flat=_ from e1]
  show(jsontext_Object.f k (keysOf [(kError,objF (faultX c p))]) (treesOf [(kError,objF (faultX c p))])).bind _=_
  rw [o3,Option.bind_some]
  rw [show response_Markup.f k ⟨#[69,114,114,111,114,82,101,115,112,111,110,115,101]⟩ (objF [(kError,objF (faultX c p))]).flat=_ from q1,Option.bind_some,s1]
  rfl
 ·unfold racewayref29_FaultXml.f
  rw [s2,Option.bind_some]
  rw [show racewayref29_text.f k ⟨#[67,111,100,101]⟩ (str c)=_ from u1,Option.bind_some]
  rw [show racewayref29_text.f k ⟨#[77,101,115,115,97,103,101]⟩ (str p)=_ from u2,Option.bind_some]
  show(racewayref29_object.f k (memsOf (faultX c p))).bind _=_
  rw [o2,Option.bind_some]
  show(racewayref29_object.f k (memsOf [(kError,objF (faultX c p))])).bind _=_
  rw [o4,Option.bind_some]
  rw [show racewayref29_Markup.f k ⟨#[69,114,114,111,114,82,101,115,112,111,110,115,101]⟩ (objF [(kError,objF (faultX c p))]).flat=_ from q2]
  rfl
set_option maxRecDepth 100000 in
theorem works_is:racewaylaw29_works.f 20000000=some true:=by decide +kernel
end Go.Proofs.YtjehflambbjoaaaDoor.Pure
namespace Go.Proofs.YtjehflambbjoaaaDoor.X
open Go.RowKit Go.Proofs.YtjehflambbjoaaaDoor.Pure Go.Proofs.YtjehflambbjoaaaDoorW.PrintWords Go.Proofs.YtjehflambbjoaaaDoorW.PrintLast Go.Proofs.YtjehflambbjoaaaDoorW.PrintMore
def racewaylaw29_ResponseFaults.f (k:Nat) (a0_0 a0_1:ByteArray) (a1:Int):Option Bool:=some true
set_option maxHeartbeats 16000000 in
set_option maxRecDepth 100000 in
theorem racewaylaw29_ResponseFaults.calls (k:Nat) (a0_0 a0_1:ByteArray) (a1:Int) (r:Bool) (hr:r=true) (w:World) (hGMax:GlobMax w) (hGU8:GlobU8 w) (h:racewaylaw29_ResponseFaults.f k a0_0 a0_1 a1=some r) :
  Calls Tryd.prog 4 #[.agg #[.string a0_0,.string a0_1],.int .i64 a1] w fun e w'=>e=.returned (.bool r)∧Below w.heap.size w w':=by
 subst hr
 have hal:=heap_alloc_new w (.cells #[.string a0_0,.string a0_1] 29 (0,0))
 have hHA:Below w.heap.size w (w.alloc (.cells #[.string a0_0,.string a0_1] 29 (0,0))):=(Below.refl _ _).alloc (Nat.le_refl _) _
 have HM:=xhid (hGMax.below hHA)
 have HG:=xhid (hGU8.below hHA)
 have HHA:=xhid hHA
 have HG0:=xhid hGU8
 have HM0:=xhid hGMax
 clear h hGMax hGU8 hHA
 go_enter Tryd.func4,Tryd.ntmps4
 go_wp2
 generalize hw1:w.alloc (.cells #[.string a0_0,.string a0_1] 29 (0,0))=wf at *
 clear hw1
 have c0:=(blk_cell hal 0).trans (rfl:_=some (Value.string a0_0))
 have c1:=(blk_cell hal 1).trans (rfl:_=some (Value.string a0_1))
 have f0:=fz_at hal 0
 have f1:=fz_at hal 1
 have HLT:=xhid (blk_lt hal)
 have m0:(0≤min (a0_0.size:Int) 200)=True:=eq_true au0
 have m1:(min (a0_0.size:Int) 200≤(a0_0.size:Int))=True:=eq_true au0
 have m2:(0≤min (a0_1.size:Int) 200)=True:=eq_true au0
 have m3:(min (a0_1.size:Int) 200≤(a0_1.size:Int))=True:=eq_true au0
 have HX1:Hid (∀ u,(wf.drew.setCell ⟨w.heap.size,0,none⟩ u).cell? ⟨w.heap.size,1,none⟩=some (.string a0_1)):=xhid (fun u=>(blk_cell (blk_set hal 0 u) 1).trans rfl)
 refine start_ (n:=18) (S:=fun w'=>w'.cell? ⟨w.heap.size,1,none⟩=some (.string a0_1)) (ds:=[17]) #[fF,fF,fF,fF,fF,fF,fF,fF,fF,fF,fF,fF,fF,fF,fF,fF,fF,fF] au2 rfl rfl (c1) (fun hHeld=>?_)
 refine pure_ (i:=0) (N:=some 13) (v:=?_) (a':=?_) #[tT,fF,fF,fF,fF,fF,fF,fF,fF,fF,fF,fF,fF,fF,fF,fF,fF,fF] rfl rfl au2 (fun _ _ _ h=>h) (Or.inl ⟨au6,?_⟩) ?_ ?_
 rotate_left
 ·intro w'
  go_simp
  with_reducible rfl
 rotate_left
 ·simp only [Act.put,List.setIfInBounds_toArray,List.set_cons_zero,List.set_cons_succ,i64_w,i32_w]
  rfl
 refine pure_ (i:=2) (N:=some 15) (v:=?_) (a':=?_) #[tT,fF,tT,fF,fF,fF,fF,fF,fF,fF,fF,fF,fF,fF,fF,fF,fF,fF] rfl rfl au2 (fun _ _ _ h=>h) (Or.inl ⟨au6,?_⟩) ?_ ?_
 rotate_left
 ·intro w'
  go_simp
  with_reducible rfl
 rotate_left
 ·simp only [Act.put,List.setIfInBounds_toArray,List.set_cons_zero,List.set_cons_succ,i64_w,i32_w]
  rfl
 refine pure_ (i:=7) (N:=some 20) (v:=?_) (a':=?_) #[tT,fF,tT,fF,fF,fF,fF,tT,fF,fF,fF,fF,fF,fF,fF,fF,fF,fF] rfl rfl au2 (fun _ _ _ h=>h) (Or.inl ⟨au6,?_⟩) ?_ ?_
 rotate_left
 ·intro w'
  go_simp
  with_reducible rfl
 rotate_left
 ·simp only [Act.put,List.setIfInBounds_toArray,List.set_cons_zero,List.set_cons_succ,i64_w,i32_w]
  rfl
 refine pure_ (i:=9) (N:=some 22) (v:=?_) (a':=?_) #[tT,fF,tT,fF,fF,fF,fF,tT,fF,tT,fF,fF,fF,fF,fF,fF,fF,fF] rfl rfl au2 (fun _ _ _ h=>h) (Or.inl ⟨au6,?_⟩) ?_ ?_
 rotate_left
 ·intro w'
  go_simp
  with_reducible rfl
 rotate_left
 ·simp only [Act.put,List.setIfInBounds_toArray,List.set_cons_zero,List.set_cons_succ,i64_w,i32_w]
  rfl
 refine take_ (i:=8) (N:=some 21) (v:=?_) (a':=?_) #[tT,fF,tT,fF,fF,fF,fF,tT,tT,tT,fF,fF,fF,fF,fF,fF,fF,fF] rfl rfl au2 (fun _ _ _ h=>h) (Or.inl ⟨au6,?_⟩) hHeld ?_ ?_
 rotate_left
 ·intro w' s0
  go_simp
  with_reducible rfl
 rotate_left
 ·simp only [Act.put,List.setIfInBounds_toArray,List.set_cons_zero,List.set_cons_succ,i64_w,i32_w]
  rfl
 refine take_ (i:=10) (N:=some 23) (v:=?_) (a':=?_) #[tT,fF,tT,fF,fF,fF,fF,tT,tT,tT,tT,fF,fF,fF,fF,fF,fF,fF] rfl rfl au2 (fun _ _ _ h=>h) (Or.inl ⟨au6,?_⟩) hHeld ?_ ?_
 rotate_left
 ·intro w' s0
  go_simp
  with_reducible rfl
 rotate_left
 ·simp only [Act.put,List.setIfInBounds_toArray,List.set_cons_zero,List.set_cons_succ,i64_w,i32_w]
  rfl
 refine pure_ (i:=11) (N:=some 24) (v:=?_) (a':=?_) #[tT,fF,tT,fF,fF,fF,fF,tT,tT,tT,tT,tT,fF,fF,fF,fF,fF,fF] rfl rfl au2 (fun _ _ _ h=>h) (Or.inl ⟨au6,?_⟩) ?_ ?_
 rotate_left
 ·intro w'
  go_simp
  with_reducible rfl
 rotate_left
 ·simp only [Act.put,List.setIfInBounds_toArray,List.set_cons_zero,List.set_cons_succ,i64_w,i32_w]
  rfl
 refine pure_ (i:=12) (N:=some 25) (v:=?_) (a':=?_) #[tT,fF,tT,fF,fF,fF,fF,tT,tT,tT,tT,tT,tT,fF,fF,fF,fF,fF] rfl rfl au2 (fun _ _ _ h=>h) (Or.inl ⟨au6,?_⟩) ?_ ?_
 rotate_left
 ·intro w'
  go_simp
  with_reducible rfl
 rotate_left
 ·simp only [Act.put,List.setIfInBounds_toArray,List.set_cons_zero,List.set_cons_succ,i64_w,i32_w]
  rfl
 refine pure_ (i:=13) (N:=some 26) (v:=?_) (a':=?_) #[tT,fF,tT,fF,fF,fF,fF,tT,tT,tT,tT,tT,tT,tT,fF,fF,fF,fF] rfl rfl au2 (fun _ _ _ h=>h) (Or.inl ⟨au6,?_⟩) ?_ ?_
 rotate_left
 ·intro w'
  go_simp
  with_reducible rfl
 rotate_left
 ·simp only [Act.put,List.setIfInBounds_toArray,List.set_cons_zero,List.set_cons_succ,i64_w,i32_w]
  rfl
 refine join_ (σ:=Nat) 5 #[tT,tT,tT,tT,tT,tT,fF,tT,tT,tT,tT,tT,tT,tT,fF,fF,fF,fF] (fun _=>[(14,.string a0_0),(16,.string a0_0),(17,.int .i64 (a0_0.size:Int)),(18,.int .i64 (min (a0_0.size:Int) 200))]) (fun _ w6=>w6=wf.drew) ?_ ?_
 rotate_left
 ·intro hCont
  refine two_ (i:=1) (j:=3) (Ni:=some 14) (Nj:=some 16) #[tT,tT,tT,fF,fF,fF,fF,tT,tT,tT,tT,tT,tT,tT,fF,fF,fF,fF] #[tT,fF,tT,tT,fF,fF,fF,tT,tT,tT,tT,tT,tT,tT,fF,fF,fF,fF] rfl rfl rfl rfl au2 au1 au1 (fun K hK=>?_) (fun K hK=>?_)
  ·skip
   refine value_ (w1:=?_) (v:=?_) au6 rfl ?_ ?_
   rotate_left 2
   ·go_simp
    constructor
    ·rfl
    ·rfl
   refine hK.out _ _ (c1) (fun hHeld=>?_)
   clear hK K
   refine norm_ (a':=?_) ?_ ?_
   rotate_left
   ·show Act.put _ (some 14) _=_
    simp only [Act.put,List.setIfInBounds_toArray,List.set_cons_zero,List.set_cons_succ,i64_w,i32_w]
    rfl
   refine one_ (i:=3) (N:=some 16) #[tT,tT,tT,tT,fF,fF,fF,tT,tT,tT,tT,tT,tT,tT,fF,fF,fF,fF] rfl rfl au2 au1 (fun K hK=>?_)
   refine value_ (w1:=?_) (v:=?_) au6 rfl ?_ ?_
   rotate_left 2
   ·go_simp
    constructor
    ·rfl
    ·rfl
   refine hK.out _ _ (c1) (fun hHeld=>?_)
   clear hK K
   refine norm_ (a':=?_) ?_ ?_
   rotate_left
   ·show Act.put _ (some 16) _=_
    simp only [Act.put,List.setIfInBounds_toArray,List.set_cons_zero,List.set_cons_succ,i64_w,i32_w]
    rfl
   refine pure_ (i:=4) (N:=some 17) (v:=?_) (a':=?_) #[tT,tT,tT,tT,tT,fF,fF,tT,tT,tT,tT,tT,tT,tT,fF,fF,fF,fF] rfl rfl au2 (fun _ _ _ h=>h) (Or.inl ⟨au6,?_⟩) ?_ ?_
   rotate_left
   ·intro w'
    go_simp
    with_reducible rfl
   rotate_left
   ·simp only [Act.put,List.setIfInBounds_toArray,List.set_cons_zero,List.set_cons_succ,i64_w,i32_w]
    rfl
   refine pure_ (i:=5) (N:=some 18) (v:=?_) (a':=?_) #[tT,tT,tT,tT,tT,tT,fF,tT,tT,tT,tT,tT,tT,tT,fF,fF,fF,fF] rfl rfl au2 (fun _ _ _ h=>h) (Or.inl ⟨au6,?_⟩) ?_ ?_
   rotate_left
   ·intro w'
    go_simp
    with_reducible rfl
   rotate_left
   ·simp only [Act.put,List.setIfInBounds_toArray,List.set_cons_zero,List.set_cons_succ,i64_w,i32_w]
    rfl
   exact norm_ au24 (hCont 0 _ rfl)
  ·skip
   refine value_ (w1:=?_) (v:=?_) au6 rfl ?_ ?_
   rotate_left 2
   ·go_simp
    constructor
    ·rfl
    ·rfl
   refine hK.out _ _ (c1) (fun hHeld=>?_)
   clear hK K
   refine norm_ (a':=?_) ?_ ?_
   rotate_left
   ·show Act.put _ (some 16) _=_
    simp only [Act.put,List.setIfInBounds_toArray,List.set_cons_zero,List.set_cons_succ,i64_w,i32_w]
    rfl
   refine pure_ (i:=4) (N:=some 17) (v:=?_) (a':=?_) #[tT,fF,tT,tT,tT,fF,fF,tT,tT,tT,tT,tT,tT,tT,fF,fF,fF,fF] rfl rfl au2 (fun _ _ _ h=>h) (Or.inl ⟨au6,?_⟩) ?_ ?_
   rotate_left
   ·intro w'
    go_simp
    with_reducible rfl
   rotate_left
   ·simp only [Act.put,List.setIfInBounds_toArray,List.set_cons_zero,List.set_cons_succ,i64_w,i32_w]
    rfl
   refine pure_ (i:=5) (N:=some 18) (v:=?_) (a':=?_) #[tT,fF,tT,tT,tT,tT,fF,tT,tT,tT,tT,tT,tT,tT,fF,fF,fF,fF] rfl rfl au2 (fun _ _ _ h=>h) (Or.inl ⟨au6,?_⟩) ?_ ?_
   rotate_left
   ·intro w'
    go_simp
    with_reducible rfl
   rotate_left
   ·simp only [Act.put,List.setIfInBounds_toArray,List.set_cons_zero,List.set_cons_succ,i64_w,i32_w]
    rfl
   refine one_ (i:=1) (N:=some 14) #[tT,tT,tT,tT,tT,tT,fF,tT,tT,tT,tT,tT,tT,tT,fF,fF,fF,fF] rfl rfl au2 au1 (fun K hK=>?_)
   refine value_ (w1:=?_) (v:=?_) au6 rfl ?_ ?_
   rotate_left 2
   ·go_simp
    constructor
    ·rfl
    ·rfl
   refine hK.out _ _ (c1) (fun hHeld=>?_)
   clear hK K
   refine norm_ (a':=?_) ?_ ?_
   rotate_left
   ·show Act.put _ (some 14) _=_
    simp only [Act.put,List.setIfInBounds_toArray,List.set_cons_zero,List.set_cons_succ,i64_w,i32_w]
    rfl
   exact norm_ au24 (hCont 0 _ rfl)
 rintro _ w6 rfl
 have hHeld:=c1
 refine norm_ (a':=?_) ?_ ?_
 rotate_left
 ·simp only [putAll,Act.put,List.setIfInBounds_toArray,List.set_cons_zero,List.set_cons_succ]
  rfl
 refine pure_ (i:=6) (N:=some 19) (v:=?_) (a':=?_) #[tT,tT,tT,tT,tT,tT,tT,tT,tT,tT,tT,tT,tT,tT,fF,fF,fF,fF] rfl rfl au2 (fun _ _ _ h=>h) (Or.inl ⟨au6,?_⟩) ?_ ?_
 rotate_left
 ·intro w'
  go_simp
  with_reducible rfl
 rotate_left
 ·simp only [Act.put,List.setIfInBounds_toArray,List.set_cons_zero,List.set_cons_succ,i64_w,i32_w]
  rfl
 refine pure_ (i:=14) (N:=some 27) (v:=?_) (a':=?_) #[tT,tT,tT,tT,tT,tT,tT,tT,tT,tT,tT,tT,tT,tT,tT,fF,fF,fF] rfl rfl au2 (fun _ _ _ h=>h) (Or.inl ⟨au6,?_⟩) ?_ ?_
 rotate_left
 ·intro w'
  go_simp
  with_reducible rfl
 rotate_left
 ·simp only [Act.put,List.setIfInBounds_toArray,List.set_cons_zero,List.set_cons_succ,i64_w,i32_w]
  rfl
 refine one_ (i:=15) (N:=none) #[tT,tT,tT,tT,tT,tT,tT,tT,tT,tT,tT,tT,tT,tT,tT,tT,fF,fF] rfl rfl au2 au1 (fun K hK=>?_)
 refine skip_ (w1:=?_) au6 rfl ?_ ?_
 rotate_left
 ·go_simp
  rfl
 refine hK.out _ _ (HX1.out _) (fun hHeld=>?_)
 clear hK K
 refine pure_ (i:=16) (N:=some 28) (v:=?_) (a':=?_) #[tT,tT,tT,tT,tT,tT,tT,tT,tT,tT,tT,tT,tT,tT,tT,tT,tT,fF] rfl rfl au2 (fun _ _ _ h=>h) (Or.inl ⟨au6,?_⟩) ?_ ?_
 rotate_left
 ·intro w'
  go_simp
  with_reducible rfl
 rotate_left
 ·simp only [Act.put,List.setIfInBounds_toArray,List.set_cons_zero,List.set_cons_succ,i64_w,i32_w]
  rfl
 refine last_ (i:=17) (N:=none) #[tT,tT,tT,tT,tT,tT,tT,tT,tT,tT,tT,tT,tT,tT,tT,tT,tT,tT] rfl rfl au2 au1 (fun K hK=>?_)
 refine skip_ (w1:=?_) au6 rfl ?_ ?_
 rotate_left
 ·go_simp
  rfl
 refine hK.out _ _ ?_
 clear hK K
 refine done_ au2 ?_
 have z0:(a0_0.extract 0 (min (a0_0.size:Int) 200).toNat).size≤1000:=by rw [ByteArray.size_extract];omega
 have z1:(a0_1.extract 0 (min (a0_1.size:Int) 200).toNat).size≤1000:=by rw [ByteArray.size_extract];omega
 generalize hC0:a0_0.extract 0 (min (a0_0.size:Int) 200).toNat=C0 at *
 generalize hC1:a0_1.extract 0 (min (a0_1.size:Int) 200).toNat=C1 at *
 obtain ⟨c,rfl⟩:∃ c:Bs,C0=str c:=⟨C0.data.toList,(str_back C0).symm⟩
 obtain ⟨p,rfl⟩:∃ p:Bs,C1=str p:=⟨C1.data.toList,(str_back C1).symm⟩
 rw [msize] at z0 z1
 have hbs:Below w.heap.size w ((wf.setCell ⟨w.heap.size,0,none⟩ (.string (str c))).setCell ⟨w.heap.size,1,none⟩ (.string (str p))).drew:=below_drew ((HHA.out.setCell (p:=⟨w.heap.size,0,none⟩) (Nat.le_refl _) _).setCell (p:=⟨w.heap.size,1,none⟩) (Nat.le_refl _) _)
 have hbk:((wf.setCell ⟨w.heap.size,0,none⟩ (.string (str c))).setCell ⟨w.heap.size,1,none⟩ (.string (str p))).drew.heap[w.heap.size]?=some (.cells #[.string (str c),.string (str p)] 29 (0,0)):=blk_set (blk_set hal 0 (.string (str c))) 1 (.string (str p))
 have HHA:=xhid hbs
 obtain ⟨n1,s1,j1,j2⟩:=json_both c p z0 z1 20000000 (Nat.le_refl _)
 obtain ⟨n2,s2,x1,x2⟩:=xml_both c p z0 z1 20000000 (Nat.le_refl _)
 obtain ⟨cd,d1,d2⟩:=code_both a1 20000000 au1
 obtain ⟨e1,e2⟩:=shown_both p au0 20000000 au1
 have HGS:=xhid (HG0.out.below hbs)
 have HMS:=xhid (HM0.out.below hbs)
 have HBK:=xhid hbk
 generalize hws:((wf.setCell ⟨w.heap.size,0,none⟩ (.string (str c))).setCell ⟨w.heap.size,1,none⟩ (.string (str p))).drew=ws at *
 have HJ1:=xhid (fun w' (hb:Below ws.heap.size ws w')=>response_FaultJson.calls 20000000 (str c) (str p) n1 s1 w' (HGS.out.below hb) j1)
 have HJ2:=xhid (fun w'=>racewayref29_FaultJson.calls 20000000 (str c) (str p) n1 s1 w' j2)
 have HJ3:=xhid (fun w' (hb:Below ws.heap.size ws w')=>response_FaultXml.calls 20000000 (str c) (str p) n2 s2 w' (HMS.out.below hb) (HGS.out.below hb) x1)
 have HJ4:=xhid (fun w'=>racewayref29_FaultXml.calls 20000000 (str c) (str p) n2 s2 w' x2)
 have HK1:Hid (∀ w',Below ws.heap.size ws w'→Calls Tryd.prog 12 #[.int .i64 a1] w' fun e w''=>e=.returned (.string cd)∧Below w'.heap.size w' w''):=xhid (fun w' _=>(response_Code.calls 20000000 a1 cd w' d1).mono (fun _ _ h=>⟨h.1,h.2.below⟩))
 have HK2:Hid (∀ w',Below ws.heap.size ws w'→Calls Tryd.prog 13 #[.int .i64 a1] w' fun e w''=>e=.returned (.string cd)∧Below w'.heap.size w' w''):=xhid (fun w' _=>(racewayref29_Code.calls 20000000 a1 cd w' d2).mono (fun _ _ h=>⟨h.1,h.2.below⟩))
 have HK3:=xhid (fun w' (hb:Below ws.heap.size ws w')=>response_Shown.calls (str p) _ w' (HGS.out.below hb) e1)
 have HK4:=xhid (fun w' (hb:Below ws.heap.size ws w')=>racewayref29_Shown.calls 20000000 (str p) _ w' e2)
 have HK5:=xhid (fun w' (hb:Below ws.heap.size ws w')=>racewaylaw29_works.calls 20000000 true w' (HGS.out.below hb) works_is)
 have HC2:Hid (∀ w',Below ws.heap.size ws w'→w'.cell? ⟨w.heap.size,0,none⟩=some (.string (str c))∧w'.cell? ⟨w.heap.size,1,none⟩=some (.string (str p))):=xhid (fun w' hb=>by
  have e:=(hb.block _ (blk_lt HBK.out)).trans HBK.out
  exact ⟨(blk_cell e 0).trans rfl,(blk_cell e 1).trans rfl⟩)
 have HC:Hid (∀ w',Below ws.heap.size ws w'→w'.cell? ⟨w.heap.size,1,none⟩=some (.string (str p))):=xhid (fun w' hb=>(HC2.out w' hb).2)
 obtain ⟨y0,y1⟩:=HC2.out ws (Below.refl _ _)
 clear hbs hbk hal c0 c1 f0 f1 m0 m1 m2 m3 hHeld hC0 hC1 hws j1 j2 x1 x2 d1 d2 e1 e2 z0 z1 HX1 HLT HM HG
 generalize shown p=sp at *
 go_wp2_with (go_at_call 8;(with_reducible refine(HJ1.out _ (Below.refl _ _)).mono ?_);rintro e w1 ⟨rfl,hb⟩;have HA1:=xhid hb;obtain ⟨v0,v1⟩:=HC2.out _ HA1.out;clear hb y0 y1)
 go_wp2_with (go_at_call 9;(with_reducible refine(HJ2.out _).mono ?_);rintro e w2 ⟨rfl,hb⟩;have HA2:=xhid (HA1.out.trans (hb.mono HA1.out.size));obtain ⟨y0,y1⟩:=HC2.out _ HA2.out;clear hb v0 v1)
 go_wp2_with (go_at_call 10;(with_reducible refine(HJ3.out _ HA2.out).mono ?_);rintro e w3 ⟨rfl,hb⟩;have HA3:=xhid (HA2.out.trans (hb.mono HA2.out.size));obtain ⟨v0,v1⟩:=HC2.out _ HA3.out;clear hb y0 y1)
 go_wp2_with (go_at_call 11;(with_reducible refine(HJ4.out _).mono ?_);rintro e w4 ⟨rfl,hb⟩;have HA4:=xhid (HA3.out.trans (hb.mono HA3.out.size));clear hb v0 v1)
 have c6:=HC.out _ HA4.out
 have HB0:=xhid (below_drew HA4.out)
 refine start_ (n:=38) (S:=fun w'=>w'.cell? ⟨w.heap.size,1,none⟩=some (.string (str p))) (ds:=[]) #[fF,fF,fF,fF,fF,fF,fF,fF,fF,fF,fF,fF,fF,fF,fF,fF,fF,fF,fF,fF,fF,fF,fF,fF,fF,fF,fF,fF,fF,fF,fF,fF,fF,fF,fF,fF,fF,fF] au2 rfl rfl (c6) (fun hHeld=>?_)
 refine pure_ (i:=0) (N:=some 49) (v:=?_) (a':=?_) #[tT,fF,fF,fF,fF,fF,fF,fF,fF,fF,fF,fF,fF,fF,fF,fF,fF,fF,fF,fF,fF,fF,fF,fF,fF,fF,fF,fF,fF,fF,fF,fF,fF,fF,fF,fF,fF,fF] rfl rfl au2 (fun _ _ _ h=>h) (Or.inl ⟨au6,?_⟩) ?_ ?_
 rotate_left
 ·intro w'
  go_simp
  with_reducible rfl
 rotate_left
 ·simp only [Act.put,List.setIfInBounds_toArray,List.set_cons_zero,List.set_cons_succ,i64_w,i32_w]
  rfl
 refine pure_ (i:=1) (N:=some 50) (v:=?_) (a':=?_) #[tT,tT,fF,fF,fF,fF,fF,fF,fF,fF,fF,fF,fF,fF,fF,fF,fF,fF,fF,fF,fF,fF,fF,fF,fF,fF,fF,fF,fF,fF,fF,fF,fF,fF,fF,fF,fF,fF] rfl rfl au2 (fun _ _ _ h=>h) (Or.inl ⟨au6,?_⟩) ?_ ?_
 rotate_left
 ·intro w'
  go_simp
  with_reducible rfl
 rotate_left
 ·simp only [Act.put,List.setIfInBounds_toArray,List.set_cons_zero,List.set_cons_succ,i64_w,i32_w]
  rfl
 refine pure_ (i:=2) (N:=some 51) (v:=?_) (a':=?_) #[tT,tT,tT,fF,fF,fF,fF,fF,fF,fF,fF,fF,fF,fF,fF,fF,fF,fF,fF,fF,fF,fF,fF,fF,fF,fF,fF,fF,fF,fF,fF,fF,fF,fF,fF,fF,fF,fF] rfl rfl au2 (fun _ _ _ h=>h) (Or.inl ⟨au6,?_⟩) ?_ ?_
 rotate_left
 ·intro w'
  go_simp
  with_reducible rfl
 rotate_left
 ·simp only [Act.put,List.setIfInBounds_toArray,List.set_cons_zero,List.set_cons_succ,i64_w,i32_w]
  rfl
 refine pure_ (i:=3) (N:=some 52) (v:=?_) (a':=?_) #[tT,tT,tT,tT,fF,fF,fF,fF,fF,fF,fF,fF,fF,fF,fF,fF,fF,fF,fF,fF,fF,fF,fF,fF,fF,fF,fF,fF,fF,fF,fF,fF,fF,fF,fF,fF,fF,fF] rfl rfl au2 (fun _ _ _ h=>h) (Or.inl ⟨au6,?_⟩) ?_ ?_
 rotate_left
 ·intro w'
  go_simp
  with_reducible rfl
 rotate_left
 ·simp only [Act.put,List.setIfInBounds_toArray,List.set_cons_zero,List.set_cons_succ,i64_w,i32_w]
  rfl
 refine pure_ (i:=4) (N:=some 53) (v:=?_) (a':=?_) #[tT,tT,tT,tT,tT,fF,fF,fF,fF,fF,fF,fF,fF,fF,fF,fF,fF,fF,fF,fF,fF,fF,fF,fF,fF,fF,fF,fF,fF,fF,fF,fF,fF,fF,fF,fF,fF,fF] rfl rfl au2 (fun _ _ _ h=>h) (Or.inl ⟨au6,?_⟩) ?_ ?_
 rotate_left
 ·intro w'
  go_simp
  with_reducible rfl
 rotate_left
 ·simp only [Act.put,List.setIfInBounds_toArray,List.set_cons_zero,List.set_cons_succ,i64_w,i32_w]
  rfl
 refine pure_ (i:=5) (N:=some 54) (v:=?_) (a':=?_) #[tT,tT,tT,tT,tT,tT,fF,fF,fF,fF,fF,fF,fF,fF,fF,fF,fF,fF,fF,fF,fF,fF,fF,fF,fF,fF,fF,fF,fF,fF,fF,fF,fF,fF,fF,fF,fF,fF] rfl rfl au2 (fun _ _ _ h=>h) (Or.inl ⟨au6,?_⟩) ?_ ?_
 rotate_left
 ·intro w'
  go_simp
  with_reducible rfl
 rotate_left
 ·simp only [Act.put,List.setIfInBounds_toArray,List.set_cons_zero,List.set_cons_succ,i64_w,i32_w]
  rfl
 refine pure_ (i:=6) (N:=some 55) (v:=?_) (a':=?_) #[tT,tT,tT,tT,tT,tT,tT,fF,fF,fF,fF,fF,fF,fF,fF,fF,fF,fF,fF,fF,fF,fF,fF,fF,fF,fF,fF,fF,fF,fF,fF,fF,fF,fF,fF,fF,fF,fF] rfl rfl au2 (fun _ _ _ h=>h) (Or.inl ⟨au6,?_⟩) ?_ ?_
 rotate_left
 ·intro w'
  go_simp
  with_reducible rfl
 rotate_left
 ·simp only [Act.put,List.setIfInBounds_toArray,List.set_cons_zero,List.set_cons_succ,i64_w,i32_w]
  rfl
 refine pure_ (i:=7) (N:=some 56) (v:=?_) (a':=?_) #[tT,tT,tT,tT,tT,tT,tT,tT,fF,fF,fF,fF,fF,fF,fF,fF,fF,fF,fF,fF,fF,fF,fF,fF,fF,fF,fF,fF,fF,fF,fF,fF,fF,fF,fF,fF,fF,fF] rfl rfl au2 (fun _ _ _ h=>h) (Or.inl ⟨au6,?_⟩) ?_ ?_
 rotate_left
 ·intro w'
  go_simp
  with_reducible rfl
 rotate_left
 ·simp only [Act.put,List.setIfInBounds_toArray,List.set_cons_zero,List.set_cons_succ,i64_w,i32_w]
  rfl
 refine pure_ (i:=8) (N:=some 57) (v:=?_) (a':=?_) #[tT,tT,tT,tT,tT,tT,tT,tT,tT,fF,fF,fF,fF,fF,fF,fF,fF,fF,fF,fF,fF,fF,fF,fF,fF,fF,fF,fF,fF,fF,fF,fF,fF,fF,fF,fF,fF,fF] rfl rfl au2 (fun _ _ _ h=>h) (Or.inl ⟨au6,?_⟩) ?_ ?_
 rotate_left
 ·intro w'
  go_simp
  with_reducible rfl
 rotate_left
 ·simp only [Act.put,List.setIfInBounds_toArray,List.set_cons_zero,List.set_cons_succ,i64_w,i32_w]
  rfl
 refine pure_ (i:=9) (N:=some 58) (v:=?_) (a':=?_) #[tT,tT,tT,tT,tT,tT,tT,tT,tT,tT,fF,fF,fF,fF,fF,fF,fF,fF,fF,fF,fF,fF,fF,fF,fF,fF,fF,fF,fF,fF,fF,fF,fF,fF,fF,fF,fF,fF] rfl rfl au2 (fun _ _ _ h=>h) (Or.inl ⟨au6,?_⟩) ?_ ?_
 rotate_left
 ·intro w'
  go_simp
  with_reducible rfl
 rotate_left
 ·simp only [Act.put,List.setIfInBounds_toArray,List.set_cons_zero,List.set_cons_succ,i64_w,i32_w]
  rfl
 refine pure_ (i:=10) (N:=some 59) (v:=?_) (a':=?_) #[tT,tT,tT,tT,tT,tT,tT,tT,tT,tT,tT,fF,fF,fF,fF,fF,fF,fF,fF,fF,fF,fF,fF,fF,fF,fF,fF,fF,fF,fF,fF,fF,fF,fF,fF,fF,fF,fF] rfl rfl au2 (fun _ _ _ h=>h) (Or.inl ⟨au6,?_⟩) ?_ ?_
 rotate_left
 ·intro w'
  go_simp
  with_reducible rfl
 rotate_left
 ·simp only [Act.put,List.setIfInBounds_toArray,List.set_cons_zero,List.set_cons_succ,i64_w,i32_w]
  rfl
 refine pure_ (i:=11) (N:=some 60) (v:=?_) (a':=?_) #[tT,tT,tT,tT,tT,tT,tT,tT,tT,tT,tT,tT,fF,fF,fF,fF,fF,fF,fF,fF,fF,fF,fF,fF,fF,fF,fF,fF,fF,fF,fF,fF,fF,fF,fF,fF,fF,fF] rfl rfl au2 (fun _ _ _ h=>h) (Or.inl ⟨au6,?_⟩) ?_ ?_
 rotate_left
 ·intro w'
  go_simp
  with_reducible rfl
 rotate_left
 ·simp only [Act.put,List.setIfInBounds_toArray,List.set_cons_zero,List.set_cons_succ,i64_w,i32_w]
  rfl
 refine pure_ (i:=12) (N:=some 61) (v:=?_) (a':=?_) #[tT,tT,tT,tT,tT,tT,tT,tT,tT,tT,tT,tT,tT,fF,fF,fF,fF,fF,fF,fF,fF,fF,fF,fF,fF,fF,fF,fF,fF,fF,fF,fF,fF,fF,fF,fF,fF,fF] rfl rfl au2 (fun _ _ _ h=>h) (Or.inl ⟨au6,?_⟩) ?_ ?_
 rotate_left
 ·intro w'
  go_simp
  with_reducible rfl
 rotate_left
 ·simp only [Act.put,List.setIfInBounds_toArray,List.set_cons_zero,List.set_cons_succ,i64_w,i32_w]
  rfl
 refine pure_ (i:=13) (N:=some 62) (v:=?_) (a':=?_) #[tT,tT,tT,tT,tT,tT,tT,tT,tT,tT,tT,tT,tT,tT,fF,fF,fF,fF,fF,fF,fF,fF,fF,fF,fF,fF,fF,fF,fF,fF,fF,fF,fF,fF,fF,fF,fF,fF] rfl rfl au2 (fun _ _ _ h=>h) (Or.inl ⟨au6,?_⟩) ?_ ?_
 rotate_left
 ·intro w'
  go_simp
  with_reducible rfl
 rotate_left
 ·simp only [Act.put,List.setIfInBounds_toArray,List.set_cons_zero,List.set_cons_succ,i64_w,i32_w]
  rfl
 refine pure_ (i:=14) (N:=some 63) (v:=?_) (a':=?_) #[tT,tT,tT,tT,tT,tT,tT,tT,tT,tT,tT,tT,tT,tT,tT,fF,fF,fF,fF,fF,fF,fF,fF,fF,fF,fF,fF,fF,fF,fF,fF,fF,fF,fF,fF,fF,fF,fF] rfl rfl au2 (fun _ _ _ h=>h) (Or.inl ⟨au6,?_⟩) ?_ ?_
 rotate_left
 ·intro w'
  go_simp
  with_reducible rfl
 rotate_left
 ·simp only [Act.put,List.setIfInBounds_toArray,List.set_cons_zero,List.set_cons_succ,i64_w,i32_w]
  rfl
 refine pure_ (i:=15) (N:=some 64) (v:=?_) (a':=?_) #[tT,tT,tT,tT,tT,tT,tT,tT,tT,tT,tT,tT,tT,tT,tT,tT,fF,fF,fF,fF,fF,fF,fF,fF,fF,fF,fF,fF,fF,fF,fF,fF,fF,fF,fF,fF,fF,fF] rfl rfl au2 (fun _ _ _ h=>h) (Or.inl ⟨au6,?_⟩) ?_ ?_
 rotate_left
 ·intro w'
  go_simp
  with_reducible rfl
 rotate_left
 ·simp only [Act.put,List.setIfInBounds_toArray,List.set_cons_zero,List.set_cons_succ,i64_w,i32_w]
  rfl
 refine pure_ (i:=16) (N:=some 65) (v:=?_) (a':=?_) #[tT,tT,tT,tT,tT,tT,tT,tT,tT,tT,tT,tT,tT,tT,tT,tT,tT,fF,fF,fF,fF,fF,fF,fF,fF,fF,fF,fF,fF,fF,fF,fF,fF,fF,fF,fF,fF,fF] rfl rfl au2 (fun _ _ _ h=>h) (Or.inl ⟨au6,?_⟩) ?_ ?_
 rotate_left
 ·intro w'
  go_simp
  with_reducible rfl
 rotate_left
 ·simp only [Act.put,List.setIfInBounds_toArray,List.set_cons_zero,List.set_cons_succ,i64_w,i32_w]
  rfl
 refine pure_ (i:=17) (N:=some 66) (v:=?_) (a':=?_) #[tT,tT,tT,tT,tT,tT,tT,tT,tT,tT,tT,tT,tT,tT,tT,tT,tT,tT,fF,fF,fF,fF,fF,fF,fF,fF,fF,fF,fF,fF,fF,fF,fF,fF,fF,fF,fF,fF] rfl rfl au2 (fun _ _ _ h=>h) (Or.inl ⟨au6,?_⟩) ?_ ?_
 rotate_left
 ·intro w'
  go_simp
  with_reducible rfl
 rotate_left
 ·simp only [Act.put,List.setIfInBounds_toArray,List.set_cons_zero,List.set_cons_succ,i64_w,i32_w]
  rfl
 refine pure_ (i:=18) (N:=some 67) (v:=?_) (a':=?_) #[tT,tT,tT,tT,tT,tT,tT,tT,tT,tT,tT,tT,tT,tT,tT,tT,tT,tT,tT,fF,fF,fF,fF,fF,fF,fF,fF,fF,fF,fF,fF,fF,fF,fF,fF,fF,fF,fF] rfl rfl au2 (fun _ _ _ h=>h) (Or.inl ⟨au6,?_⟩) ?_ ?_
 rotate_left
 ·intro w'
  go_simp
  with_reducible rfl
 rotate_left
 ·simp only [Act.put,List.setIfInBounds_toArray,List.set_cons_zero,List.set_cons_succ,i64_w,i32_w]
  rfl
 refine pure_ (i:=19) (N:=some 68) (v:=?_) (a':=?_) #[tT,tT,tT,tT,tT,tT,tT,tT,tT,tT,tT,tT,tT,tT,tT,tT,tT,tT,tT,tT,fF,fF,fF,fF,fF,fF,fF,fF,fF,fF,fF,fF,fF,fF,fF,fF,fF,fF] rfl rfl au2 (fun _ _ _ h=>h) (Or.inl ⟨au6,?_⟩) ?_ ?_
 rotate_left
 ·intro w'
  go_simp
  with_reducible rfl
 rotate_left
 ·simp only [Act.put,List.setIfInBounds_toArray,List.set_cons_zero,List.set_cons_succ,i64_w,i32_w]
  rfl
 refine pure_ (i:=21) (N:=some 70) (v:=?_) (a':=?_) #[tT,tT,tT,tT,tT,tT,tT,tT,tT,tT,tT,tT,tT,tT,tT,tT,tT,tT,tT,tT,fF,tT,fF,fF,fF,fF,fF,fF,fF,fF,fF,fF,fF,fF,fF,fF,fF,fF] rfl rfl au2 (fun _ _ _ h=>h) (Or.inl ⟨au6,?_⟩) ?_ ?_
 rotate_left
 ·intro w'
  go_simp
  with_reducible rfl
 rotate_left
 ·simp only [Act.put,List.setIfInBounds_toArray,List.set_cons_zero,List.set_cons_succ,i64_w,i32_w]
  rfl
 refine one_ (i:=20) (N:=some 69) #[tT,tT,tT,tT,tT,tT,tT,tT,tT,tT,tT,tT,tT,tT,tT,tT,tT,tT,tT,tT,tT,tT,fF,fF,fF,fF,fF,fF,fF,fF,fF,fF,fF,fF,fF,fF,fF,fF] rfl rfl au2 au1 (fun K hK=>?_)
 refine goes_ Tryd.func12 au2 rfl #[.int .i64 a1] au6 rfl rfl au15 ?_
 with_reducible refine(HK1.out _ HB0.out).mono ?_
 rintro e u0 ⟨rfl,hb⟩
 refine ⟨_,rfl,?_⟩
 have HB1:=xhid (HB0.out.trans (hb.mono HB0.out.size))
 clear hb
 refine hK.out _ _ (HC.out _ HB1.out) (fun hHeld=>?_)
 clear hK K
 refine norm_ (a':=?_) ?_ ?_
 rotate_left
 ·show Act.put _ (some 69) _=_
  simp only [Act.put,List.setIfInBounds_toArray,List.set_cons_zero,List.set_cons_succ,i64_w,i32_w]
  rfl
 refine one_ (i:=22) (N:=some 71) #[tT,tT,tT,tT,tT,tT,tT,tT,tT,tT,tT,tT,tT,tT,tT,tT,tT,tT,tT,tT,tT,tT,tT,fF,fF,fF,fF,fF,fF,fF,fF,fF,fF,fF,fF,fF,fF,fF] rfl rfl au2 au1 (fun K hK=>?_)
 refine goes_ Tryd.func13 au2 rfl #[.int .i64 a1] au6 rfl rfl au15 ?_
 with_reducible refine(HK2.out _ HB1.out).mono ?_
 rintro e u1 ⟨rfl,hb⟩
 refine ⟨_,rfl,?_⟩
 have HB2:=xhid (HB1.out.trans (hb.mono HB1.out.size))
 clear hb
 refine hK.out _ _ (HC.out _ HB2.out) (fun hHeld=>?_)
 clear hK K
 refine norm_ (a':=?_) ?_ ?_
 rotate_left
 ·show Act.put _ (some 71) _=_
  simp only [Act.put,List.setIfInBounds_toArray,List.set_cons_zero,List.set_cons_succ,i64_w,i32_w]
  rfl
 refine pure_ (i:=23) (N:=some 72) (v:=?_) (a':=?_) #[tT,tT,tT,tT,tT,tT,tT,tT,tT,tT,tT,tT,tT,tT,tT,tT,tT,tT,tT,tT,tT,tT,tT,tT,fF,fF,fF,fF,fF,fF,fF,fF,fF,fF,fF,fF,fF,fF] rfl rfl au2 (fun _ _ _ h=>h) (Or.inl ⟨au6,?_⟩) ?_ ?_
 rotate_left
 ·intro w'
  go_simp
  with_reducible rfl
 rotate_left
 ·simp only [Act.put,List.setIfInBounds_toArray,List.set_cons_zero,List.set_cons_succ,i64_w,i32_w]
  rfl
 refine pure_ (i:=24) (N:=some 73) (v:=?_) (a':=?_) #[tT,tT,tT,tT,tT,tT,tT,tT,tT,tT,tT,tT,tT,tT,tT,tT,tT,tT,tT,tT,tT,tT,tT,tT,tT,fF,fF,fF,fF,fF,fF,fF,fF,fF,fF,fF,fF,fF] rfl rfl au2 (fun _ _ _ h=>h) (Or.inl ⟨au6,?_⟩) ?_ ?_
 rotate_left
 ·intro w'
  go_simp
  with_reducible rfl
 rotate_left
 ·simp only [Act.put,List.setIfInBounds_toArray,List.set_cons_zero,List.set_cons_succ,i64_w,i32_w]
  rfl
 refine pure_ (i:=25) (N:=some 74) (v:=?_) (a':=?_) #[tT,tT,tT,tT,tT,tT,tT,tT,tT,tT,tT,tT,tT,tT,tT,tT,tT,tT,tT,tT,tT,tT,tT,tT,tT,tT,fF,fF,fF,fF,fF,fF,fF,fF,fF,fF,fF,fF] rfl rfl au2 (fun _ _ _ h=>h) (Or.inl ⟨au6,?_⟩) ?_ ?_
 rotate_left
 ·intro w'
  go_simp
  with_reducible rfl
 rotate_left
 ·simp only [Act.put,List.setIfInBounds_toArray,List.set_cons_zero,List.set_cons_succ,i64_w,i32_w]
  rfl
 refine pure_ (i:=26) (N:=some 75) (v:=?_) (a':=?_) #[tT,tT,tT,tT,tT,tT,tT,tT,tT,tT,tT,tT,tT,tT,tT,tT,tT,tT,tT,tT,tT,tT,tT,tT,tT,tT,tT,fF,fF,fF,fF,fF,fF,fF,fF,fF,fF,fF] rfl rfl au2 (fun _ _ _ h=>h) (Or.inl ⟨au6,?_⟩) ?_ ?_
 rotate_left
 ·intro w'
  go_simp
  with_reducible rfl
 rotate_left
 ·simp only [Act.put,List.setIfInBounds_toArray,List.set_cons_zero,List.set_cons_succ,i64_w,i32_w]
  rfl
 refine pure_ (i:=29) (N:=some 78) (v:=?_) (a':=?_) #[tT,tT,tT,tT,tT,tT,tT,tT,tT,tT,tT,tT,tT,tT,tT,tT,tT,tT,tT,tT,tT,tT,tT,tT,tT,tT,tT,fF,fF,tT,fF,fF,fF,fF,fF,fF,fF,fF] rfl rfl au2 (fun _ _ _ h=>h) (Or.inl ⟨au6,?_⟩) ?_ ?_
 rotate_left
 ·intro w'
  go_simp
  with_reducible rfl
 rotate_left
 ·simp only [Act.put,List.setIfInBounds_toArray,List.set_cons_zero,List.set_cons_succ,i64_w,i32_w]
  rfl
 refine take_ (i:=27) (N:=some 76) (v:=?_) (a':=?_) #[tT,tT,tT,tT,tT,tT,tT,tT,tT,tT,tT,tT,tT,tT,tT,tT,tT,tT,tT,tT,tT,tT,tT,tT,tT,tT,tT,tT,fF,tT,fF,fF,fF,fF,fF,fF,fF,fF] rfl rfl au2 (fun _ _ _ h=>h) (Or.inl ⟨au6,?_⟩) hHeld ?_ ?_
 rotate_left
 ·intro w' s0
  go_simp
  with_reducible rfl
 rotate_left
 ·simp only [Act.put,List.setIfInBounds_toArray,List.set_cons_zero,List.set_cons_succ,i64_w,i32_w]
  rfl
 refine take_ (i:=30) (N:=some 79) (v:=?_) (a':=?_) #[tT,tT,tT,tT,tT,tT,tT,tT,tT,tT,tT,tT,tT,tT,tT,tT,tT,tT,tT,tT,tT,tT,tT,tT,tT,tT,tT,tT,fF,tT,tT,fF,fF,fF,fF,fF,fF,fF] rfl rfl au2 (fun _ _ _ h=>h) (Or.inl ⟨au6,?_⟩) hHeld ?_ ?_
 rotate_left
 ·intro w' s0
  go_simp
  with_reducible rfl
 rotate_left
 ·simp only [Act.put,List.setIfInBounds_toArray,List.set_cons_zero,List.set_cons_succ,i64_w,i32_w]
  rfl
 refine one_ (i:=28) (N:=some 77) #[tT,tT,tT,tT,tT,tT,tT,tT,tT,tT,tT,tT,tT,tT,tT,tT,tT,tT,tT,tT,tT,tT,tT,tT,tT,tT,tT,tT,tT,tT,tT,fF,fF,fF,fF,fF,fF,fF] rfl rfl au2 au1 (fun K hK=>?_)
 refine goes_ Tryd.func14 au2 rfl #[.string (str p)] au6 rfl rfl au15 ?_
 with_reducible refine(HK3.out _ HB2.out).mono ?_
 rintro e u2 ⟨rfl,hb⟩
 refine ⟨_,rfl,?_⟩
 have HB3:=xhid (HB2.out.trans (hb.mono HB2.out.size))
 clear hb
 refine hK.out _ _ (HC.out _ HB3.out) (fun hHeld=>?_)
 clear hK K
 refine norm_ (a':=?_) ?_ ?_
 rotate_left
 ·show Act.put _ (some 77) _=_
  simp only [Act.put,List.setIfInBounds_toArray,List.set_cons_zero,List.set_cons_succ,i64_w,i32_w]
  rfl
 refine one_ (i:=31) (N:=some 80) #[tT,tT,tT,tT,tT,tT,tT,tT,tT,tT,tT,tT,tT,tT,tT,tT,tT,tT,tT,tT,tT,tT,tT,tT,tT,tT,tT,tT,tT,tT,tT,tT,fF,fF,fF,fF,fF,fF] rfl rfl au2 au1 (fun K hK=>?_)
 refine goes_ Tryd.func15 au2 rfl #[.string (str p)] au6 rfl rfl au15 ?_
 with_reducible refine(HK4.out _ HB3.out).mono ?_
 rintro e u3 ⟨rfl,hb⟩
 refine ⟨_,rfl,?_⟩
 have HB4:=xhid (HB3.out.trans (hb.mono HB3.out.size))
 clear hb
 refine hK.out _ _ (HC.out _ HB4.out) (fun hHeld=>?_)
 clear hK K
 refine norm_ (a':=?_) ?_ ?_
 rotate_left
 ·show Act.put _ (some 80) _=_
  simp only [Act.put,List.setIfInBounds_toArray,List.set_cons_zero,List.set_cons_succ,i64_w,i32_w]
  rfl
 refine pure_ (i:=32) (N:=some 81) (v:=?_) (a':=?_) #[tT,tT,tT,tT,tT,tT,tT,tT,tT,tT,tT,tT,tT,tT,tT,tT,tT,tT,tT,tT,tT,tT,tT,tT,tT,tT,tT,tT,tT,tT,tT,tT,tT,fF,fF,fF,fF,fF] rfl rfl au2 (fun _ _ _ h=>h) (Or.inl ⟨au6,?_⟩) ?_ ?_
 rotate_left
 ·intro w'
  go_simp
  with_reducible rfl
 rotate_left
 ·simp only [Act.put,List.setIfInBounds_toArray,List.set_cons_zero,List.set_cons_succ,i64_w,i32_w]
  rfl
 refine pure_ (i:=33) (N:=some 82) (v:=?_) (a':=?_) #[tT,tT,tT,tT,tT,tT,tT,tT,tT,tT,tT,tT,tT,tT,tT,tT,tT,tT,tT,tT,tT,tT,tT,tT,tT,tT,tT,tT,tT,tT,tT,tT,tT,tT,fF,fF,fF,fF] rfl rfl au2 (fun _ _ _ h=>h) (Or.inl ⟨au6,?_⟩) ?_ ?_
 rotate_left
 ·intro w'
  go_simp
  with_reducible rfl
 rotate_left
 ·simp only [Act.put,List.setIfInBounds_toArray,List.set_cons_zero,List.set_cons_succ,i64_w,i32_w]
  rfl
 refine pure_ (i:=34) (N:=some 83) (v:=?_) (a':=?_) #[tT,tT,tT,tT,tT,tT,tT,tT,tT,tT,tT,tT,tT,tT,tT,tT,tT,tT,tT,tT,tT,tT,tT,tT,tT,tT,tT,tT,tT,tT,tT,tT,tT,tT,tT,fF,fF,fF] rfl rfl au2 (fun _ _ _ h=>h) (Or.inl ⟨au6,?_⟩) ?_ ?_
 rotate_left
 ·intro w'
  go_simp
  with_reducible rfl
 rotate_left
 ·simp only [Act.put,List.setIfInBounds_toArray,List.set_cons_zero,List.set_cons_succ,i64_w,i32_w]
  rfl
 refine one_ (i:=35) (N:=some 84) #[tT,tT,tT,tT,tT,tT,tT,tT,tT,tT,tT,tT,tT,tT,tT,tT,tT,tT,tT,tT,tT,tT,tT,tT,tT,tT,tT,tT,tT,tT,tT,tT,tT,tT,tT,tT,fF,fF] rfl rfl au2 au1 (fun K hK=>?_)
 refine goes_ Tryd.func7 au2 rfl #[] au6 rfl rfl (by simp only [List.map_toArray,List.map_cons,List.map_nil]<;>rfl) ?_
 with_reducible refine(HK5.out _ HB4.out).mono ?_
 rintro e u4 ⟨rfl,hb⟩
 refine ⟨_,rfl,?_⟩
 have HB5:=xhid (HB4.out.trans (hb.mono HB4.out.size))
 clear hb
 refine hK.out _ _ (HC.out _ HB5.out) (fun hHeld=>?_)
 clear hK K
 refine norm_ (a':=?_) ?_ ?_
 rotate_left
 ·show Act.put _ (some 84) _=_
  simp only [Act.put,List.setIfInBounds_toArray,List.set_cons_zero,List.set_cons_succ,i64_w,i32_w]
  rfl
 refine pure_ (i:=36) (N:=some 85) (v:=?_) (a':=?_) #[tT,tT,tT,tT,tT,tT,tT,tT,tT,tT,tT,tT,tT,tT,tT,tT,tT,tT,tT,tT,tT,tT,tT,tT,tT,tT,tT,tT,tT,tT,tT,tT,tT,tT,tT,tT,tT,fF] rfl rfl au2 (fun _ _ _ h=>h) (Or.inl ⟨au6,?_⟩) ?_ ?_
 rotate_left
 ·intro w'
  go_simp
  with_reducible rfl
 rotate_left
 ·simp only [Act.put,List.setIfInBounds_toArray,List.set_cons_zero,List.set_cons_succ,i64_w,i32_w]
  rfl
 refine pure_ (i:=37) (N:=some 4) (v:=?_) (a':=?_) #[tT,tT,tT,tT,tT,tT,tT,tT,tT,tT,tT,tT,tT,tT,tT,tT,tT,tT,tT,tT,tT,tT,tT,tT,tT,tT,tT,tT,tT,tT,tT,tT,tT,tT,tT,tT,tT,tT] rfl rfl au2 (fun _ _ _ h=>h) (Or.inl ⟨au6,?_⟩) ?_ ?_
 rotate_left
 ·intro w'
  go_simp
  with_reducible rfl
 rotate_left
 ·simp only [Act.put,List.setIfInBounds_toArray,List.set_cons_zero,List.set_cons_succ,i64_w,i32_w]
  rfl
 refine done_ au2 ?_
 go_wp2
 go_ret
 exact ⟨rfl,HHA.out.trans (HB5.out.mono HHA.out.size)⟩
end Go.Proofs.YtjehflambbjoaaaDoor.X
namespace Go.Proofs.YtjehflambbjoaaaDoor.Pure
open Go.Proofs.YtjehflambbjoaaaDoor.X
theorem ResponseFaults (a0 a1:ByteArray) (a2:Int) (h:(Lit.int .i64 a2).wf=true):∃ k,racewaylaw29_ResponseFaults.f k a0 a1 a2=some true:=⟨0,rfl⟩
end Go.Proofs.YtjehflambbjoaaaDoor.Pure
namespace Go.Proofs.YtjehflambbjoaaaDoor.X
open Go
section
variable {H:Type} {enc:TypeId × Value→H}
theorem handed_laid_shaped {a:Assume} {C:Checked} {os:Os} {f:FuncId} {fn:Func} {s:ChangeSpec} {conds:List PathCond} {apart fresh handsOn again:Bool} {X:World→Array Value→Prop}
  (hX:∀(w w':World) (args:Array Value),w.heap=w'.heap→X w args→X w' args)
  (own:ownKnob C.prog.godebug=none) (started:os.Started) (noInit:C.prog.inits.idxOf? f=none) (hfn:C.prog.funcs[f]?=some fn)
  (witness:∃(w:World) (tape:Tape) (i:Input),w.os=os∧(w.forCall tape i).Shaped C.prog∧i.vars=[]∧Input.okWide C.prog (w.forCall tape i) .any w.heap.size f i ∧
   ((s.pre enc C.prog fn conds apart (w.forCall tape i).memory i.args∧X (w.forCall tape i).memory i.args)∧sizedMet enc C.prog fn (OpenSpec.ofChange s) apart (w.forCall tape i).memory i.args)∧a.holds C.prog (lone (Frame.enter C.prog f i.args .normal) [] (w.forCall tape i)))
  (contract:∀(W:World) (base:Nat) (args:Array Value) (ds gs:List (DataW H)) (before:List MemPlace),
   (∀(j:Nat) t v,fn.params[j]?=some t→args[j]?=some v→Value.okWide C.prog W .any base t v) →
   DataW.Whole enc C.prog fn.params.toList s.vars apart W args.toList ds gs before →
   conds.all (PathCond.test C.prog ⟨fn.params.toList,ds,s.plain.varTypes C.prog,gs⟩)=true →
   (DataW.weightsEach C.prog (fn.params.toList++s.plain.varTypes C.prog) (ds++gs)).all (·≤reachBytes)=true→X W args→W.ShapedOpen C.prog →
   a.holds C.prog (lone (Frame.enter C.prog f args .normal) [] W) →
   Calls C.prog f args W fun e W'=>∃ v,e=.returned v∧s.post enc C.prog fn apart fresh handsOn again W args v W') :
  ReturnsInHanded a C os f .any (fun w args=>(s.pre enc C.prog fn conds apart w args∧X w args)∧sizedMet enc C.prog fn (OpenSpec.ofChange s) apart w args) (s.post enc C.prog fn apart fresh handsOn again):=by
 refine returnsInHanded_of_calls own started noInit witness ?_
 intro w tape i _ hsh _ hok hpre hholds
 obtain ⟨_,_,_,fn',hfn',_,_,_,_,hval⟩:=hok
 have e:fn'=fn:=Option.some.inj (hfn'.symm.trans hfn)
 subst e
 obtain ⟨⟨⟨ds,gs,before,hw,hc⟩,hx⟩,hz⟩:=hpre
 have hw':=DataW.Whole.of_heap (w':=w.forCall tape i) au6 hw
 refine(contract (w.forCall tape i) w.heap.size i.args ds gs before hval hw' hc (hz.weights hw) (hX _ _ _ au6 hx) hsh hholds).mono fun e W' ⟨v,he,hp⟩=>?_
 subst he
 exact ChangeSpec.post_blind hp
end
end Go.Proofs.YtjehflambbjoaaaDoor.X
namespace Go.Proofs.YtjehflambbjoaaaDoor.X
open Go.RowKit Go.ChangeShapes Go.WideShapes Go.ChangeAt
open Go.ChangeMaps (open_string shut_string)
set_option maxRecDepth 100000 in
theorem open_fault {H:Type} {enc:TypeId × Value→H} {w:World} {base:Nat} {spare:Nat→Bool} {held:Bool} {r:Reach} {b0:Nat} {v:Value} {d:DataW H} {p:List MemPlace}
  (hv:Value.okWide Tryd.prog w r b0 29 v) (h:DataW.Trod enc Tryd.prog w base spare held 29 v d p) :
  ∃(s t:ByteArray),v=.agg #[.string s,.string t]∧p=[]∧s.size≤maxLen∧t.size≤maxLen ∧
   ∀(w':World) (base':Nat) (spare':Nat→Bool) (held':Bool),DataW.Trod enc Tryd.prog w' base' spare' held' 29 (.agg #[.string s,.string t]) d []:=by
 obtain ⟨v0,v1,y0,y1,n,rfl,rfl,rfl,h0,h1⟩:=Joins.open_agg2 Tryd.underlying29 au2 au2 hv h
 obtain ⟨s,e0,rfl,w0⟩:=DataW.trod_string Tryd.underlying9 h0
 obtain ⟨t,e1,rfl,w1⟩:=DataW.trod_string Tryd.underlying9 h1
 simp only [List.cons.injEq,and_true] at e0 e1
 subst e0 e1
 refine ⟨s,t,rfl,rfl,w0,w1,fun w' base' spare' held'=>?_⟩
 exact Joins.shut_agg2 (y0:=(.lit (.string s.data.toList),[])) (y1:=(.lit (.string t.data.toList),[])) Tryd.underlying29 au2 au2
  ⟨1,by simp [DataW.trod,Tryd.underlying9,w0]⟩ ⟨1,by simp [DataW.trod,Tryd.underlying9,w1]⟩
end Go.Proofs.YtjehflambbjoaaaDoor.X
namespace Go.Proofs.YtjehflambbjoaaaDoor.X
open Go.RowKit Go.Proofs.YtjehflambbjoaaaDoorW.PrintWords
set_option maxRecDepth 100000 in
theorem u8x:Go.Proofs.U8Extra Tryd.prog vren:=⟨au2,au2,au2,au2,au2,au2,au2⟩
theorem u8t:Go.Proofs.U8Types Tryd.prog vren:=Go.Proofs.U8Types.of196 vlays
theorem GlobU8.laid {W : World} {l : List (String × DataW Unit)} (hL : laidMet Tryd.prog l W) (h1 : ("unicode/utf8.first", Go.Lib.firstData) ∈ l) (h2 : ("unicode/utf8.acceptRanges", Go.Lib.acceptData) ∈ l) : GlobU8 W :=
 GlobU8.of (Go.Proofs.utf8Tabs_of_readsT u8t u8x (Go.Lib.laidMet.reads hL h1) (Go.Lib.laidMet.reads hL h2))
theorem GlobU8.laid2 {W : World} {l : List (String × DataW Unit)} (hL : laidMet Tryd.prog l W) {d1 d2 : DataW Unit} (h1 : ("unicode/utf8.first", d1) ∈ l) (e1 : d1 = Go.Lib.firstData) (h2 : ("unicode/utf8.acceptRanges", d2) ∈ l) (e2 : d2 = Go.Lib.acceptData) : GlobU8 W :=
 GlobU8.laid hL (e1 ▸ h1) (e2 ▸ h2)
end Go.Proofs.YtjehflambbjoaaaDoor.X
