/-
  What the claim's law rests on, part 2 of 7: printed walks, externals, plain lemmas; conditions: none of its own.
-/
import Derived.ArgAppend
import Derived.Below
import Derived.BigQuiet
import Derived.BigRegion
import Derived.Deep.AppendLies
import Derived.Deep.CutBlock
import Derived.Deep.DeepCutAuto
import Derived.Deep.Draws
import Derived.Deep.LoopGhost
import Derived.Deep.OwnRows
import Derived.Deep.QuietTactic
import Derived.Deep.RegionHeld3
import Derived.Defers
import Derived.KernelRfl
import Derived.Laws.BitsLemmas
import Derived.Laws.BytesArg
import Derived.Laws.Cover4
import Derived.Laws.Externs
import Derived.Laws.IdiomCopy
import Derived.Laws.MakeOwn
import Derived.Laws.OwnMore
import Derived.Laws.Pointers
import Derived.Laws.Rows
import Derived.Laws.Slices
import Derived.Lib.AppendStr
import Derived.Lib.Builder
import Derived.Lib.ConvBytes
import Derived.Lib.Hide
import Derived.Lib.MapLaws
import Derived.Lib.UnsafeStr
import Derived.Lib.ValidU
import Derived.Maps.AppendAt
import Derived.OrdersHeld
import Derived.OwnWalk
import Derived.Recover
import Derived.RowKit
import Derived.RowKit3
import Derived.Shelf.LaysM
import Derived.Shelf.Small.Strs
import Derived.Shelf.Strings.Builder1
import Derived.Shelf.Strings.Builder2
import Derived.Shelf.Strings.Builder2Cap
import Derived.Shelf.Strings.BuilderCap
import Derived.Shelf.Strings.BuilderF
import Derived.Shelf.Strings.BuilderK
import Derived.Shelf.Strings.Count
import Derived.Shelf.Strings.Prefix
import Derived.Shelf.Strings.Replace
import Derived.Shelf.Strings.RuneCount
import Derived.Shelf.Strings.Search1
import Derived.Shelf.Strings.Search2
import Derived.Shelf.Strings.Search3
import Derived.Shelf.Strings.Shaped
import Derived.Shelf.Strings.Split
import Derived.Shelf.Strings.SplitShaped
import Derived.Shelf.Unicode.Decode
import Derived.Shelf.Unicode.DecodeAny
import Derived.Shelf.Unicode.DecodeSlow
import Derived.Shelf.Unicode.ValidAny
import Derived.Shelf.Utf8.RuneCount
import Derived.StillTailTactics
import Derived.Tactics
import Derived.Tactics2
import Derived.Test.YtjehflambbjoaaaDoorProg
import Derived.WalkKit
import Derived.WalkLawsBesides
import Derived.WalkSpells
import Derived.WideLaws
import Derived.Test.YtjehflambbjoaaaDoorMb1
set_option linter.unusedVariables false
set_option linter.unusedSimpArgs false
abbrev Go.Proofs.YtjehflambbjoaaaDoor.X.tT:Bool:=true
abbrev Go.Proofs.YtjehflambbjoaaaDoor.X.fF:Bool:=false
namespace Go.Proofs.YtjehflambbjoaaaDoor
theorem au0{p:Prop}(h:p:=by omega):p:=h
theorem au1{p:Prop}(h:p:=by decide):p:=h
theorem au2{p:Prop}(h:p:=by kernel_rfl):p:=h
theorem au3{p:Prop}(h:p:=by repeat(first|(with_reducible first|exact HB.out|apply below_alloc|apply pw_below_drewN|apply below_drew1)|exact HB.out)):p:=h
theorem au4{p:Prop}(h:p:=by first|rfl|(simp;done)|(simp;decide +kernel)|(simp [*];done)):p:=h
theorem au5{p:Prop}(h:p:=by simp):p:=h
theorem au6{p:Prop}(h:p:=by rfl):p:=h
theorem au7{p:Prop}(h:p:=by first|(with_reducible assumption)|assumption):p:=h
theorem au8{p:Prop}(h:p:=by repeat(first|exact Drawn0.refl _|apply Drawn0.step)):p:=h
theorem au9{p:Prop}(h:p:=by first|exact H'|(subst_vars;exact H')):p:=h
theorem au10{p:Prop}(h:p:=by (try simp only [List.map_toArray,List.map_cons,List.map_nil]);first|done|rfl|(simp only [List.length_drop,List.length_take];rfl)):p:=h
theorem au11{p:Prop}(h:p:=by decide +kernel):p:=h
theorem au12{p:Prop}(h:p:=by first|rfl|(simp [errW_none,errW_some]<;>rfl)|(simp [*,errW_none,errW_some]<;>rfl)):p:=h
theorem au13{p:Prop}(h:p:=by first|omega|(simp only [List.length_append,List.length_cons,List.length_nil];omega)):p:=h
theorem au14{p:Prop}(h:p:=by first|omega|exact Nat.le_refl _):p:=h
theorem au15{p:Prop}(h:p:=by simp only [List.map_toArray,List.map_cons,List.map_nil];rfl):p:=h
theorem au16{p:Prop}(h:p:=by simp;omega):p:=h
theorem au17{p:Prop}(h:p:=by repeat(first|exact Drawn0.refl _|apply Drawn0.step|apply drawn_drew)):p:=h
theorem au18{p:Prop}(h:p:=by (with_reducible repeat(first|apply Kd.R_alloc|apply Kd.R_drewN|apply Kd.R_drew));exact HO_7.out):p:=h
theorem au19{p:Prop}(h:p:=by unfold Lib.decodeN;rw [if_neg c1,if_neg (by omega),if_neg (by omega),if_neg (by omega)]):p:=h
theorem au20{p:Prop}(h:p:=by first|exact Kd.R_nil _ _ _ _ _|exact Kd.N_nil _ _ _ _ _|exact Kd.V_nil _ _ _ _ _|exact Kd.Q_nil _ _ _ _ _|exact Kd.S_nil _ _ _ _ _):p:=h
theorem au21{p:Prop}(h:p:=by simp [F.flat]):p:=h
theorem au22{p:Prop}(h:p:=by (with_reducible repeat(first|apply Kd.R_alloc|apply Kd.R_drewN|apply Kd.R_drew));exact HO_3.out):p:=h
theorem au23{p:Prop}(h:p:=by rw [← HO.out,HVV.out,hM];rfl):p:=h
theorem au24{p:Prop}(h:p:=by simp only [putAll,Act.put,List.setIfInBounds_toArray,List.set_cons_zero,List.set_cons_succ]):p:=h
theorem au25{p:Prop}(h:p:=by rw [msize];omega):p:=h
theorem au26{p:Prop}(h:p:=by have:=HK1.out;have:=HK2.out;omega):p:=h
theorem au27{p:Prop}(h:p:=by simp at hk;omega):p:=h
theorem au28{p:Prop}(h:p:=by clear c3;(try simp only [List.length_append,List.length_singleton]);omega):p:=h
theorem au29{p:Prop}(h:p:=by rw [c0];decide):p:=h
theorem au30{p:Prop}(h:p:=by simp [Value.ownBlock]):p:=h
theorem au31{p:Prop}(h:p:=by simp [F.flat,nod]):p:=h
theorem au32{p:Prop}(h:p:=by have:=HJ11.out;have:=HK2.out;omega):p:=h
theorem au33{p:Prop}(h:p:=by rw [c1];decide):p:=h
theorem au34{p:Prop}(h:p:=by simp only [World.size_alloc];omega):p:=h
theorem au35{p:Prop}(h:p:=by first|rfl|(simp [errW_none,errW_some]<;>rfl)|(simp [*,errW_none,errW_some]<;>rfl)|(simp [errW_none,errW_some,show ∀ l:List UInt8,(l != [])=!l.isEmpty from fun l=>by cases l<;>rfl])):p:=h
theorem au36{p:Prop}(h:p:=by simp only [dep];omega):p:=h
theorem au37{p:Prop}(h:p:=by have:=HSZ.out;omega):p:=h
theorem au38{p:Prop}(h:p:=by have:=HN.out;omega):p:=h
theorem au39{p:Prop}(h:p:=by rw [World.size_alloc];omega):p:=h
theorem au40{p:Prop}(h:p:=by have:=HJ3.out;first|omega|exact Nat.le_refl _):p:=h
theorem au41{p:Prop}(h:p:=by (with_reducible repeat(first|apply Kd.R_alloc|apply Kd.R_drewN|apply Kd.R_drew));exact HO303.out):p:=h
theorem au42{p:Prop}(h:p:=by have:=HJ7.out;have:=HJ37.out;first|omega|exact Nat.le_refl _):p:=h
theorem au43{p:Prop}(h:p:=by have:=HM0.2.2.1;simp [F.count] at this;omega):p:=h
theorem au44{p:Prop}(h:p:=by rw [List.length_append,List.length_singleton];omega):p:=h
theorem au45{p:Prop}(h:p:=by first|omega|(have h1:=HB1.out.size;have h2:=HB2.out.size;have h3:=HB3.out.size;have h4:=HB4.out.size;omega)):p:=h
theorem au46{p:Prop}(h:p:=by (with_reducible repeat(first|apply Kd.N_alloc|apply Kd.N_drewN|apply Kd.N_drew));exact HO260.out):p:=h
theorem au47{p:Prop}(h:p:=by simpa [World.setCell] using h.size):p:=h
theorem au48{p:Prop}(h:p:=by have:=HG.out.L;have:=HU1.out.size;omega):p:=h
theorem au49{p:Prop}(h:p:=by rw [← HO.out,HVV.out,many_eq,hM];rfl):p:=h
theorem au50{p:Prop}(h:p:=by rw [List.append_nil];exact hp9):p:=h
theorem au51{p:Prop}(h:p:=by have:=HJ3.out;have:=HJ15.out;first|omega|exact Nat.le_refl _):p:=h
theorem au52{p:Prop}(h:p:=by have:=HJ6.out;have:=HJ10.out;first|omega|exact Nat.le_refl _):p:=h
theorem au53{p:Prop}(h:p:=by have:=HJ3.out;have:=HK2.out;first|omega|exact Nat.le_refl _):p:=h
theorem au54{p:Prop}(h:p:=by have:=HJ7.out;first|omega|exact Nat.le_refl _):p:=h
theorem au55{p:Prop}(h:p:=by have:=HBG.out;simp [ltx] at this ⊢;omega):p:=h
theorem au56{p:Prop}(h:p:=by have h1:=HSZ.out;rw [HTXT.out] at h1;simp only [List.length_append,List.length_cons,List.length_nil] at h1;omega):p:=h
theorem au57{p:Prop}(h:p:=by have h1:=HSZ2.out;simp only [List.length_append,List.length_cons,List.length_nil] at h1 ⊢;omega):p:=h
theorem au58{p:Prop}(h:p:=by have h1:=HSZ2.out;unfold big at h1;simp only [List.length_append,List.length_cons,List.length_nil] at h1 ⊢;omega):p:=h
theorem au59{p:Prop}(h:p:=by have:=HK1.out;have:=HJ23.out;omega):p:=h
theorem au60{p:Prop}(h:p:=by simp only [List.length_cons,List.length_nil];omega):p:=h
theorem au61{p:Prop}(h:p:=by simp only [List.length_append,List.length_cons,List.length_nil];omega):p:=h
theorem au62{p:Prop}(h:p:=by (with_reducible repeat(first|apply Kd.N_alloc|apply Kd.N_drewN|apply Kd.N_drew));exact HO_4.out):p:=h
theorem au63{p:Prop}(h:p:=by rw [← add_field _ _ 1 (by omega)];exact hc 1 _ rfl):p:=h
theorem au64{p:Prop}(h:p:=by have:=HJ6.out;first|omega|exact Nat.le_refl _):p:=h
theorem au65{p:Prop}(h:p:=by first|rfl|(simp;done)|(simp only [← hji20]<;>(first|rfl|simp))|(simp [*];done)):p:=h
theorem au66{p:Prop}(h:p:=by (with_reducible repeat(first|apply Kd.R_alloc|apply Kd.R_drewN|apply Kd.R_drew));exact HO166.out):p:=h
theorem au67{p:Prop}(h:p:=by have:=HJ7.out;have:=HJ37.out;have:=HJ65.out;have:=HK4.out;omega):p:=h
theorem au68{p:Prop}(h:p:=by (with_reducible repeat(first|apply Kd.R_alloc|apply Kd.R_drewN|apply Kd.R_drew));exact HO210.out):p:=h
theorem au69{p:Prop}(h:p:=by have:=HK1.out;have:=HK2.out;have:=HK3.out;have:=HK4.out;omega):p:=h
theorem au70{p:Prop}(h:p:=by (with_reducible repeat(first|apply Kd.R_alloc|apply Kd.R_drewN|apply Kd.R_drew));exact HO293.out):p:=h
theorem au71{p:Prop}(h:p:=by (with_reducible repeat(first|apply Kd.R_alloc|apply Kd.R_drewN|apply Kd.R_drew));exact HO216.out):p:=h
theorem au72{p:Prop}(h:p:=by have:=HM0.2.2.2.2.1;simpa [mkup] using this):p:=h
theorem au73{p:Prop}(h:p:=by rw [hnn];have:=HNV.out;unfold nmOf at this;split at this<;>(subst this;first|exact HNM.out|exact f1)):p:=h
theorem au74{p:Prop}(h:p:=by have h1:=congrArg List.length m5;simp only [List.length_append] at h1;have:=HSZ.out;have:=HCO.out;omega):p:=h
theorem au75{p:Prop}(h:p:=by rw [← List.drop_drop,m2,g2,List.append_assoc,List.drop_left]):p:=h
theorem au76{p:Prop}(h:p:=by (with_reducible repeat(first|apply Kd.N_alloc|apply Kd.N_drewN|apply Kd.N_drew));exact HO241.out):p:=h
end Go.Proofs.YtjehflambbjoaaaDoor
namespace Go.Proofs.YtjehflambbjoaaaDoor.X
open Go.RowKit Go.Proofs.YtjehflambbjoaaaDoorW.PrintWords Go.Proofs.YtjehflambbjoaaaDoorW.PrintLast Go.Proofs.YtjehflambbjoaaaDoorW.PrintMore
attribute [local go_sem] max2_int min2_int max_two min_two max_three min_three max_four min_four
def errW:Option Int→Value
 | none=>.nilIface
 | some c=>.iface 0 (.int .i64 c)
theorem errW_none:errW none=.nilIface:=rfl
theorem errW_some (c:Int):errW (some c)=.iface 0 (.int .i64 c):=rfl
theorem info3:(Tryd.prog.info? 3).map (fun i=>(i.zero,i.size,i.bytes))=some (some (.int .i64 0),1,8):=by kernel_rfl
theorem info9:(Tryd.prog.info? 9).map (fun i=>(i.zero,i.size,i.bytes))=some (some (.string ⟨#[]⟩),1,16):=by kernel_rfl
theorem info22:(Tryd.prog.info? 22).map (fun i=>(i.zero,i.size,i.bytes))=some (some (.slice none 0 0),1,24):=by kernel_rfl
theorem info24:(Tryd.prog.info? 24).map (fun i=>(i.zero,i.size,i.bytes))=some (some (.agg #[(.int .i64 0),(.int .i64 0),(.int .i64 0),(.string ⟨#[]⟩),(.string ⟨#[]⟩)]),5,56):=by kernel_rfl
structure S24 where
 f0:Int
 f1:Int
 f2:Int
 f3:ByteArray
 f4:ByteArray
def z24:S24:=⟨(0:Int),(0:Int),(0:Int),(⟨#[]⟩:ByteArray),(⟨#[]⟩:ByteArray)⟩
def k24:Kd S24:=Kd.iso (Kd.pair (Kd.int .i64) (Kd.pair (Kd.int .i64) (Kd.pair (Kd.int .i64) (Kd.pair Kd.string Kd.string)))) (fun x:S24=>(x.f0,x.f1,x.f2,x.f3,x.f4))
theorem k24_open {w:World} {x:S24} {cs:List Value} (h:k24.K w x cs):cs=[.int .i64 x.f0,.int .i64 x.f1,.int .i64 x.f2,.string x.f3,.string x.f4]:=by
 obtain ⟨_,_,rfl,rfl,⟨_,_,rfl,rfl,⟨_,_,rfl,rfl,⟨_,_,rfl,rfl,rfl⟩⟩⟩⟩:=h
 exact rfl
theorem k24_openM {w:World} {base:Nat} {ok:Nat→Prop} {x:S24} {cs:List Value} (h:k24.M w base ok x cs):cs=[.int .i64 x.f0,.int .i64 x.f1,.int .i64 x.f2,.string x.f3,.string x.f4]:=by
 obtain ⟨_,_,rfl,rfl,⟨_,_,rfl,rfl,⟨_,_,rfl,rfl,⟨_,_,rfl,rfl,rfl⟩⟩⟩⟩:=h
 exact rfl
theorem k24_mkM (w:World) (base:Nat) (ok:Nat→Prop) (x:S24) :k24.M w base ok x [.int .i64 x.f0,.int .i64 x.f1,.int .i64 x.f2,.string x.f3,.string x.f4]:=⟨[.int .i64 x.f0],[.int .i64 x.f1,.int .i64 x.f2,.string x.f3,.string x.f4],rfl,rfl,⟨[.int .i64 x.f1],[.int .i64 x.f2,.string x.f3,.string x.f4],rfl,rfl,⟨[.int .i64 x.f2],[.string x.f3,.string x.f4],rfl,rfl,⟨[.string x.f3],[.string x.f4],rfl,rfl,rfl⟩⟩⟩⟩
def rd_T24 (xs:List S24) (i:Int):S24:=xs.getD i.toNat z24
theorem at_T24 {w:World} {A:Option Addr} {n:Nat} {xs:List S24} (h:Kd.C k24 w A n xs) (i:Int) (h0:0≤i) (h1:i<n):∃ ad ,A=some ad∧w.cell? (ad.add (i.toNat*5))=some (.int .i64 (rd_T24 xs i).f0)∧w.cell? ⟨(ad.add (i.toNat*5)).block,(ad.add (i.toNat*5)).off+1,none⟩=some (.int .i64 (rd_T24 xs i).f1)∧w.cell? ⟨(ad.add (i.toNat*5)).block,(ad.add (i.toNat*5)).off+2,none⟩=some (.int .i64 (rd_T24 xs i).f2)∧w.cell? ⟨(ad.add (i.toNat*5)).block,(ad.add (i.toNat*5)).off+3,none⟩=some (.string (rd_T24 xs i).f3)∧w.cell? ⟨(ad.add (i.toNat*5)).block,(ad.add (i.toNat*5)).off+4,none⟩=some (.string (rd_T24 xs i).f4):=by
 obtain ⟨ad,c,e,_,hK,hc0⟩:=Kd.C_get h z24 i h0 h1
 have hc:∀ j u,c[j]?=some u→w.cell? (ad.add (i.toNat*5+j))=some u:=hc0
 obtain rfl:=k24_open hK
 exact ⟨ad,e,hc 0 _ rfl,au63,by rw [← add_field _ _ 2 au0];exact hc 2 _ rfl,by rw [← add_field _ _ 3 au0];exact hc 3 _ rfl,by rw [← add_field _ _ 4 au0];exact hc 4 _ rfl⟩
def rd_L3 (xs:List (List S24)) (i:Int):(List S24):=xs.getD i.toNat ([]:List S24)
theorem at_L3 {w:World} {A:Option Addr} {n:Nat} {xs:List (List S24)} (h:Kd.C (Kd.slice 24 k24) w A n xs) (i:Int) (h0:0≤i) (h1:i<n):∃ ad A0 c0,A=some ad∧w.cell? (ad.add i.toNat)=some (.slice A0 (rd_L3 xs i).length c0)∧(rd_L3 xs i).length≤c0∧k24.C w A0 (rd_L3 xs i).length (rd_L3 xs i):=by
 obtain ⟨ad,c,e,_,hK,hc0⟩:=Kd.C_get h ([]:List S24) i h0 h1
 have hc:∀ j u,c[j]?=some u→w.cell? (ad.add (i.toNat*1+j))=some u:=hc0
 obtain ⟨A0,c0,rfl,l0,g0⟩:=hK
 exact ⟨ad,A0,c0,e,by have hq:=hc 0 _ rfl;rwa [Nat.mul_one,Nat.add_zero] at hq,l0,g0⟩
structure S53 where
 f0:ByteArray
 f1:(List S24)
def z53:S53:=⟨(⟨#[]⟩:ByteArray),([]:List S24)⟩
def k53:Kd S53:=Kd.iso (Kd.pair Kd.string (Kd.slice 24 k24)) (fun x:S53=>(x.f0,x.f1))
theorem k53_open {w:World} {x:S53} {cs:List Value} (h:k53.K w x cs):∃ A1 c1,cs=[.string x.f0,.slice A1 x.f1.length c1]∧x.f1.length≤c1∧k24.C w A1 x.f1.length x.f1:=by
 obtain ⟨_,_,rfl,rfl,⟨A1,c1,rfl,l1,g1⟩⟩:=h
 exact ⟨A1,c1,rfl,l1,g1⟩
theorem k53_mk (w:World) (x:S53) {A1:Option Addr} {c1:Nat} (l1:x.f1.length≤c1) (g1:k24.C w A1 x.f1.length x.f1):k53.K w x [.string x.f0,.slice A1 x.f1.length c1]:=⟨[.string x.f0],[.slice A1 x.f1.length c1],rfl,rfl,⟨A1,c1,rfl,l1,g1⟩⟩
theorem k53_openF {W:World} {ok:Nat→Prop} {x:S53} {cs:List Value} (h:Kd.FK k53 W ok x cs):∃ A1 c1,cs=[.string x.f0,.slice A1 x.f1.length c1]∧x.f1.length≤c1∧Kd.F k24 W ok A1 x.f1.length x.f1:=by
 obtain ⟨A1,c1,rfl,l1,_⟩:=k53_open (Kd.FK_now h)
 exact ⟨A1,c1,rfl,l1,(fun W' hW=>by obtain ⟨A1_,c1_,he,l1_,g1_⟩:=k53_open (h W' hW);injection (Option.some.inj (show some (Value.slice A1 x.f1.length c1)=some (Value.slice A1_ x.f1.length c1_) from congrArg (fun l=>l[1]?) he)) with ha_ _ _;rw [ha_];exact g1_)⟩
theorem k53_mkF (W:World) (ok:Nat→Prop) (x:S53) {A1:Option Addr} {c1:Nat} (l1:x.f1.length≤c1) (g1:Kd.F k24 W ok A1 x.f1.length x.f1):Kd.FK k53 W ok x [.string x.f0,.slice A1 x.f1.length c1]:=fun W2 hW=>k53_mk W2 x l1 (g1 W2 hW)
def rd_T53 (xs:List S53) (i:Int):S53:=xs.getD i.toNat z53
theorem at_T53 {w:World} {A:Option Addr} {n:Nat} {xs:List S53} (h:Kd.C k53 w A n xs) (i:Int) (h0:0≤i) (h1:i<n):∃ ad A1 c1,A=some ad∧w.cell? (ad.add (i.toNat*2))=some (.string (rd_T53 xs i).f0)∧w.cell? ⟨(ad.add (i.toNat*2)).block,(ad.add (i.toNat*2)).off+1,none⟩=some (.slice A1 (rd_T53 xs i).f1.length c1)∧(rd_T53 xs i).f1.length≤c1∧k24.C w A1 (rd_T53 xs i).f1.length (rd_T53 xs i).f1:=by
 obtain ⟨ad,c,e,_,hK,hc0⟩:=Kd.C_get h z53 i h0 h1
 have hc:∀ j u,c[j]?=some u→w.cell? (ad.add (i.toNat*2+j))=some u:=hc0
 obtain ⟨A1,c1,rfl,l1,g1⟩:=k53_open hK
 exact ⟨ad,A1,c1,e,hc 0 _ rfl,au63,l1,g1⟩
structure S100 where
 f0:ByteArray
 f1:ByteArray
def z100:S100:=⟨(⟨#[]⟩:ByteArray),(⟨#[]⟩:ByteArray)⟩
def k100:Kd S100:=Kd.iso (Kd.pair Kd.string Kd.string) (fun x:S100=>(x.f0,x.f1))
theorem k100_open {w:World} {x:S100} {cs:List Value} (h:k100.K w x cs):cs=[.string x.f0,.string x.f1]:=by
 obtain ⟨_,_,rfl,rfl,rfl⟩:=h
 exact rfl
theorem k100_mkM (w:World) (base:Nat) (ok:Nat→Prop) (x:S100) :k100.M w base ok x [.string x.f0,.string x.f1]:=⟨[.string x.f0],[.string x.f1],rfl,rfl,rfl⟩
def rd_T100 (xs:List S100) (i:Int):S100:=xs.getD i.toNat z100
theorem at_T100 {w:World} {A:Option Addr} {n:Nat} {xs:List S100} (h:Kd.C k100 w A n xs) (i:Int) (h0:0≤i) (h1:i<n):∃ ad ,A=some ad∧w.cell? (ad.add (i.toNat*2))=some (.string (rd_T100 xs i).f0)∧w.cell? ⟨(ad.add (i.toNat*2)).block,(ad.add (i.toNat*2)).off+1,none⟩=some (.string (rd_T100 xs i).f1):=by
 obtain ⟨ad,c,e,_,hK,hc0⟩:=Kd.C_get h z100 i h0 h1
 have hc:∀ j u,c[j]?=some u→w.cell? (ad.add (i.toNat*2+j))=some u:=hc0
 obtain rfl:=k100_open hK
 exact ⟨ad,e,hc 0 _ rfl,au63⟩
end Go.Proofs.YtjehflambbjoaaaDoor.X
namespace Go.Proofs
open Go.Shelf
def Tryd.lays169_ren:Go.Shelf.Ren:=⟨fun|169=>38|n=>n,fun|70=>62|9=>9|0=>0|72=>64|37=>59|127=>96|3=>3|5=>5|n=>n,fun|n=>n⟩
theorem Tryd.lays169:Go.Proofs.Lays.n169 Tryd.prog Tryd.lays169_ren:={
 mixed:=by kernel_rfl
 f169:=Tryd.func38.trans (congrArg some (by kernel_rfl))
 t0:=Tryd.underlying0
 a0:=Tryd.isAgg0
 z0:=Tryd.sizeOf0
 v0:=Tryd.zeroValue0
 t3:=Tryd.underlying3
 a3:=Tryd.isAgg3
 z3:=Tryd.sizeOf3
 v3:=Tryd.zeroValue3
 t9:=Tryd.underlying9
 a9:=Tryd.isAgg9
 z9:=Tryd.sizeOf9
 v9:=Tryd.zeroValue9
 t37:=Tryd.underlying59
 a37:=Tryd.isAgg59
 z37:=Tryd.sizeOf59
 v37:=Tryd.zeroValue59
 t70:=Tryd.underlying62
 a70:=Tryd.isAgg62
 z70:=Tryd.sizeOf62
 v70:=Tryd.zeroValue62
 t72:=Tryd.underlying64
 a72:=Tryd.isAgg64
 z72:=Tryd.sizeOf64
 v72:=Tryd.zeroValue64
 t127:=Tryd.underlying96
 a127:=Tryd.isAgg96
 z127:=Tryd.sizeOf96
 v127:=Tryd.zeroValue96 }
theorem Tryd.Builder_Extra_169:Builder.Extra Tryd.prog Tryd.lays169_ren:={
 sizeBuilder:=by kernel_rfl
 liesBuilder:=by kernel_rfl
 t5:=Tryd.underlying5
 a5:=Tryd.isAgg5
 z5:=Tryd.sizeOf5
 v5:=Tryd.zeroValue5
 infoByte:=by kernel_rfl
 cellsByte:=by kernel_rfl
 sizeByte:=by kernel_rfl
 neB5:=by decide }
open Go.RowKit in
theorem Tryd.Builder_String_any (B b:Nat) (l:List UInt8) (w:World) (h:Lib.IsBuilder 64 5 B b (Lib.byteCells l) w) (hBw:B≤w.heap.size) :
  Calls Tryd.prog 38 #[.pointer (some ⟨b,0,none⟩)] w fun e w'=>e=.returned (.string ⟨l.toArray⟩)∧Below B w w':=Any.Builder_String_any Tryd.lays169 Tryd.Builder_Extra_169 B b l w h hBw
def Tryd.lays137_ren:Go.Shelf.Ren:=⟨fun|137=>63|217=>67|266=>76|n=>n,fun|9=>9|5=>5|3=>3|n=>n,fun|n=>n⟩
theorem Tryd.lays137:Go.Proofs.Lays.n137 Tryd.prog Tryd.lays137_ren:={
 mixed:=by kernel_rfl
 f137:=Tryd.func63.trans (congrArg some (by kernel_rfl))
 f217:=Tryd.func67.trans (congrArg some (by kernel_rfl))
 f266:=Tryd.func76.trans (congrArg some (by kernel_rfl))
 t3:=Tryd.underlying3
 a3:=Tryd.isAgg3
 z3:=Tryd.sizeOf3
 v3:=Tryd.zeroValue3
 t5:=Tryd.underlying5
 a5:=Tryd.isAgg5
 z5:=Tryd.sizeOf5
 v5:=Tryd.zeroValue5
 t9:=Tryd.underlying9
 a9:=Tryd.isAgg9
 z9:=Tryd.sizeOf9
 v9:=Tryd.zeroValue9 }
open Go.RowKit in
theorem Tryd.strings_IndexByte (s:ByteArray) (c:Int) (w:World) :
  Calls Tryd.prog 63 #[.string s,.int .u8 c] w fun e w'=>e=.returned (.int .i64 (Lib.indexByte s.data.toList c.toNat.toUInt8))∧w'=w:=Any.strings_IndexByte Tryd.lays137 s c w
open Go.RowKit in
theorem Tryd.Builder_String_any_k (B b:Nat) (l:List UInt8) (w:World) (h:Lib.IsBuilderF 64 5 B b (Lib.byteCells l) w) (hBw:B≤w.heap.size) :
  Calls Tryd.prog 38 #[.pointer (some ⟨b,0,none⟩)] w fun e w'=>e=.returned (.string ⟨l.toArray⟩)∧(Lib.IsBuilderF 64 5 B b (Lib.byteCells l) w'∧Below B w w'∧Lib.OthersKept 5 (some b) w w'):=Any.Builder_String_any_k Tryd.lays169 Tryd.Builder_Extra_169 B b l w h hBw
def Tryd.laysM219_ren:Go.Shelf.Ren:=⟨fun|219=>88|217=>67|225=>93|224=>94|267=>95|266=>76|314=>98|n=>n,fun|9=>9|3=>3|4=>4|5=>5|46=>76|146=>133|51=>132|n=>n,fun|1=>2|n=>n⟩
theorem Tryd.laysM219:Go.Proofs.LaysM.n219 Tryd.prog Tryd.laysM219_ren:={
 mixed:=by kernel_rfl
 f217:=Tryd.func67.trans (congrArg some (by kernel_rfl))
 f219:=Tryd.func88.trans (congrArg some (by kernel_rfl))
 f224:=Tryd.func94.trans (congrArg some (by kernel_rfl))
 f225:=Tryd.func93.trans (congrArg some (by kernel_rfl))
 f266:=Tryd.func76.trans (congrArg some (by kernel_rfl))
 f267:=Tryd.func95.trans (congrArg some (by kernel_rfl))
 f314:=Tryd.func98.trans (congrArg some (by kernel_rfl))
 t3:=Tryd.underlying3
 a3:=Tryd.isAgg3
 z3:=Tryd.sizeOf3
 v3:=Tryd.zeroValue3
 t4:=Tryd.underlying4
 a4:=Tryd.isAgg4
 z4:=Tryd.sizeOf4
 v4:=Tryd.zeroValue4
 t5:=Tryd.underlying5
 a5:=Tryd.isAgg5
 z5:=Tryd.sizeOf5
 v5:=Tryd.zeroValue5
 t9:=Tryd.underlying9
 a9:=Tryd.isAgg9
 z9:=Tryd.sizeOf9
 v9:=Tryd.zeroValue9
 t46:=Tryd.underlying76
 a46:=Tryd.isAgg76
 z46:=Tryd.sizeOf76
 v46:=Tryd.zeroValue76
 t51:=Tryd.underlying132
 a51:=Tryd.isAgg132
 z51:=Tryd.sizeOf132
 v51:=Tryd.zeroValue132
 t146:=Tryd.underlying133
 a146:=Tryd.isAgg133
 z146:=Tryd.sizeOf133
 v146:=Tryd.zeroValue133
 g1:=by kernel_rfl
 i3:=by kernel_rfl
 i4:=by kernel_rfl
 i5:=by kernel_rfl
 i9:=by kernel_rfl
 i46:=by kernel_rfl
 i51:=by kernel_rfl
 i146:=by kernel_rfl
 m1:=by kernel_rfl
 s1_3:=fun w h=>Go.Proofs.cell_of_shapedOpen_int (zero:=#[.int .i64 0]) (t:=3) h (of_decide_eq_true (by kernel_rfl)) (by kernel_rfl) rfl (by kernel_rfl) (by kernel_rfl) Tryd.underlying3 }
def Tryd.lays99_ren:Go.Shelf.Ren:=⟨fun|99=>97|206=>99|n=>n,fun|9=>9|4=>4|3=>3|n=>n,fun|n=>n⟩
theorem Tryd.lays99:Go.Proofs.Lays.n99 Tryd.prog Tryd.lays99_ren:={
 mixed:=by kernel_rfl
 f99:=Tryd.func97.trans (congrArg some (by kernel_rfl))
 f206:=Tryd.func99.trans (congrArg some (by kernel_rfl))
 t3:=Tryd.underlying3
 a3:=Tryd.isAgg3
 z3:=Tryd.sizeOf3
 v3:=Tryd.zeroValue3
 t4:=Tryd.underlying4
 a4:=Tryd.isAgg4
 z4:=Tryd.sizeOf4
 v4:=Tryd.zeroValue4
 t9:=Tryd.underlying9
 a9:=Tryd.isAgg9
 z9:=Tryd.sizeOf9
 v9:=Tryd.zeroValue9 }
open Go.RowKit Go.Lib in
theorem Tryd.strings_HasPrefix (s p:ByteArray) (w:World) :
  Calls Tryd.prog 97 #[.string s,.string p] w fun e w'=>e=.returned (.bool (Lib.hasPrefix s.data.toList p.data.toList))∧w'=w:=Any.strings_HasPrefix Tryd.lays99 s p w
def Tryd.lays154_ren:Go.Shelf.Ren:=⟨fun|154=>66|138=>72|165=>73|143=>74|166=>50|197=>75|169=>38|195=>85|218=>86|240=>57|241=>87|219=>88|260=>89|276=>64|277=>92|217=>67|225=>93|224=>94|267=>95|266=>76|314=>98|n=>n,fun|9=>9|3=>3|4=>4|72=>64|0=>0|76=>89|105=>121|21=>21|5=>5|70=>62|20=>20|37=>59|75=>83|127=>96|164=>107|46=>76|119=>72|139=>75|138=>74|146=>133|51=>132|80=>66|n=>n,fun|1=>2|3=>0|4=>1|n=>n⟩
theorem Tryd.lays154:Go.Proofs.Lays.n154 Tryd.prog Tryd.lays154_ren:={
 mixed:=by kernel_rfl
 f138:=Tryd.func72.trans (congrArg some (by kernel_rfl))
 f143:=Tryd.func74.trans (congrArg some (by kernel_rfl))
 f154:=Tryd.func66.trans (congrArg some (by kernel_rfl))
 f165:=Tryd.func73.trans (congrArg some (by kernel_rfl))
 f166:=Tryd.func50.trans (congrArg some (by kernel_rfl))
 f169:=Tryd.func38.trans (congrArg some (by kernel_rfl))
 f195:=Tryd.func85.trans (congrArg some (by kernel_rfl))
 f197:=Tryd.func75.trans (congrArg some (by kernel_rfl))
 f217:=Tryd.func67.trans (congrArg some (by kernel_rfl))
 f218:=Tryd.func86.trans (congrArg some (by kernel_rfl))
 f219:=Tryd.func88.trans (congrArg some (by kernel_rfl))
 f224:=Tryd.func94.trans (congrArg some (by kernel_rfl))
 f225:=Tryd.func93.trans (congrArg some (by kernel_rfl))
 f240:=Tryd.func57.trans (congrArg some (by kernel_rfl))
 f241:=Tryd.func87.trans (congrArg some (by kernel_rfl))
 f260:=Tryd.func89.trans (congrArg some (by kernel_rfl))
 f266:=Tryd.func76.trans (congrArg some (by kernel_rfl))
 f267:=Tryd.func95.trans (congrArg some (by kernel_rfl))
 f276:=Tryd.func64.trans (congrArg some (by kernel_rfl))
 f277:=Tryd.func92.trans (congrArg some (by kernel_rfl))
 f314:=Tryd.func98.trans (congrArg some (by kernel_rfl))
 t0:=Tryd.underlying0
 a0:=Tryd.isAgg0
 z0:=Tryd.sizeOf0
 v0:=Tryd.zeroValue0
 t3:=Tryd.underlying3
 a3:=Tryd.isAgg3
 z3:=Tryd.sizeOf3
 v3:=Tryd.zeroValue3
 t4:=Tryd.underlying4
 a4:=Tryd.isAgg4
 z4:=Tryd.sizeOf4
 v4:=Tryd.zeroValue4
 t5:=Tryd.underlying5
 a5:=Tryd.isAgg5
 z5:=Tryd.sizeOf5
 v5:=Tryd.zeroValue5
 t9:=Tryd.underlying9
 a9:=Tryd.isAgg9
 z9:=Tryd.sizeOf9
 v9:=Tryd.zeroValue9
 t20:=Tryd.underlying20
 a20:=Tryd.isAgg20
 z20:=Tryd.sizeOf20
 v20:=Tryd.zeroValue20
 t21:=Tryd.underlying21
 a21:=Tryd.isAgg21
 z21:=Tryd.sizeOf21
 v21:=Tryd.zeroValue21
 t37:=Tryd.underlying59
 a37:=Tryd.isAgg59
 z37:=Tryd.sizeOf59
 v37:=Tryd.zeroValue59
 t46:=Tryd.underlying76
 a46:=Tryd.isAgg76
 z46:=Tryd.sizeOf76
 v46:=Tryd.zeroValue76
 t51:=Tryd.underlying132
 a51:=Tryd.isAgg132
 z51:=Tryd.sizeOf132
 v51:=Tryd.zeroValue132
 t70:=Tryd.underlying62
 a70:=Tryd.isAgg62
 z70:=Tryd.sizeOf62
 v70:=Tryd.zeroValue62
 t72:=Tryd.underlying64
 a72:=Tryd.isAgg64
 z72:=Tryd.sizeOf64
 v72:=Tryd.zeroValue64
 t75:=Tryd.underlying83
 a75:=Tryd.isAgg83
 z75:=Tryd.sizeOf83
 v75:=Tryd.zeroValue83
 t76:=Tryd.underlying89
 a76:=Tryd.isAgg89
 z76:=Tryd.sizeOf89
 v76:=Tryd.zeroValue89
 t105:=Tryd.underlying121
 a105:=Tryd.isAgg121
 z105:=Tryd.sizeOf121
 v105:=Tryd.zeroValue121
 t119:=Tryd.underlying72
 a119:=Tryd.isAgg72
 z119:=Tryd.sizeOf72
 t127:=Tryd.underlying96
 a127:=Tryd.isAgg96
 z127:=Tryd.sizeOf96
 v127:=Tryd.zeroValue96
 t138:=Tryd.underlying74
 a138:=Tryd.isAgg74
 z138:=Tryd.sizeOf74
 v138:=Tryd.zeroValue74
 t139:=Tryd.underlying75
 a139:=Tryd.isAgg75
 z139:=Tryd.sizeOf75
 v139:=Tryd.zeroValue75
 t146:=Tryd.underlying133
 a146:=Tryd.isAgg133
 z146:=Tryd.sizeOf133
 v146:=Tryd.zeroValue133
 t164:=Tryd.underlying107
 a164:=Tryd.isAgg107
 z164:=Tryd.sizeOf107
 v164:=Tryd.zeroValue107
 g1:=by kernel_rfl
 g3:=by kernel_rfl
 g4:=by kernel_rfl }
theorem Tryd.Builder_Extra_154:Builder.Extra Tryd.prog Tryd.lays154_ren:={
 sizeBuilder:=by kernel_rfl
 liesBuilder:=by kernel_rfl
 t5:=Tryd.underlying5
 a5:=Tryd.isAgg5
 z5:=Tryd.sizeOf5
 v5:=Tryd.zeroValue5
 infoByte:=by kernel_rfl
 cellsByte:=by kernel_rfl
 sizeByte:=by kernel_rfl
 neB5:=by decide }
open Go.RowKit Go.Lib in
theorem Tryd.strings_Replace (s old new:ByteArray) (n:Int) (m:Int) (w:World) (hs:s.size<4294967281) (hm:w.cell? ⟨2,0,none⟩=some (.int .i64 m)) (h1:1≤old.size) (hlen:s.size+Lib.countB s old*new.size≤140737488355328) :
  Calls Tryd.prog 66 #[.string s,.string old,.string new,.int .i64 n] w fun e w' =>
   e=.returned (.string ⟨(Lib.replace s.data.toList old.data.toList new.data.toList n).toArray⟩)∧Below w.heap.size w w':=Any.strings_Replace Tryd.lays154 Tryd.Builder_Extra_154 s old new n m w hs hm h1 hlen
def Tryd.lays155_ren:Go.Shelf.Ren:=⟨fun|155=>59|154=>66|138=>72|165=>73|143=>74|166=>50|197=>75|169=>38|195=>85|218=>86|240=>57|241=>87|219=>88|260=>89|276=>64|277=>92|217=>67|225=>93|224=>94|267=>95|266=>76|314=>98|n=>n,fun|9=>9|3=>3|4=>4|72=>64|0=>0|76=>89|105=>121|21=>21|5=>5|70=>62|20=>20|37=>59|75=>83|127=>96|164=>107|46=>76|119=>72|139=>75|138=>74|146=>133|51=>132|80=>66|n=>n,fun|1=>2|3=>0|4=>1|n=>n⟩
theorem Tryd.lays155:Go.Proofs.Lays.n155 Tryd.prog Tryd.lays155_ren:={
 mixed:=by kernel_rfl
 f138:=Tryd.func72.trans (congrArg some (by kernel_rfl))
 f143:=Tryd.func74.trans (congrArg some (by kernel_rfl))
 f154:=Tryd.func66.trans (congrArg some (by kernel_rfl))
 f155:=Tryd.func59.trans (congrArg some (by kernel_rfl))
 f165:=Tryd.func73.trans (congrArg some (by kernel_rfl))
 f166:=Tryd.func50.trans (congrArg some (by kernel_rfl))
 f169:=Tryd.func38.trans (congrArg some (by kernel_rfl))
 f195:=Tryd.func85.trans (congrArg some (by kernel_rfl))
 f197:=Tryd.func75.trans (congrArg some (by kernel_rfl))
 f217:=Tryd.func67.trans (congrArg some (by kernel_rfl))
 f218:=Tryd.func86.trans (congrArg some (by kernel_rfl))
 f219:=Tryd.func88.trans (congrArg some (by kernel_rfl))
 f224:=Tryd.func94.trans (congrArg some (by kernel_rfl))
 f225:=Tryd.func93.trans (congrArg some (by kernel_rfl))
 f240:=Tryd.func57.trans (congrArg some (by kernel_rfl))
 f241:=Tryd.func87.trans (congrArg some (by kernel_rfl))
 f260:=Tryd.func89.trans (congrArg some (by kernel_rfl))
 f266:=Tryd.func76.trans (congrArg some (by kernel_rfl))
 f267:=Tryd.func95.trans (congrArg some (by kernel_rfl))
 f276:=Tryd.func64.trans (congrArg some (by kernel_rfl))
 f277:=Tryd.func92.trans (congrArg some (by kernel_rfl))
 f314:=Tryd.func98.trans (congrArg some (by kernel_rfl))
 t0:=Tryd.underlying0
 a0:=Tryd.isAgg0
 z0:=Tryd.sizeOf0
 v0:=Tryd.zeroValue0
 t3:=Tryd.underlying3
 a3:=Tryd.isAgg3
 z3:=Tryd.sizeOf3
 v3:=Tryd.zeroValue3
 t4:=Tryd.underlying4
 a4:=Tryd.isAgg4
 z4:=Tryd.sizeOf4
 v4:=Tryd.zeroValue4
 t5:=Tryd.underlying5
 a5:=Tryd.isAgg5
 z5:=Tryd.sizeOf5
 v5:=Tryd.zeroValue5
 t9:=Tryd.underlying9
 a9:=Tryd.isAgg9
 z9:=Tryd.sizeOf9
 v9:=Tryd.zeroValue9
 t20:=Tryd.underlying20
 a20:=Tryd.isAgg20
 z20:=Tryd.sizeOf20
 v20:=Tryd.zeroValue20
 t21:=Tryd.underlying21
 a21:=Tryd.isAgg21
 z21:=Tryd.sizeOf21
 v21:=Tryd.zeroValue21
 t37:=Tryd.underlying59
 a37:=Tryd.isAgg59
 z37:=Tryd.sizeOf59
 v37:=Tryd.zeroValue59
 t46:=Tryd.underlying76
 a46:=Tryd.isAgg76
 z46:=Tryd.sizeOf76
 v46:=Tryd.zeroValue76
 t51:=Tryd.underlying132
 a51:=Tryd.isAgg132
 z51:=Tryd.sizeOf132
 v51:=Tryd.zeroValue132
 t70:=Tryd.underlying62
 a70:=Tryd.isAgg62
 z70:=Tryd.sizeOf62
 v70:=Tryd.zeroValue62
 t72:=Tryd.underlying64
 a72:=Tryd.isAgg64
 z72:=Tryd.sizeOf64
 v72:=Tryd.zeroValue64
 t75:=Tryd.underlying83
 a75:=Tryd.isAgg83
 z75:=Tryd.sizeOf83
 v75:=Tryd.zeroValue83
 t76:=Tryd.underlying89
 a76:=Tryd.isAgg89
 z76:=Tryd.sizeOf89
 v76:=Tryd.zeroValue89
 t105:=Tryd.underlying121
 a105:=Tryd.isAgg121
 z105:=Tryd.sizeOf121
 v105:=Tryd.zeroValue121
 t119:=Tryd.underlying72
 a119:=Tryd.isAgg72
 z119:=Tryd.sizeOf72
 t127:=Tryd.underlying96
 a127:=Tryd.isAgg96
 z127:=Tryd.sizeOf96
 v127:=Tryd.zeroValue96
 t138:=Tryd.underlying74
 a138:=Tryd.isAgg74
 z138:=Tryd.sizeOf74
 v138:=Tryd.zeroValue74
 t139:=Tryd.underlying75
 a139:=Tryd.isAgg75
 z139:=Tryd.sizeOf75
 v139:=Tryd.zeroValue75
 t146:=Tryd.underlying133
 a146:=Tryd.isAgg133
 z146:=Tryd.sizeOf133
 v146:=Tryd.zeroValue133
 t164:=Tryd.underlying107
 a164:=Tryd.isAgg107
 z164:=Tryd.sizeOf107
 v164:=Tryd.zeroValue107
 g1:=by kernel_rfl
 g3:=by kernel_rfl
 g4:=by kernel_rfl }
theorem Tryd.Builder_Extra_155:Builder.Extra Tryd.prog Tryd.lays155_ren:={
 sizeBuilder:=by kernel_rfl
 liesBuilder:=by kernel_rfl
 t5:=Tryd.underlying5
 a5:=Tryd.isAgg5
 z5:=Tryd.sizeOf5
 v5:=Tryd.zeroValue5
 infoByte:=by kernel_rfl
 cellsByte:=by kernel_rfl
 sizeByte:=by kernel_rfl
 neB5:=by decide }
open Go.RowKit Go.Lib in
theorem Tryd.strings_ReplaceAll (s old new:ByteArray) (m:Int) (w:World) (hs:s.size<4294967281) (hm:w.cell? ⟨2,0,none⟩=some (.int .i64 m)) (h1:1≤old.size) (hlen:s.size+Lib.countB s old*new.size≤140737488355328) :
  Calls Tryd.prog 59 #[.string s,.string old,.string new] w fun e w' =>
   e=.returned (.string ⟨(Lib.replaceAll s.data.toList old.data.toList new.data.toList).toArray⟩)∧Below w.heap.size w w':=Any.strings_ReplaceAll Tryd.lays155 Tryd.Builder_Extra_155 s old new m w hs hm h1 hlen
def Tryd.lays197_ren:Go.Shelf.Ren:=⟨fun|197=>75|260=>89|n=>n,fun|9=>9|21=>21|3=>3|4=>4|5=>5|105=>121|119=>72|0=>0|46=>76|139=>75|138=>74|n=>n,fun|3=>0|4=>1|n=>n⟩
theorem Tryd.lays197:Go.Proofs.Lays.n197 Tryd.prog Tryd.lays197_ren:={
 mixed:=by kernel_rfl
 f197:=Tryd.func75.trans (congrArg some (by kernel_rfl))
 f260:=Tryd.func89.trans (congrArg some (by kernel_rfl))
 t0:=Tryd.underlying0
 a0:=Tryd.isAgg0
 z0:=Tryd.sizeOf0
 v0:=Tryd.zeroValue0
 t3:=Tryd.underlying3
 a3:=Tryd.isAgg3
 z3:=Tryd.sizeOf3
 v3:=Tryd.zeroValue3
 t4:=Tryd.underlying4
 a4:=Tryd.isAgg4
 z4:=Tryd.sizeOf4
 v4:=Tryd.zeroValue4
 t5:=Tryd.underlying5
 a5:=Tryd.isAgg5
 z5:=Tryd.sizeOf5
 v5:=Tryd.zeroValue5
 t9:=Tryd.underlying9
 a9:=Tryd.isAgg9
 z9:=Tryd.sizeOf9
 v9:=Tryd.zeroValue9
 t21:=Tryd.underlying21
 a21:=Tryd.isAgg21
 z21:=Tryd.sizeOf21
 v21:=Tryd.zeroValue21
 t46:=Tryd.underlying76
 a46:=Tryd.isAgg76
 z46:=Tryd.sizeOf76
 v46:=Tryd.zeroValue76
 t105:=Tryd.underlying121
 a105:=Tryd.isAgg121
 z105:=Tryd.sizeOf121
 v105:=Tryd.zeroValue121
 t119:=Tryd.underlying72
 a119:=Tryd.isAgg72
 z119:=Tryd.sizeOf72
 t138:=Tryd.underlying74
 a138:=Tryd.isAgg74
 z138:=Tryd.sizeOf74
 v138:=Tryd.zeroValue74
 t139:=Tryd.underlying75
 a139:=Tryd.isAgg75
 z139:=Tryd.sizeOf75
 v139:=Tryd.zeroValue75
 g3:=by kernel_rfl
 g4:=by kernel_rfl }
open Go.RowKit Go.Lib in
theorem Tryd.utf8_DecodeRuneInString (s:ByteArray) (w:World) (hT:Lib.Utf8Tabs 0 1 w) :
  Calls Tryd.prog 75 #[.string s] w fun e w'=>e=.returned (.tuple #[.int .i32 (Lib.decodeGo s).1,.int .i64 (Lib.decodeGo s).2])∧Below w.heap.size w w':=Any.utf8_DecodeRuneInString Tryd.lays197 s w hT
end Go.Proofs
namespace Go.Proofs.YtjehflambbjoaaaDoor.X
open Go.RowKit Go.Proofs.YtjehflambbjoaaaDoorW.PrintWords Go.Proofs.YtjehflambbjoaaaDoorW.PrintLast Go.Proofs.YtjehflambbjoaaaDoorW.PrintMore
def GlobMax (w:World):Prop:=2<w.heap.size∧∃ m,w.cell? ⟨2,0,none⟩=some (.int .i64 m)
theorem GlobMax.below {w w':World} (h:GlobMax w) (hb:Below w.heap.size w w'):GlobMax w':=by
 obtain ⟨h1,m,h2⟩:=h
 exact ⟨Nat.lt_of_lt_of_le h1 hb.size,m,(hb.cell (p:=⟨2,0,none⟩) h1).trans h2⟩
theorem GlobMax.of {w:World} (h:∃ m,w.cell? ⟨2,0,none⟩=some (.int .i64 m)):GlobMax w:=by
 refine ⟨?_,h⟩
 obtain ⟨m,hm⟩:=h
 unfold World.cell? at hm
 split at hm
 ·rename_i hh
  exact(Array.getElem?_eq_some_iff.mp hh).1
 ·cases hm
theorem GlobMax.drawn {w w':World} (h:GlobMax w) (hb:Drawn0 w w'):GlobMax w':=by
 obtain ⟨n,rfl⟩:=hb.out
 exact h
structure GlobU8 (w:World):Prop where
 T:Lib.Utf8Tabs 0 1 w
 L:0<w.heap.size∧1<w.heap.size
theorem cell_same {w w':World} {b o:Nat} (h:w'.heap[b]?=w.heap[b]?):w'.cell? ⟨b,o,none⟩=w.cell? ⟨b,o,none⟩:=by
 simp only [World.cell?,h]
theorem lt_of_cell {w:World} {b o:Nat} {v:Value} (h:w.cell? ⟨b,o,none⟩=some v):b<w.heap.size:=World.block_lt_of_cell? w _ h
theorem GlobU8.of {w:World} (h:Lib.Utf8Tabs 0 1 w):GlobU8 w :=
 ⟨h,lt_of_cell (h.1 0 au0),lt_of_cell (h.2 0 au0).1⟩
theorem GlobU8.same {w w':World} (h:GlobU8 w) (h0:w'.heap[0]?=w.heap[0]?) (h1:w'.heap[1]?=w.heap[1]?):GlobU8 w' :=
 .of ⟨fun c hc=>(cell_same h0).trans (h.T.1 c hc),fun i hi=>⟨(cell_same h1).trans (h.T.2 i hi).1,(cell_same h1).trans (h.T.2 i hi).2⟩⟩
theorem GlobU8.below {w w':World} (h:GlobU8 w) (hb:Below w.heap.size w w'):GlobU8 w':=h.same (hb.block _ h.L.1) (hb.block _ h.L.2)
theorem GlobU8.drawn {w w':World} (h:GlobU8 w) (hb:Drawn0 w w'):GlobU8 w':=by
 obtain ⟨n,rfl⟩:=hb.out
 exact ⟨h.T,h.L⟩
abbrev Bs:=List UInt8
def str (l:Bs):ByteArray:=⟨l.toArray⟩
inductive Rs (α:Type) where
 | ok (rest:Bs) (a:α)
 | bad (rest:Bs) (e:Int)
def Rs.map {α β:Type} (f:α→β):Rs α→Rs β
 | .ok r a=>.ok r (f a)
 | .bad r e=>.bad r e
def isBlank (c:UInt8):Bool:=c==32 || c==9 || c==10 || c==13
def blanks:Bs→Bs
 | []=>[]
 | c :: r=>if isBlank c then blanks r else c :: r
def isDig (c:UInt8):Bool:=decide (48≤c.toNat)&&decide (c.toNat≤57)
def sgn (l:Bs):Nat :=
 match l with
 | []=>0
 | c :: r=>if c.toNat<128 then 1 else if(Lib.decodeL (c :: r)).2=1 then 0 else(Lib.decodeL (c :: r)).2
def enc (x:Nat):Bs:=(Utf8.encode (x:Int)).data.toList
def hexv (c:UInt8):Option Nat :=
 if 48≤c.toNat∧c.toNat≤57 then some (c.toNat - 48)
 else if 97≤c.toNat∧c.toNat≤102 then some (c.toNat - 87)
 else if 65≤c.toNat∧c.toNat≤70 then some (c.toNat - 55) else none
def four:Bs→Option Nat
 | a :: b :: c :: d :: _=>(hexv a).bind fun x=>(hexv b).bind fun y=>(hexv c).bind fun z=>(hexv d).bind fun u=>some (4096*x+256*y+16*z+u)
 | _=>none
def unmark (c:UInt8):Option UInt8 :=
 if c=34 then some 34 else if c=92 then some 92 else if c=47 then some 47 else if c=98 then some 8
 else if c=102 then some 12 else if c=110 then some 10 else if c=114 then some 13 else if c=116 then some 9 else none
def uni (l r:Bs):Rs Bs :=
 match four r with
 | none=>.bad l 5
 | some x =>
  if 0xdc00≤x∧x≤0xdfff then .bad l 5
  else if x<0xd800∨0xdfff<x then .ok (r.drop 4) (enc x)
  else match r.drop 4 with
   | c1 :: c2 :: r2=>if c1=92∧c2=117 then match four r2 with
     | some y=>if 0xdc00≤y∧y≤0xdfff then .ok (r2.drop 4) (enc (0x10000+(x - 0xd800)*1024+(y - 0xdc00))) else .bad l 5
     | none=>.bad l 5
    else .bad l 5
   | _=>.bad l 5
def escape (l:Bs):Rs Bs :=
 match l with
 | _ :: c :: r=>match unmark c with
  | some m=>.ok r [m]
  | none=>if c=117 then uni l r else .bad l 5
 | _=>.bad l 5
def chars:Nat→Bs→Bs→Rs Bs
 | 0,l,_=>.bad l 5
 | n+1,l,acc=>match l with
  | []=>.bad [] 5
  | c :: r =>
   if c=34 then .ok r acc
   else if c.toNat<32 then .bad (c :: r) 5
   else if c=92 then match escape (c :: r) with
    | .ok r' t=>chars n r' (acc++t)
    | .bad l' e=>.bad l' e
   else if sgn (c :: r)=0 then .bad (c :: r) 5
   else chars n ((c :: r).drop (sgn (c :: r))) (acc++(c :: r).take (sgn (c :: r)))
def text (l:Bs):Rs Bs :=
 match l with
 | c :: r=>if c=34 then chars (r.length+1) r [] else .bad l 5
 | []=>.bad [] 5
def skipDig:Bs→Bs
 | []=>[]
 | c :: r=>if isDig c then skipDig r else c :: r
def digits (l:Bs):Rs Unit :=
 match l with
 | c :: r=>if isDig c then .ok (skipDig r) () else .bad (c :: r) 5
 | []=>.bad [] 5
def isC (c:UInt8) (l:Bs):Bool:=match l with|d :: _=>d==c|[]=>false
def num1 (l:Bs):Rs Unit:=if isC 48 l then .ok (l.drop 1) () else digits l
def num2 (l:Bs):Rs Unit:=if isC 46 l then digits (l.drop 1) else .ok l ()
def num3 (l:Bs):Rs Unit:=if isC 101 l || isC 69 l then(if isC 43 (l.drop 1) || isC 45 (l.drop 1) then digits (l.drop 2) else digits (l.drop 1)) else .ok l ()
def num (l:Bs):Rs Unit :=
 match num1 (if isC 45 l then l.drop 1 else l) with
 | .bad r e=>.bad r e
 | .ok l2 _=>match num2 l2 with
  | .bad r e=>.bad r e
  | .ok l3 _=>num3 l3
def number (l:Bs):Rs Bs :=
 match num l with
 | .bad r e=>.bad r e
 | .ok r _=>.ok r (l.take (l.length - r.length))
def word:Bs→Bs→Rs Unit
 | [],l=>.ok l ()
 | c :: w,l=>match l with
  | d :: r=>if d=c then word w r else .bad (d :: r) 5
  | []=>.bad [] 5
inductive F where
 | nil
 | leaf (key:Bs) (kind:Int) (text:Bs) (rest:F)
 | node (key:Bs) (kind:Int) (kids rest:F)
def F.app:F→F→F
 | .nil,g=>g
 | .leaf k d t r,g=>.leaf k d t (r.app g)
 | .node k d ks r,g=>.node k d ks (r.app g)
def F.count:F→Nat
 | .nil=>0
 | .leaf _ _ _ r=>r.count+1
 | .node _ _ _ r=>r.count+1
def F.flat:F→List S24
 | .nil=>[]
 | .leaf k d t r=>⟨d,1,0,str k,str t⟩ :: r.flat
 | .node k d ks r=>⟨d,(ks.flat.length+1:Nat),(ks.count:Nat),str k,str []⟩ :: (ks.flat++r.flat)
def F.setKey (k:Bs):F→F
 | .nil=>.nil
 | .leaf _ d t r=>.leaf k d t r
 | .node _ d ks r=>.node k d ks r
def begins (c:UInt8):Bool:=c==123 || c==91 || c==34 || c==45 || isDig c || c==116 || c==102 || c==110
def member (ob:Bool) (l:Bs):Rs Bs :=
 if ob then match text l with
  | .bad r e=>.bad r e
  | .ok l1 k=>if isC 58 (blanks l1) then .ok (blanks ((blanks l1).drop 1)) k else .bad (blanks l1) 5
 else .ok l []
def items (v:Bs→Bs→Rs F) (ob:Bool) (close:UInt8):Nat→Bs→Rs F
 | 0,l=>.bad l 5
 | n+1,l=>match member ob l with
  | .bad r e=>.bad r e
  | .ok l1 key=>match v key l1 with
   | .bad r e=>.bad r e
   | .ok l2 t =>
    if isC close (blanks l2) then .ok ((blanks l2).drop 1) t
    else if isC 44 (blanks l2) then(items v ob close n (blanks ((blanks l2).drop 1))).map t.app
    else .bad (blanks l2) 5
def many (v:Bs→Bs→Rs F) (ob:Bool) (key r:Bs):Rs F :=
 let close:UInt8:=if ob then 125 else 93
 let kind:Int:=if ob then 7 else 6
 if isC close (blanks r) then .ok ((blanks r).drop 1) (.node key kind .nil .nil)
 else(items v ob close (r.length+1) (blanks r)).map fun f=>.node key kind f .nil
def value:Nat→Bs→Bs→Rs F
 | d,key,l=>match l with
  | []=>.bad [] 5
  | c :: r =>
   if begins c=false then .bad (c :: r) 5
   else match d with
    | 0=>.bad (c :: r) 7
    | d+1 =>
     if c=123 then many (value d) true key r
     else if c=91 then many (value d) false key r
     else if c=34 then(text (c :: r)).map fun t=>.leaf key 5 t .nil
     else if c=116 then(word [116,114,117,101] (c :: r)).map fun _=>.leaf key 2 [] .nil
     else if c=102 then(word [102,97,108,115,101] (c :: r)).map fun _=>.leaf key 3 [] .nil
     else if c=110 then(word [110,117,108,108] (c :: r)).map fun _=>.leaf key 1 [] .nil
     else(number (c :: r)).map fun t=>.leaf key 4 t .nil
def parse (s:Bs):F × Int × Int :=
 if 65536<s.length then(.nil,0,3)
 else match value 32 [] (blanks s) with
  | .bad r e=>(.nil,((s.length - r.length:Nat):Int),e)
  | .ok r f=>match blanks r with
   | []=>(f,0,0)
   | c :: r'=>(.nil,((s.length - (r'.length+1):Nat):Int),5)
structure Upd (B:Nat) (w w':World):Prop where
 os:w'.os=w.os
 tape:w'.tape=w.tape
 output:w'.output=w.output
 size:w.heap.size≤w'.heap.size
 block:∀ k,k<w.heap.size→k≠B→w'.heap[k]?=w.heap[k]?
theorem Upd.refl (B:Nat) (w:World):Upd B w w:=⟨rfl,rfl,rfl,Nat.le_refl _,fun _ _ _=>rfl⟩
theorem Upd.trans {B:Nat} {a b c:World} (h:Upd B a b) (k:Upd B b c):Upd B a c :=
 ⟨k.os.trans h.os,k.tape.trans h.tape,k.output.trans h.output,Nat.le_trans h.size k.size,fun i hi hb=>(k.block i (Nat.lt_of_lt_of_le hi h.size) hb).trans (h.block i hi hb)⟩
theorem Upd.of_below {B:Nat} {w w':World} (h:Below w.heap.size w w'):Upd B w w':=⟨h.os,h.tape,h.output,h.size,fun k hk _=>h.block k hk⟩
theorem Upd.of_drawn {B:Nat} {w w':World} (h:Drawn0 w w'):Upd B w w':=Upd.of_below h.below
theorem Upd.set {B:Nat} {w w':World} (h:Upd B w w') (j:Nat) (u:Value):Upd B w (w'.setCell ⟨B,j,none⟩ u) :=
 ⟨h.os,h.tape,h.output,au47,fun k hk hb=>(Below.heap_setCell w' ⟨B,j,none⟩ u k hb).trans (h.block k hk hb)⟩
theorem Upd.below {B base:Nat} {w w':World} (h:Upd B w w') (hb:base≤B) (hs:base≤w.heap.size):Below base w w':=⟨h.os,h.tape,h.output,h.size,fun k hk=>h.block k au0 au0⟩
theorem drawn_trans {a b c:World} (h:Drawn0 a b) (k:Drawn0 b c):Drawn0 a c:=by
 obtain ⟨n,rfl⟩:=h.out
 obtain ⟨m,rfl⟩:=k.out
 exact ⟨⟨n+m,by rw [World.drewN_drewN]⟩⟩
theorem drawn_drew (a b:World) (h:Drawn0 a b):Drawn0 a b.drew:=by
 obtain ⟨n,rfl⟩:=h.out
 exact ⟨⟨n+1,rfl⟩⟩
def strings_IndexByte.f (s:ByteArray) (c:Int):Option Int:=some (Lib.indexByte s.data.toList c.toNat.toUInt8)
theorem strings_IndexByte.calls (a0:ByteArray) (a1:Int) (r:Int) (w:World) (h:strings_IndexByte.f a0 a1=some r) :
  Calls Tryd.prog 63 #[.string a0,.int .u8 a1] w fun e w'=>e=.returned (.int .i64 r)∧Drawn0 w w':=by
 obtain rfl:=Option.some.inj h
 refine(Tryd.strings_IndexByte a0 a1 w).mono ?_
 rintro e w' ⟨rfl,rfl⟩
 exact ⟨rfl,Drawn0.refl _⟩
structure At (s:ByteArray) (p:Nat) (l:Bs):Prop where
 len:p+l.length=s.size
 drop:s.data.toList.drop p=l
theorem At.nil {s:ByteArray} {p:Nat} (h:At s p []):p=s.size:=by simpa using h.len
theorem At.lt {s:ByteArray} {p:Nat} {c:UInt8} {r:Bs} (h:At s p (c :: r)):p<s.size:=by have:=h.len;simp at this;omega
theorem At.get {s:ByteArray} {p:Nat} {c:UInt8} {r:Bs} (h:At s p (c :: r)) (hh:p<s.size):s[p]'hh=c:=by
 have h2:=h.drop
 rw [List.drop_eq_getElem_cons (by simpa using hh)] at h2
 injection h2
theorem At.byte {s:ByteArray} {p:Nat} {c:UInt8} {r:Bs} (h:At s p (c :: r)):∀ hh:p<s.size,((s[p]'hh).toNat:Int)=(c.toNat:Int):=fun hh=>by rw [h.get hh]
theorem At.next {s:ByteArray} {p:Nat} {c:UInt8} {r:Bs} (h:At s p (c :: r)):At s (p+1) r:=by
 refine ⟨by have:=h.len;simp at this;omega,?_⟩
 rw [← List.drop_drop,h.drop]
 rfl
theorem At.add {s:ByteArray} {p:Nat} {l:Bs} (h:At s p l) (n:Nat) (hn:n≤l.length):At s (p+n) (l.drop n):=by
 refine ⟨by have:=h.len;rw [List.length_drop];omega,?_⟩
 rw [← List.drop_drop,h.drop]
theorem At.start (s:ByteArray):At s 0 s.data.toList:=⟨au5,au5⟩
theorem At.pos {s:ByteArray} {p:Nat} {l:Bs} (h:At s p l):p=s.size - l.length:=by have:=h.len;omega
theorem At.le {s:ByteArray} {p:Nat} {l:Bs} (h:At s p l):p≤s.size:=by have:=h.len;omega
def PB (w:World) (g:Nat) (s:ByteArray) (p:Nat) (v:Value):Prop:=w.heap[g]?=some (.cells #[.string s,.int .i64 (p:Int),v] 117 (0,0))
theorem PB.cells {w:World} {g:Nat} {s:ByteArray} {p:Nat} {v:Value} (h:PB w g s p v):w.cell? ⟨g,0,none⟩=some (.string s)∧w.cell? ⟨g,1,none⟩=some (.int .i64 (p:Int))∧w.cell? ⟨g,2,none⟩=some v :=
 ⟨(blk_cell h 0).trans rfl,(blk_cell h 1).trans rfl,(blk_cell h 2).trans rfl⟩
theorem PB.lt {w:World} {g:Nat} {s:ByteArray} {p:Nat} {v:Value} (h:PB w g s p v):g<w.heap.size:=blk_lt h
theorem PB.free {w:World} {g:Nat} {s:ByteArray} {p:Nat} {v:Value} (h:PB w g s p v):w.frozen? ⟨g,1,none⟩=false∧w.frozen? ⟨g,2,none⟩=false:=⟨blk_frozen h 1,blk_frozen h 2⟩
theorem PB.set {w:World} {g:Nat} {s:ByteArray} {p:Nat} {v:Value} (h:PB w g s p v) (q:Nat):PB (w.setCell ⟨g,1,none⟩ (.int .i64 (q:Int))) g s q v:=by
 unfold PB
 simpa using blk_set h 1 (.int .i64 (q:Int))
theorem PB.set2 {w:World} {g:Nat} {s:ByteArray} {p:Nat} {v:Value} (h:PB w g s p v) (u:Value):PB (w.setCell ⟨g,2,none⟩ u) g s p u:=by
 unfold PB
 simpa using blk_set h 2 u
theorem PB.drawn {w w':World} {g:Nat} {s:ByteArray} {p:Nat} {v:Value} (h:PB w g s p v) (hd:Drawn0 w w'):PB w' g s p v:=by
 obtain ⟨n,rfl⟩:=hd.out
 exact h
theorem PB.below {w w':World} {g:Nat} {s:ByteArray} {p:Nat} {v:Value} (h:PB w g s p v) (hb:Below w.heap.size w w'):PB w' g s p v:=(hb.block _ h.lt).trans h
theorem PB.upd {w w':World} {g B:Nat} {s:ByteArray} {p:Nat} {v:Value} (h:PB w g s p v) (hb:Upd B w w') (hne:g≠B):PB w' g s p v:=(hb.block _ h.lt hne).trans h
def Stops (s:ByteArray) (l:Bs) (x:Int) (e:Ending):Prop :=
 e=.panicked [{ v:=.iface 113 (.agg #[.int .i64 ((s.size - l.length:Nat):Int),.int .i64 x]),recovered:=false }]
theorem At.stops {s:ByteArray} {p:Nat} {l:Bs} (ha:At s p l) (x:Int):Stops s l x (.panicked [{ v:=.iface 113 (.agg #[.int .i64 (p:Int),.int .i64 x]),recovered:=false }]):=by
 unfold Stops
 rw [← ha.pos]
set_option maxHeartbeats 1000000 in
set_option maxRecDepth 100000 in
theorem fail_calls (q:Value) (p:Int) (w:World):Calls Tryd.prog 71 #[q,.int .i64 p] w fun e w'=>e=.panicked [{ v:=.iface 113 (.agg #[.int .i64 p,.int .i64 5]),recovered:=false }]∧w'=w:=by
 go_enter Tryd.func71,Tryd.ntmps71
 go_wp2
 exact ⟨rfl,rfl,rfl⟩
set_option maxHeartbeats 1000000 in
set_option maxRecDepth 100000 in
theorem byte_some (g:Nat) (s:ByteArray) (p:Nat) (v:Value) (c:UInt8) (r:Bs) (w:World) (hP:PB w g s p v) (ha:At s p (c :: r)) :
  Calls Tryd.prog 77 #[.pointer (some ⟨g,0,none⟩)] w fun e w'=>e=.returned (.int .u8 (c.toNat:Int))∧Drawn0 w w':=by
 obtain ⟨h0,h1,h2⟩:=hP.cells
 have hlt:=ha.lt
 have hd:decide (p<s.size)=true:=decide_eq_true au0
 have hx:=ha.byte
 have p1:(0≤(p:Int))=True:=eq_true au0
 have p2:(p:Int)<(s.size:Int):=by omega
 clear h2
 go_enter Tryd.func77,Tryd.ntmps77
 go_wp2
 repeat(go_quiet (fail);try go_wp2)
 go_ret
 exact ⟨rfl,au8⟩
set_option maxHeartbeats 1000000 in
set_option maxRecDepth 100000 in
theorem byte_none (g:Nat) (s:ByteArray) (p:Nat) (v:Value) (w:World) (hP:PB w g s p v) (ha:At s p []) :
  Calls Tryd.prog 77 #[.pointer (some ⟨g,0,none⟩)] w fun e w'=>e=.returned (.int .u8 0)∧Drawn0 w w':=by
 obtain ⟨h0,h1,h2⟩:=hP.cells
 have hlt:=ha.nil
 have hd:decide (p<s.size)=false:=decide_eq_false au0
 clear h2 hlt
 go_enter Tryd.func77,Tryd.ntmps77
 go_wp2
 repeat(go_quiet (fail);try go_wp2)
 go_ret
 exact ⟨rfl,au8⟩
def hd (l:Bs):Int:=match l with|[]=>0|c :: _=>(c.toNat:Int)
theorem byte_calls (g:Nat) (s:ByteArray) (p:Nat) (v:Value) (l:Bs) (w:World) (hP:PB w g s p v) (ha:At s p l) :
  Calls Tryd.prog 77 #[.pointer (some ⟨g,0,none⟩)] w fun e w'=>e=.returned (.int .u8 (hd l))∧Drawn0 w w':=by
 cases l with
 | nil=>exact byte_none g s p v w hP ha
 | cons c r=>exact byte_some g s p v c r w hP ha
def Post1 (s:ByteArray) (g:Nat) (v:Value) (w:World) (x:Rs Unit) (e:Ending) (w':World):Prop :=
 match x with
 | .ok r _=>e=.returned (.tuple #[])∧(∃ p,At s p r∧PB w' g s p v)∧Upd g w w'
 | .bad r x=>Stops s r x e∧Upd g w w'
theorem at_lt {s:ByteArray} {p:Nat} {c:UInt8} {r:Bs} (ha:At s p (c :: r)):decide (p<s.size)=true∧decide (s.size≤p)=false:=by
 have:=ha.lt
 exact ⟨decide_eq_true au0,decide_eq_false au0⟩
theorem at_ge {s:ByteArray} {p:Nat} (ha:At s p []):decide (p<s.size)=false∧decide (s.size≤p)=true:=by
 have:=ha.nil
 exact ⟨decide_eq_false au0,decide_eq_true au0⟩
set_option maxHeartbeats 1000000 in
set_option maxRecDepth 100000 in
theorem take_yes (g:Nat) (s:ByteArray) (p:Nat) (v:Value) (c:UInt8) (r:Bs) (w:World) (hs:s.size≤65536) (hP:PB w g s p v) (ha:At s p (c :: r)) :
  Calls Tryd.prog 81 #[.pointer (some ⟨g,0,none⟩),.int .u8 (c.toNat:Int)] w fun e w'=>e=.returned (.tuple #[])∧PB w' g s (p+1) v∧Upd g w w':=by
 obtain ⟨h0,h1,h2⟩:=hP.cells
 obtain ⟨f1,f2⟩:=hP.free
 obtain ⟨d1,d2⟩:=at_lt ha
 have hlt:=ha.lt
 have hx:=ha.byte
 have p1:(0≤(p:Int))=True:=eq_true au0
 have p2:(p:Int)<(s.size:Int):=by omega
 have p3:p<65536:=by omega
 have q1:((c.toNat:Int) != (c.toNat:Int))=false:=by simp
 have HP:=Lib.hid hP
 clear hP h2
 go_enter Tryd.func81,Tryd.ntmps81
 go_wp2
 repeat(go_quiet (fail);try go_wp2)
 go_end0
 exact ⟨rfl,(HP.out.drawn au8).set (p+1),(Upd.of_drawn au8).set _ _⟩
set_option maxHeartbeats 1000000 in
set_option maxRecDepth 100000 in
theorem take_no (g:Nat) (s:ByteArray) (p:Nat) (v:Value) (c:UInt8) (l:Bs) (w:World) (hP:PB w g s p v) (ha:At s p l) (hc:isC c l=false) :
  Calls Tryd.prog 81 #[.pointer (some ⟨g,0,none⟩),.int .u8 (c.toNat:Int)] w fun e w'=>Stops s l 5 e∧Drawn0 w w':=by
 obtain ⟨h0,h1,h2⟩:=hP.cells
 clear hP h2
 cases l with
 | nil =>
  obtain ⟨d1,d2⟩:=at_ge ha
  have hq:=ha.nil
  have HQ:=Lib.hid hq
  clear hq
  go_enter Tryd.func81,Tryd.ntmps81
  go_wp2_with fail
  go_quiet (fail)
  go_wp2_with (go_at_call 71;refine(fail_calls _ _ _).mono ?_;rintro e w1 ⟨rfl,rfl⟩)
  exact ⟨rfl,ha.stops 5,au8⟩
 | cons d r =>
  obtain ⟨d1,d2⟩:=at_lt ha
  have hlt:=ha.lt
  have hx:=ha.byte
  have p1:(0≤(p:Int))=True:=eq_true au0
  have p2:(p:Int)<(s.size:Int):=by omega
  have hne:d≠c:=by simpa [isC] using hc
  have q1:((d.toNat:Int) != (c.toNat:Int))=true:=by
   simp only [bne_iff_ne,ne_eq,Int.ofNat_inj]
   exact fun e=>hne (UInt8.toNat_inj.mp e)
  go_enter Tryd.func81,Tryd.ntmps81
  go_wp2_with fail
  go_quiet (fail)
  go_wp2_with (go_at_call 71;refine(fail_calls _ _ _).mono ?_;rintro e w1 ⟨rfl,rfl⟩)
  exact ⟨rfl,ha.stops 5,au8⟩
theorem u8_back (c:UInt8):((c.toNat:Int).toNat.toUInt8)=c:=by simp
theorem all_bytes {p:UInt8→Bool} (h:(List.range 256).all (fun n=>p n.toUInt8)=true) (c:UInt8):p c=true:=by
 have:=List.all_eq_true.1 h c.toNat (List.mem_range.2 c.toNat_lt)
 simpa using this
theorem idx_calls (s:ByteArray) (c:UInt8) (w:World) :
  Calls Tryd.prog 63 #[.string s,.int .u8 (c.toNat:Int)] w fun e w'=>e=.returned (.int .i64 (Lib.indexByte s.data.toList c))∧w'=w:=by
 have:=Tryd.strings_IndexByte s (c.toNat:Int) w
 rw [u8_back] at this
 exact this
theorem idx_blank (c:UInt8):decide (0≤Lib.indexByte [32,9,10,13] c)=isBlank c:=by
 have:=all_bytes (p:=fun c=>decide (0≤Lib.indexByte [32,9,10,13] c)==isBlank c) au11 c
 simpa using this
set_option maxHeartbeats 2000000 in
set_option maxRecDepth 100000 in
theorem blanks_calls (g:Nat) (s:ByteArray) (p:Nat) (v:Value) (l:Bs) (w:World) (hs:s.size≤65536) (hP:PB w g s p v) (ha:At s p l) :
  Calls Tryd.prog 69 #[.pointer (some ⟨g,0,none⟩)] w fun e w'=>e=.returned (.tuple #[])∧(∃ q,At s q (blanks l)∧PB w' g s q v)∧Upd g w w':=by
 have HP:=Lib.hid hP
 have HA:=Lib.hid ha
 clear hP ha
 go_enter Tryd.func69,Tryd.ntmps69
 go_wp2_with fail
 go_loopg [] l.length (fun k wr=>∃ q m,Hid (At s q m∧blanks m=blanks l∧m.length≤k)∧Hid (PB wr g s q v)∧Upd g w wr)
 case atStart=>exact ⟨p,l,Lib.hid ⟨HA.out,rfl,Nat.le_refl _⟩,HP,Upd.refl _ _⟩
 case round =>
  obtain ⟨q,m,HM,HQ,hu⟩:=hrel
  obtain ⟨h0,h1,h2⟩:=HQ.out.cells
  obtain ⟨f1,f2⟩:=HQ.out.free
  clear h2 f2
  cases m with
  | nil =>
   obtain ⟨d1,d2⟩:=at_ge HM.out.1
   go_wp2_with fail
   go_quiet (fail)
   go_wp2_with fail
   go_end0
   refine ⟨rfl,⟨q,?_,HQ.out.drawn au8⟩,hu.trans (Upd.of_drawn au8)⟩
   rw [← HM.out.2.1]
   exact HM.out.1
  | cons c r =>
   obtain ⟨d1,d2⟩:=at_lt HM.out.1
   have hlt:=HM.out.1.lt
   have hx:=HM.out.1.byte
   have p1:(0≤(q:Int))=True:=eq_true au0
   have p2:(q:Int)<(s.size:Int):=by omega
   have p3:q<65536:=by omega
   have hb:=idx_blank c
   cases hc:isBlank c with
   | true =>
    rw [hc] at hb
    go_wp2_with fail
    go_quiet ((go_at_call 63;exact Calls.quiet_of_same (idx_calls _ c _)))
    go_wp2_with fail
    go_roundg r.length
    case measure =>
     have:=HM.out.2.2
     simp at this
     omega
    case rel =>
     refine ⟨q+1,r,Lib.hid ⟨HM.out.1.next,?_,Nat.le_refl _⟩,Lib.hid ?_,?_⟩
     ·rw [← HM.out.2.1,blanks,if_pos hc]
     ·exact(HQ.out.drawn au8).set (q+1)
     ·exact(hu.trans (Upd.of_drawn au8)).set _ _
   | false =>
    rw [hc] at hb
    go_wp2_with fail
    go_quiet ((go_at_call 63;exact Calls.quiet_of_same (idx_calls _ c _)))
    go_wp2_with fail
    go_end0
    refine ⟨rfl,⟨q,?_,HQ.out.drawn au8⟩,hu.trans (Upd.of_drawn au8)⟩
    rw [← HM.out.2.1,blanks,if_neg (by rw [hc];simp)]
    exact HM.out.1
theorem isDig_iff (c:UInt8):isDig c=true ↔ (48≤c.toNat∧c.toNat≤57):=by simp [isDig]
set_option maxHeartbeats 2000000 in
set_option maxRecDepth 100000 in
theorem digits_no (g:Nat) (s:ByteArray) (p:Nat) (v:Value) (l:Bs) (w:World) (hP:PB w g s p v) (ha:At s p l) (hc:∀ c r,l=c :: r→isDig c=false) :
  Calls Tryd.prog 91 #[.pointer (some ⟨g,0,none⟩)] w fun e w'=>Stops s l 5 e∧Drawn0 w w':=by
 have HP:=Lib.hid hP
 have HA:=Lib.hid ha
 have hh:hd l<48∨(48≤hd l∧57<hd l):=by
  cases l with
  | nil=>left;decide
  | cons c r =>
   have:=hc c r rfl
   simp only [hd]
   simp [isDig] at this
   omega
 clear hP ha hc
 go_enter Tryd.func91,Tryd.ntmps91
 generalize hz:hd l=z at hh
 have HZ:=Lib.hid hz
 clear hz
 rcases hh with h1|⟨h1,h2⟩
 ·go_wp2_with (go_at_call 77;refine(byte_calls g s p v l _ HP.out HA.out).mono ?_;rw [HZ.out];rintro e w1 ⟨rfl,hd1⟩;have HD1:=Lib.hid hd1;clear hd1;obtain ⟨k0,k1,k2⟩:=(HP.out.drawn HD1.out).cells;clear k0 k2)
  go_wp2_with (go_at_call 71;refine(fail_calls _ _ _).mono ?_;rintro e w2 ⟨rfl,rfl⟩)
  exact ⟨rfl,HA.out.stops 5,HD1.out⟩
 ·go_wp2_with (go_at_call 77;refine(byte_calls g s p v l _ HP.out HA.out).mono ?_;rw [HZ.out];rintro e w1 ⟨rfl,hd1⟩;have HD1:=Lib.hid hd1;clear hd1;obtain ⟨k0,k1,k2⟩:=(HP.out.drawn HD1.out).cells;clear k0 k2)
  go_wp2_with (go_at_call 71;refine(fail_calls _ _ _).mono ?_;rintro e w2 ⟨rfl,rfl⟩)
  exact ⟨rfl,HA.out.stops 5,HD1.out⟩
set_option maxHeartbeats 2000000 in
set_option maxRecDepth 100000 in
theorem digits_yes (g:Nat) (s:ByteArray) (p:Nat) (v:Value) (c:UInt8) (r:Bs) (w:World) (hs:s.size≤65536) (hP:PB w g s p v) (ha:At s p (c :: r)) (hc:isDig c=true) :
  Calls Tryd.prog 91 #[.pointer (some ⟨g,0,none⟩)] w fun e w'=>e=.returned (.tuple #[])∧(∃ q,At s q (skipDig (c :: r))∧PB w' g s q v)∧Upd g w w':=by
 have HP:=Lib.hid hP
 have HA:=Lib.hid ha
 have hh:48≤hd (c :: r)∧hd (c :: r)≤57:=by
  have:=(isDig_iff c).1 hc
  simp only [hd]
  omega
 clear hP ha hc
 go_enter Tryd.func91,Tryd.ntmps91
 generalize hz:hd (c :: r)=z at hh
 have HZ:=Lib.hid hz
 clear hz
 obtain ⟨h1,h2⟩:=hh
 generalize hl:c :: r=l at HA HZ
 have HL:=Lib.hid hl
 clear hl
 have tok1:True:=trivial
 go_wp2_with (first
  | (go_at_call 77;have _t:=tok1;refine(byte_calls g s p v l _ HP.out HA.out).mono ?_;rw [HZ.out];rintro e w1 ⟨rfl,hd1⟩;have HD1:=Lib.hid hd1;clear hd1 tok1 _t)
  | (go_at_call 77;refine(byte_calls g s p v l _ (HP.out.drawn HD1.out) HA.out).mono ?_;rw [HZ.out];rintro e w2 ⟨rfl,hd2⟩;have HD2:=Lib.hid hd2;clear hd2))
 go_loopg [3] l.length (fun k x wr=>∃ q m,Hid (At s q m∧skipDig m=skipDig l∧m.length≤k)∧x=.int .u8 (hd m)∧Hid (PB wr g s q v)∧Upd g w wr)
 case atStart=>exact ⟨p,l,Lib.hid ⟨HA.out,rfl,Nat.le_refl _⟩,by rw [HZ.out],Lib.hid ((HP.out.drawn HD1.out).drawn HD2.out),(Upd.of_drawn HD1.out).trans (Upd.of_drawn HD2.out)⟩
 case round =>
  clear h1 h2
  obtain ⟨q,m,HM,rfl,HQ,hu⟩:=hrel
  have hstop:(∀ c r,m=c :: r→isDig c=false)→hd m<48∨(48≤hd m∧57<hd m):=by
   intro hc
   cases m with
   | nil=>left;decide
   | cons c r =>
    have:=hc c r rfl
    simp only [hd]
    simp [isDig] at this
    omega
  have hgo:∀ c r,m=c :: r→isDig c=true→48≤hd m∧hd m≤57:=by
   intro c r hm hc
   subst hm
   have:=(isDig_iff c).1 hc
   simp only [hd]
   omega
  by_cases hex:∃ c r,m=c :: r∧isDig c=true
  ·obtain ⟨c,r,hm,hc⟩:=hex
   obtain ⟨h1,h2⟩:=hgo c r hm hc
   subst hm
   have HM2:=Lib.hid HM.out.1.next
   have hlt:=HM.out.1.lt
   have p3:q<65536:=by omega
   obtain ⟨k0,k1,k2⟩:=HQ.out.cells
   obtain ⟨f1,f2⟩:=HQ.out.free
   clear hstop hgo k0 k2 f2
   generalize hz:hd (c :: r)=z at h1 h2
   have HZ2:=Lib.hid hz
   clear hz
   go_wp2_with (go_at_call 77;refine(byte_calls g s (q+1) v r _ (HQ.out.set (q+1)) HM2.out).mono ?_;rintro e w3 ⟨rfl,hd3⟩;have HD3:=Lib.hid hd3;clear hd3)
   go_roundg r.length
   case measure =>
    have:=HM.out.2.2
    simp at this
    omega
   case rel =>
    refine ⟨q+1,r,Lib.hid ⟨HM2.out,?_,Nat.le_refl _⟩,rfl,Lib.hid ((HQ.out.set (q+1)).drawn HD3.out),(hu.set _ _).trans (Upd.of_drawn HD3.out)⟩
    rw [← HM.out.2.1,skipDig,if_pos hc]
  ·have hc:∀ c r,m=c :: r→isDig c=false:=by
    intro c r hm
    cases h:isDig c with
    | false=>rfl
    | true=>exact absurd ⟨c,r,hm,h⟩ hex
   have hh:=hstop hc
   have hsk:skipDig m=m:=by
    cases m with
    | nil=>rfl
    | cons c r=>rw [skipDig,if_neg (by rw [hc c r rfl];simp)]
   have HSK:=Lib.hid hsk
   clear hstop hgo hex hc hsk
   generalize hz:hd m=z at hh
   have HZ2:=Lib.hid hz
   clear hz
   rcases hh with h1|⟨h1,h2⟩
   ·go_wp2_with fail
    go_end0
    refine ⟨rfl,⟨q,?_,HQ.out⟩,hu⟩
    rw [← HM.out.2.1,HSK.out]
    exact HM.out.1
   ·go_wp2_with fail
    go_end0
    refine ⟨rfl,⟨q,?_,HQ.out⟩,hu⟩
    rw [← HM.out.2.1,HSK.out]
    exact HM.out.1
abbrev Nd:=S24
abbrev kN:Kd Nd:=k24
abbrev zN:Nd:=z24
def Row (w:World) (base:Nat) (v:Value) (xs:List Nd):Prop:=Kd.R kN 24 w base (fun k=>some k=v.ownBlock) v xs
theorem row_of {w:World} {base:Nat} {ok:Nat→Prop} {v:Value} {xs:List Nd} (h:Kd.R kN 24 w base ok v xs) (ok':Nat→Prop) (h':∀ k,v.ownBlock=some k→ok' k):Kd.R kN 24 w base ok' v xs:=by
 obtain ⟨_,inner,ho,hr⟩:=h
 refine ⟨h',inner,ho,hr.imp_ (fun x cs hp=>?_)⟩
 rw [k24_openM hp]
 exact k24_mkM _ _ _ _
theorem Row.mk_ {w:World} {base:Nat} {ok:Nat→Prop} {v:Value} {xs:List Nd} (h:Kd.R kN 24 w base ok v xs):Row w base v xs:=row_of h _ (fun k hk=>hk.symm)
theorem Row.all {w:World} {base:Nat} {v:Value} {xs:List Nd} (h:Row w base v xs):Kd.R kN 24 w base (fun _=>True) v xs:=row_of h _ (fun _ _=>trivial)
theorem Row.move {w w1:World} {base:Nat} {v:Value} {xs:List Nd} (h:Row w base v xs) (hm:∀ k,v.ownBlock=some k→w1.heap[k]?=w.heap[k]?):Row w1 base v xs:=Kd.R_move h (fun k hk=>hm k hk.symm)
theorem Row.lt {w:World} {base:Nat} {v:Value} {xs:List Nd} (h:Row w base v xs) (k:Nat) (hk:v.ownBlock=some k):k<w.heap.size:=by
 obtain ⟨_,inner,ho,_⟩:=h
 exact own_lt ho k hk
theorem Row.base_ {w:World} {base:Nat} {v:Value} {xs:List Nd} (h:Row w base v xs) (k:Nat) (hk:v.ownBlock=some k):base≤k:=by
 obtain ⟨_,inner,ho,_⟩:=h
 exact own_base ho k hk
theorem Row.ne {w:World} {base:Nat} {v:Value} {xs:List Nd} (h:Row w base v xs) {g t:Nat} {cells:Array Value} (hb:w.heap[g]?=some (.cells cells t (0,0))) (ht:24≠t):some g≠v.ownBlock:=Kd.R_ne h hb ht
theorem Row.at_ {w:World} {base:Nat} {v:Value} {xs:List Nd} (h:Row w base v xs) {i:Nat} (hi:i<xs.length) :
  ∃ b c,v=.slice (some ⟨b,0,none⟩) xs.length c∧xs.length≤c∧base≤b∧b<w.heap.size ∧
   (w.cell? ⟨b,i*5,none⟩=some (.int .i64 (xs.getD i zN).f0)∧w.cell? ⟨b,i*5+1,none⟩=some (.int .i64 (xs.getD i zN).f1)∧w.cell? ⟨b,i*5+2,none⟩=some (.int .i64 (xs.getD i zN).f2)∧w.cell? ⟨b,i*5+3,none⟩=some (.string (xs.getD i zN).f3)∧w.cell? ⟨b,i*5+4,none⟩=some (.string (xs.getD i zN).f4))∧∀ j,w.frozen? ⟨b,i*5+j,none⟩=false:=by
 have hown:=Kd.R_own h
 obtain ⟨inner,ho⟩:=hown
 rcases ho.2 with ⟨hv,h0⟩|⟨b,c,cur,hv,hb,hh,hnc,_⟩
 ·omega
 ·subst hv
  obtain ⟨cs,hl,hM,hc,hf⟩:=Kd.R_elem h zN (i:Int) au0 au0
  obtain rfl:=k24_openM hM
  refine ⟨b,c,rfl,hnc,hb,own_lt ho b au30,⟨hc 0 _ rfl,hc 1 _ rfl,hc 2 _ rfl,hc 3 _ rfl,hc 4 _ rfl⟩,hf⟩
theorem Row.put {w:World} {base b c:Nat} {xs:List Nd} (h:Row w base (.slice (some ⟨b,0,none⟩) xs.length c) xs) {i:Nat} (hi:i<xs.length) (j:Nat) (hj:j<5) (u:Value) (x':Nd)
  (hx:[Value.int .i64 x'.f0,.int .i64 x'.f1,.int .i64 x'.f2,.string x'.f3,.string x'.f4]=([Value.int .i64 (xs.getD i zN).f0,.int .i64 (xs.getD i zN).f1,.int .i64 (xs.getD i zN).f2,.string (xs.getD i zN).f3,.string (xs.getD i zN).f4]:List Value).set j u) :
  Row (w.setCell ⟨b,i*5+j,none⟩ u) base (.slice (some ⟨b,0,none⟩) xs.length c) (xs.set i x'):=by
 obtain ⟨cs,hl,hM,hc,hf⟩:=Kd.R_elem h zN (i:Int) au0 au0
 obtain rfl:=k24_openM hM
 have hM2:kN.M w base (fun _=>False) x' (([Value.int .i64 (xs.getD i zN).f0,.int .i64 (xs.getD i zN).f1,.int .i64 (xs.getD i zN).f2,.string (xs.getD i zN).f3,.string (xs.getD i zN).f4]:List Value).take j++[u]++([Value.int .i64 (xs.getD i zN).f0,.int .i64 (xs.getD i zN).f1,.int .i64 (xs.getD i zN).f2,.string (xs.getD i zN).f3,.string (xs.getD i zN).f4]:List Value).drop (j+[u].length)):=by
  have e:(([Value.int .i64 (xs.getD i zN).f0,.int .i64 (xs.getD i zN).f1,.int .i64 (xs.getD i zN).f2,.string (xs.getD i zN).f3,.string (xs.getD i zN).f4]:List Value).take j++[u]++([Value.int .i64 (xs.getD i zN).f0,.int .i64 (xs.getD i zN).f1,.int .i64 (xs.getD i zN).f2,.string (xs.getD i zN).f3,.string (xs.getD i zN).f4]:List Value).drop (j+[u].length))=[Value.int .i64 x'.f0,.int .i64 x'.f1,.int .i64 x'.f2,.string x'.f3,.string x'.f4]:=by
   rw [hx]
   match j,hj with
   | 0,_=>rfl
   | 1,_=>rfl
   | 2,_=>rfl
   | 3,_=>rfl
   | 4,_=>rfl
  rw [e]
  exact k24_mkM _ _ _ _
 have:=(Kd.R_seg h (i:Int) au0 au0 (seg:=[u]) (j:=j) hl hc (by show j+1≤5;omega) hM2 (fun _ hk=>hk.elim)).1
 exact this
structure Ch (g:Nat) (v v':Value) (w w':World):Prop where
 os:w'.os=w.os
 tape:w'.tape=w.tape
 output:w'.output=w.output
 size:w.heap.size≤w'.heap.size
 block:∀ k,k<w.heap.size→k≠g→some k≠v.ownBlock→w'.heap[k]?=w.heap[k]?
 row:∀ k,v'.ownBlock=some k→v.ownBlock=some k∨w.heap.size≤k
theorem Ch.refl (g:Nat) (v:Value) (w:World):Ch g v v w w:=⟨rfl,rfl,rfl,Nat.le_refl _,fun _ _ _ _=>rfl,fun _ hk=>.inl hk⟩
theorem Ch.trans {g:Nat} {u v x:Value} {a b c:World} (h:Ch g u v a b) (k:Ch g v x b c):Ch g u x a c:=by
 refine ⟨k.os.trans h.os,k.tape.trans h.tape,k.output.trans h.output,Nat.le_trans h.size k.size,fun i hi hg hu=>?_,fun i hi=>?_⟩
 ·refine(k.block i (Nat.lt_of_lt_of_le hi h.size) hg (fun e=>?_)).trans (h.block i hi hg hu)
  rcases h.row i e.symm with e1|e1
  ·exact hu e1.symm
  ·omega
 ·rcases k.row i hi with e1|e1
  ·exact h.row i e1
  ·exact .inr (Nat.le_trans h.size e1)
theorem Ch.of_upd {g:Nat} {v:Value} {w w':World} (h:Upd g w w'):Ch g v v w w':=⟨h.os,h.tape,h.output,h.size,fun k hk hg _=>h.block k hk hg,fun _ hk=>.inl hk⟩
theorem Ch.of_below {g:Nat} {v:Value} {w w':World} (h:Below w.heap.size w w'):Ch g v v w w':=Ch.of_upd (Upd.of_below h)
theorem Ch.of_drawn {g:Nat} {v:Value} {w w':World} (h:Drawn0 w w'):Ch g v v w w':=Ch.of_upd (Upd.of_drawn h)
theorem Ch.setRow {g b n c:Nat} {v:Value} {w w':World} (h:Ch g v (.slice (some ⟨b,0,none⟩) n c) w w') (j:Nat) (u:Value):Ch g v (.slice (some ⟨b,0,none⟩) n c) w (w'.setCell ⟨b,j,none⟩ u):=by
 refine ⟨h.os,h.tape,h.output,au47,fun k hk hg hv=>?_,h.row⟩
 have hne:k≠b:=by
  rintro rfl
  rcases h.row k au30 with e|e
  ·exact hv e.symm
  ·omega
 exact(Below.heap_setCell w' ⟨b,j,none⟩ u k hne).trans (h.block k hk hg hv)
theorem Ch.len_ {g b n c:Nat} {v:Value} {w w':World} (h:Ch g v (.slice (some ⟨b,0,none⟩) n c) w w') (n':Nat):Ch g v (.slice (some ⟨b,0,none⟩) n' c) w w':=⟨h.os,h.tape,h.output,h.size,h.block,h.row⟩
theorem Ch.setPar {g:Nat} {v v':Value} {w w':World} (h:Ch g v v' w w') (j:Nat) (u:Value):Ch g v v' w (w'.setCell ⟨g,j,none⟩ u) :=
 ⟨h.os,h.tape,h.output,au47,fun k hk hg hv=>(Below.heap_setCell w' ⟨g,j,none⟩ u k hg).trans (h.block k hk hg hv),h.row⟩
theorem Ch.keep {g base:Nat} {v v':Value} {w w':World} {xs:List Nd} (h:Ch g v v' w w') (hr:Row w base v xs) {k t:Nat} {cells:Array Value} (hb:w.heap[k]?=some (.cells cells t (0,0))) (ht:24≠t) (hk:k≠g):w'.heap[k]?=some (.cells cells t (0,0)) :=
 (h.block k (blk_lt hb) hk (hr.ne hb ht)).trans hb
theorem Row.upd {w w1:World} {base g p:Nat} {s:ByteArray} {v u:Value} {xs:List Nd} (h:Row w base v xs) (hP:PB w g s p u) (hu:Upd g w w1):Row w1 base v xs :=
 h.move (fun k hk=>hu.block k (h.lt k hk) (fun e=>h.ne hP au1 (by rw [← e];exact hk.symm)))
theorem Row.below {w w1:World} {base:Nat} {v:Value} {xs:List Nd} (h:Row w base v xs) (hu:Below w.heap.size w w1):Row w1 base v xs:=h.move (fun k hk=>hu.block k (h.lt k hk))
theorem Row.drawn {w w1:World} {base:Nat} {v:Value} {xs:List Nd} (h:Row w base v xs) (hu:Drawn0 w w1):Row w1 base v xs:=h.below hu.below
structure PS (w:World) (g base:Nat) (s:ByteArray) (p:Nat) (v:Value) (xs:List Nd):Prop where
 P:PB w g s p v
 R:Row w base v xs
theorem PS.drawn {w w1:World} {g base p:Nat} {s:ByteArray} {v:Value} {xs:List Nd} (h:PS w g base s p v xs) (hu:Drawn0 w w1):PS w1 g base s p v xs:=⟨h.P.drawn hu,h.R.drawn hu⟩
theorem PS.upd {w w1:World} {g base p q:Nat} {s:ByteArray} {v:Value} {xs:List Nd} (h:PS w g base s p v xs) (hP:PB w1 g s q v) (hu:Upd g w w1):PS w1 g base s q v xs:=⟨hP,h.R.upd h.P hu⟩
theorem PS.set {w:World} {g base p:Nat} {s:ByteArray} {v:Value} {xs:List Nd} (h:PS w g base s p v xs) (q:Nat):PS (w.setCell ⟨g,1,none⟩ (.int .i64 (q:Int))) g base s q v xs :=
 h.upd (h.P.set q) ((Upd.refl g w).set 1 _)
theorem PS.put {w:World} {g base p b c:Nat} {s:ByteArray} {xs:List Nd} (h:PS w g base s p (.slice (some ⟨b,0,none⟩) xs.length c) xs) {i:Nat} (hi:i<xs.length) (j:Nat) (hj:j<5) (u:Value) (x':Nd)
  (hx:[Value.int .i64 x'.f0,.int .i64 x'.f1,.int .i64 x'.f2,.string x'.f3,.string x'.f4]=([Value.int .i64 (xs.getD i zN).f0,.int .i64 (xs.getD i zN).f1,.int .i64 (xs.getD i zN).f2,.string (xs.getD i zN).f3,.string (xs.getD i zN).f4]:List Value).set j u) :
  PS (w.setCell ⟨b,i*5+j,none⟩ u) g base s p (.slice (some ⟨b,0,none⟩) (xs.set i x').length c) (xs.set i x'):=by
 rw [List.length_set]
 refine ⟨?_,h.R.put hi j hj u x' hx⟩
 refine(Below.heap_setCell w ⟨b,i*5+j,none⟩ u g ?_).trans h.P
 intro e
 exact h.R.ne h.P au1 (by simp only at e;subst e;simp [Value.ownBlock])
def PostN {α:Type} (s:ByteArray) (g base:Nat) (v:Value) (f:α→List Nd) (w:World) (x:Rs α) (e:Ending) (w':World):Prop :=
 match x with
 | .ok r a=>e=.returned (.tuple #[])∧∃ q v',At s q r∧PS w' g base s q v' (f a)∧Ch g v v' w w'
 | .bad r x=>Stops s r x e∧∃ v',Ch g v v' w w'
set_option maxHeartbeats 2000000 in
set_option maxRecDepth 100000 in
theorem word_calls (g base:Nat) (s W:ByteArray) (p i:Nat) (kind:Int) (v:Value) (xs:List Nd) (l:Bs) (w:World) (hs:s.size≤65536) (hW:W.size≤5) (hP:PS w g base s p v xs) (ha:At s p l) (hi:i<xs.length) :
  Calls Tryd.prog 83 #[.pointer (some ⟨g,0,none⟩),.int .i64 (i:Int),.string W,.int .i64 kind] w
   (PostN s g base v (fun _=>xs.set i { xs.getD i zN with f0:=kind }) w (word W.data.toList l)):=by
 have HP:=Lib.hid hP
 have HA:=Lib.hid ha
 have HI:=Lib.hid hi
 clear hP ha hi
 generalize hO:word W.data.toList l=O
 have HO:=Lib.hid hO
 clear hO
 go_enter Tryd.func83,Tryd.ntmps83
 go_wp2_with fail
 go_loopg [11] W.size (fun n x wr=>∃ k q m t,x=.int .i64 ((k:Nat):Int)∧Hid (At W k t∧At s q m∧word t m=O∧t.length≤n)∧Hid (PS wr g base s q v xs)∧Ch g v v w wr)
 case atStart=>exact ⟨0,p,l,W.data.toList,rfl,Lib.hid ⟨At.start W,HA.out,HO.out,au5⟩,HP,Ch.refl _ _ _⟩
 case round =>
  obtain ⟨k,q,m,t,rfl,HM,HQ,hu⟩:=hrel
  cases t with
  | nil =>
   obtain ⟨d1,d2⟩:=at_ge HM.out.1
   have hO2:O=.ok m ():=by rw [← HM.out.2.2.1];rfl
   obtain ⟨b,c,rfl,hc,hb,hlt,⟨x0,x1,x2,x3,x4⟩,hf⟩:=HQ.out.R.at_ HI.out
   obtain ⟨k0,k1,k2⟩:=HQ.out.P.cells
   have hf0:wr.frozen? ⟨b,i*5,none⟩=false:=hf 0
   have hi1:(i:Int)<(xs.length:Int):=by have:=HI.out;omega
   clear k0 k1 x1 x2 x3 x4 hf
   have HO2:=Lib.hid hO2
   clear hO2
   go_wp2_with fail
   go_end0
   rw [HO2.out]
   have hp2:=HQ.out.put HI.out 0 au0 (.int .i64 kind) { xs.getD i zN with f0:=kind } rfl
   exact ⟨rfl,q,_,HM.out.2.1,hp2,by rw [List.length_set];exact hu.setRow _ _⟩
  | cons d t =>
   obtain ⟨d1,d2⟩:=at_lt HM.out.1
   have hlt:=HM.out.1.lt
   have hx:=HM.out.1.byte
   have p1:(0≤(k:Int))=True:=eq_true au0
   have p2:(k:Int)<(W.size:Int):=by omega
   have p3:k<5:=by omega
   by_cases hc:∃ r,m=d :: r
   ·obtain ⟨r,hm⟩:=hc
    have HM1:Hid (At s q (d :: r)):=Lib.hid (hm ▸ HM.out.2.1)
    have HM2:Hid (word t r=O):=Lib.hid (by rw [← HM.out.2.2.1,hm,word,if_pos rfl])
    clear hm
    go_wp2_with (go_at_call 81;refine(take_yes g s q v d r _ hs HQ.out.P HM1.out).mono ?_;rintro e w1 ⟨rfl,hp1,hu1⟩;have HP1:=Lib.hid hp1;have HU1:=Lib.hid hu1;clear hp1 hu1)
    go_roundg t.length
    case measure =>
     have:=HM.out.2.2.2
     simp at this
     omega
    case rel=>exact ⟨k+1,q+1,r,t,by go_num,Lib.hid ⟨HM.out.1.next,HM1.out.next,HM2.out,Nat.le_refl _⟩,Lib.hid (HQ.out.upd HP1.out HU1.out),hu.trans (Ch.of_upd HU1.out)⟩
   ·have hO2:O=.bad m 5:=by
     rw [← HM.out.2.2.1]
     cases m with
     | nil=>rfl
     | cons c r=>rw [word,if_neg (fun e=>hc ⟨r,by rw [e]⟩)]
    have hcm:isC d m=false:=by
     cases m with
     | nil=>rfl
     | cons c r=>simp [isC];exact fun e=>hc ⟨r,by rw [e]⟩
    have HO2:=Lib.hid hO2
    have HCM:=Lib.hid hcm
    clear hO2 hcm hc
    go_wp2_with (go_at_call 81;refine(take_no g s q v d m _ HQ.out.P HM.out.2.1 HCM.out).mono ?_;rintro e w1 ⟨hst,hd1⟩;have HST:=Lib.hid hst;have HD1:=Lib.hid hd1;clear hd1;unfold Stops at hst;subst hst)
    rw [HO2.out]
    exact ⟨rfl,HST.out,_,hu.trans (Ch.of_drawn HD1.out)⟩
theorem hd_is (c:UInt8) (hc:0<c.toNat) (l:Bs):(isC c l=true→hd l=(c.toNat:Int))∧(isC c l=false→(hd l==(c.toNat:Int))=false):=by
 cases l with
 | nil =>
  refine ⟨fun h=>by simp [isC] at h,fun _=>?_⟩
  simp only [hd,beq_eq_false_iff_ne,ne_eq]
  omega
 | cons d r =>
  simp only [isC,hd,beq_eq_false_iff_ne,ne_eq,beq_iff_eq]
  refine ⟨fun h=>by rw [h],fun h=>?_⟩
  intro e
  exact h (UInt8.toNat_inj.mp au0)
theorem isC_cons {c:UInt8} {l:Bs} (h:isC c l=true):l=c :: l.drop 1:=by
 cases l with
 | nil=>simp [isC] at h
 | cons d r=>simp [isC] at h;rw [h];rfl
theorem At.skip {s:ByteArray} {p:Nat} {l:Bs} (ha:At s p l) {c:UInt8} (h:isC c l=true):At s (p+1) (l.drop 1):=by
 rw [isC_cons h] at ha
 exact ha.next
theorem digits_calls (g:Nat) (s:ByteArray) (p:Nat) (v:Value) (l:Bs) (w:World) (hs:s.size≤65536) (hP:PB w g s p v) (ha:At s p l) :
  Calls Tryd.prog 91 #[.pointer (some ⟨g,0,none⟩)] w (Post1 s g v w (digits l)):=by
 cases l with
 | nil=>exact(digits_no g s p v [] w hP ha (fun c r h=>by cases h)).mono fun e w' ⟨h1,h2⟩=>⟨h1,Upd.of_drawn h2⟩
 | cons c r =>
  cases hc:isDig c with
  | true =>
   have:digits (c :: r)=.ok (skipDig r) ():=by simp [digits,hc]
   rw [this]
   refine(digits_yes g s p v c r w hs hP ha hc).mono fun e w' ⟨h1,⟨q,h2,h3⟩,h4⟩=>⟨h1,⟨q,?_,h3⟩,h4⟩
   rw [skipDig,if_pos hc] at h2
   exact h2
  | false =>
   have:digits (c :: r)=.bad (c :: r) 5:=by simp [digits,hc]
   rw [this]
   exact(digits_no g s p v (c :: r) w hP ha (fun c' r' h=>by cases h;exact hc)).mono fun e w' ⟨h1,h2⟩=>⟨h1,Upd.of_drawn h2⟩
theorem skipDig_len:∀ l:Bs,(skipDig l).length≤l.length
 | []=>Nat.le_refl _
 | c :: r=>by
  rw [skipDig]
  split
  ·have:=skipDig_len r
   simp
   omega
  ·exact Nat.le_refl _
theorem digits_len (l r:Bs) (u:Unit) (h:digits l=.ok r u):r.length<l.length:=by
 cases l with
 | nil=>cases h
 | cons c l =>
  unfold digits at h
  simp only at h
  split at h
  ·injection h with h1 h2
   subst h1
   have:=skipDig_len l
   simp
   omega
  ·cases h
theorem num1_len (l r:Bs) (u:Unit) (h:num1 l=.ok r u):r.length<l.length:=by
 unfold num1 at h
 split at h
 ·rename_i hc
  injection h with h1 h2
  subst h1
  cases l with
  | nil=>simp [isC] at hc
  | cons c l=>simp
 ·exact digits_len l r u h
theorem num2_len (l r:Bs) (u:Unit) (h:num2 l=.ok r u):r.length≤l.length:=by
 unfold num2 at h
 split at h
 ·have:=digits_len _ r u h
  rw [List.length_drop] at this
  omega
 ·injection h with h1 h2
  subst h1
  exact Nat.le_refl _
theorem num3_len (l r:Bs) (u:Unit) (h:num3 l=.ok r u):r.length≤l.length:=by
 unfold num3 at h
 split at h
 ·split at h
  ·have:=digits_len _ r u h
   rw [List.length_drop] at this
   omega
  ·have:=digits_len _ r u h
   rw [List.length_drop] at this
   omega
 ·injection h with h1 h2
  subst h1
  exact Nat.le_refl _
theorem num_len (l r:Bs) (u:Unit) (h:num l=.ok r u):r.length<l.length:=by
 unfold num at h
 have hl:(if isC 45 l then l.drop 1 else l).length≤l.length:=by
  split
  ·rw [List.length_drop];omega
  ·exact Nat.le_refl _
 generalize (if isC 45 l then l.drop 1 else l)=l1 at h hl
 cases h1:num1 l1 with
 | bad r e=>rw [h1] at h;cases h
 | ok l2 u2 =>
  rw [h1] at h
  simp only at h
  have g1:=num1_len _ _ _ h1
  cases h2:num2 l2 with
  | bad r e=>rw [h2] at h;cases h
  | ok l3 u3 =>
   rw [h2] at h
   simp only at h
   have g2:=num2_len _ _ _ h2
   have g3:=num3_len _ _ _ h
   omega
theorem number_len (l r t:Bs) (h:number l=.ok r t):r.length<l.length:=by
 unfold number at h
 cases h1:num l with
 | bad r e=>rw [h1] at h;cases h
 | ok l2 u =>
  rw [h1] at h
  injection h with h2 h3
  subst h2
  exact num_len _ _ _ h1
def Rs.and (x:Rs Unit) (f:Bs→Rs Unit):Rs Unit:=match x with | .bad r e=>.bad r e | .ok r _=>f r
def fin (l:Bs) (x:Rs Unit):Rs Bs:=match x with | .bad r e=>.bad r e | .ok r _=>.ok r (l.take (l.length - r.length))
theorem number_eq (l:Bs):number l=fin l ((num1 (if isC 45 l then l.drop 1 else l)).and fun l2=>(num2 l2).and num3):=by
 unfold number num
 cases num1 (if isC 45 l then l.drop 1 else l) with
 | bad r e=>rfl
 | ok l2 u =>
  simp only [Rs.and]
  cases num2 l2 with
  | bad r e=>rfl
  | ok l3 u=>rfl
set_option maxHeartbeats 4000000 in
set_option maxRecDepth 100000 in
theorem number_calls (g base:Nat) (s:ByteArray) (p i:Nat) (v:Value) (xs:List Nd) (l:Bs) (w:World) (hs:s.size≤65536) (hP:PS w g base s p v xs) (ha:At s p l) (hi:i<xs.length) :
  Calls Tryd.prog 84 #[.pointer (some ⟨g,0,none⟩),.int .i64 (i:Int)] w
   (PostN s g base v (fun t=>xs.set i { xs.getD i zN with f0:=4,f4:=str t }) w (number l)):=by
 have HP:=Lib.hid hP
 have HA:=Lib.hid ha
 have HI:=Lib.hid hi
 have hpl:=ha.le
 obtain ⟨k0,k1,k2⟩:=hP.P.cells
 clear k0 k2
 clear hP ha hi
 generalize hO:number l=O
 have HO:=Lib.hid hO
 clear hO
 generalize hl1:(if isC 45 l then l.drop 1 else l)=l1
 have HL1:=Lib.hid hl1
 clear hl1
 have h45:=hd_is 45 au1 l
 go_enter Tryd.func84,Tryd.ntmps84
 go_upto_if 13 with(go_at_call 77;refine(byte_calls g s p v l _ HP.out.P HA.out).mono ?_;generalize hd l=z at h45;rintro e w1 ⟨rfl,hd1⟩;have HD1:=Lib.hid hd1;clear hd1)
 go_cut [4] (fun x wx=>x=.int .i64 (p:Int)∧∃ q,Hid (At s q l1)∧Hid (PB wx g s q v)∧Hid (Upd g w wx))
 case first =>
  have HQ:Hid (PB w1 g s p v):=Lib.hid (HP.out.P.drawn HD1.out)
  obtain ⟨y0,y1,y2⟩:=HQ.out.cells
  obtain ⟨f1,f2⟩:=HQ.out.free
  clear y0 y2 f2
  cases hc:isC 45 l with
  | true =>
   have h1:=h45.1 hc
   simp only [show((45:UInt8).toNat:Int)=45 from rfl] at h1
   subst h1
   have hlt:p<65536:=by have:=isC_cons hc;have h2:=HA.out;rw [this] at h2;have:=h2.lt;omega
   have HE:Hid (At s (p+1) l1):=Lib.hid (by rw [← HL1.out,hc,if_pos rfl];exact HA.out.skip hc)
   clear h45 hc
   go_wp2_with fail
   go_meet
   case rel=>exact ⟨rfl,p+1,HE,Lib.hid (HQ.out.set (p+1)),Lib.hid ((Upd.of_drawn HD1.out).set _ _)⟩
  | false =>
   have h1:(z==45)=false:=h45.2 hc
   have HE:Hid (At s p l1):=Lib.hid (by rw [← HL1.out,hc,if_neg au5];exact HA.out)
   clear h45 hc
   go_wp2_with fail
   go_meet
   case rel=>exact ⟨rfl,p,HE,HQ,Lib.hid (Upd.of_drawn HD1.out)⟩
 case rest =>
  obtain ⟨rfl,q1,HA1,HP1,HU1⟩:=hcut
  clear h45 k1
  have h48:=hd_is 48 au1 l1
  have HNUM:Hid (O=fin l ((num1 l1).and fun l2=>(num2 l2).and num3)):=Lib.hid (by rw [← HO.out,number_eq,HL1.out])
  go_upto_if 23 with(go_at_call 77;refine(byte_calls g s q1 v l1 _ HP1.out HA1.out).mono ?_;generalize hd l1=z at h48;rintro e w2 ⟨rfl,hd1⟩;have HD2:=Lib.hid hd1;clear hd1)
  go_cut [4] (fun x wx=>x=.int .i64 (p:Int)∧∃ q l2,Hid (At s q l2∧num1 l1=.ok l2 ())∧Hid (PB wx g s q v)∧Hid (Upd g w wx))
  case first =>
   have HQ:Hid (PB w2 g s q1 v):=Lib.hid (HP1.out.drawn HD2.out)
   obtain ⟨y0,y1,y2⟩:=HQ.out.cells
   obtain ⟨f1,f2⟩:=HQ.out.free
   clear y0 y2 f2
   cases hc:isC 48 l1 with
   | true =>
    have h1:=h48.1 hc
    simp only [show((48:UInt8).toNat:Int)=48 from rfl] at h1
    subst h1
    have hlt:q1<65536:=by have:=isC_cons hc;have h2:=HA1.out;rw [this] at h2;have:=h2.lt;omega
    have HE:Hid (At s (q1+1) (l1.drop 1)∧num1 l1=.ok (l1.drop 1) ()):=Lib.hid ⟨HA1.out.skip hc,by rw [num1,if_pos hc]⟩
    clear h48 hc
    go_wp2_with fail
    go_meet
    case rel=>exact ⟨rfl,q1+1,_,HE,Lib.hid (HQ.out.set (q1+1)),Lib.hid (HU1.out.trans ((Upd.of_drawn HD2.out).set _ _))⟩
   | false =>
    have h1:(z==48)=false:=h48.2 hc
    have hn:num1 l1=digits l1:=by rw [num1,if_neg (by rw [hc];simp)]
    clear h48 hc
    cases hdg:digits l1 with
    | bad r x =>
     have HR:Hid (O=.bad r x):=Lib.hid (by rw [HNUM.out,hn,hdg];rfl)
     have HDG:=Lib.hid hdg
     clear hdg hn
     go_wp2_with (go_at_call 91;refine(digits_calls g s q1 v l1 _ hs HQ.out HA1.out).mono ?_;rw [HDG.out];rintro e w3 ⟨hst,hu3⟩;have HST:=Lib.hid hst;have HU3:=Lib.hid hu3;clear hu3;unfold Stops at hst;subst hst)
     rw [HR.out]
     exact ⟨rfl,HST.out,_,Ch.of_upd ((HU1.out.trans (Upd.of_drawn HD2.out)).trans HU3.out)⟩
    | ok r u =>
     have HDG:=Lib.hid hdg
     have HE:Hid (num1 l1=.ok r ()):=Lib.hid (by rw [hn,hdg])
     clear hdg hn
     go_wp2_with (go_at_call 91;refine(digits_calls g s q1 v l1 _ hs HQ.out HA1.out).mono ?_;rw [HDG.out];rintro e w3 ⟨rfl,⟨q3,ha3,hp3⟩,hu3⟩;have HA3:=Lib.hid ha3;have HP3:=Lib.hid hp3;have HU3:=Lib.hid hu3;clear ha3 hp3 hu3)
     go_meet
     case rel=>exact ⟨rfl,q3,r,Lib.hid ⟨HA3.out,HE.out⟩,HP3,Lib.hid ((HU1.out.trans (Upd.of_drawn HD2.out)).trans HU3.out)⟩
  case rest =>
   obtain ⟨rfl,q2,l2,HA2',HP2,HU2⟩:=hcut
   clear h48
   have h46:=hd_is 46 au1 l2
   have HA2:Hid (At s q2 l2):=Lib.hid HA2'.out.1
   have HNUM2:Hid (O=fin l ((num2 l2).and num3)):=Lib.hid (by rw [HNUM.out,HA2'.out.2];rfl)
   clear HNUM HA2'
   go_upto_if 35 with(go_at_call 77;refine(byte_calls g s q2 v l2 _ HP2.out HA2.out).mono ?_;generalize hd l2=z at h46;rintro e w3 ⟨rfl,hd1⟩;have HD3:=Lib.hid hd1;clear hd1)
   go_cut [4] (fun x wx=>x=.int .i64 (p:Int)∧∃ q l3,Hid (At s q l3∧num2 l2=.ok l3 ())∧Hid (PB wx g s q v)∧Hid (Upd g w wx))
   case first =>
    have HQ:Hid (PB w3 g s q2 v):=Lib.hid (HP2.out.drawn HD3.out)
    obtain ⟨y0,y1,y2⟩:=HQ.out.cells
    obtain ⟨f1,f2⟩:=HQ.out.free
    clear y0 y2 f2
    cases hc:isC 46 l2 with
    | true =>
     have h1:=h46.1 hc
     simp only [show((46:UInt8).toNat:Int)=46 from rfl] at h1
     subst h1
     have hlt:q2<65536:=by have:=isC_cons hc;have h2:=HA2.out;rw [this] at h2;have:=h2.lt;omega
     have HE:Hid (At s (q2+1) (l2.drop 1)):=Lib.hid (HA2.out.skip hc)
     have hn:num2 l2=digits (l2.drop 1):=by rw [num2,if_pos hc]
     clear h46 hc
     cases hdg:digits (l2.drop 1) with
     | bad r x =>
      have HR:Hid (O=.bad r x):=Lib.hid (by rw [HNUM2.out,hn,hdg];rfl)
      have HDG:=Lib.hid hdg
      clear hdg hn
      go_wp2_with (go_at_call 91;refine(digits_calls g s (q2+1) v (l2.drop 1) _ hs (HQ.out.set (q2+1)) HE.out).mono ?_;rw [HDG.out];rintro e w4 ⟨hst,hu3⟩;have HST:=Lib.hid hst;have HU3:=Lib.hid hu3;clear hu3;unfold Stops at hst;subst hst)
      rw [HR.out]
      exact ⟨rfl,HST.out,_,Ch.of_upd ((HU2.out.trans ((Upd.of_drawn HD3.out).set 1 _)).trans HU3.out)⟩
     | ok r u =>
      have HDG:=Lib.hid hdg
      have HE2:Hid (num2 l2=.ok r ()):=Lib.hid (by rw [hn,hdg])
      clear hdg hn
      go_wp2_with (go_at_call 91;refine(digits_calls g s (q2+1) v (l2.drop 1) _ hs (HQ.out.set (q2+1)) HE.out).mono ?_;rw [HDG.out];rintro e w4 ⟨rfl,⟨q4,ha4,hp4⟩,hu4⟩;have HA4:=Lib.hid ha4;have HP4:=Lib.hid hp4;have HU4:=Lib.hid hu4;clear ha4 hp4 hu4)
      go_meet
      case rel=>exact ⟨rfl,q4,r,Lib.hid ⟨HA4.out,HE2.out⟩,HP4,Lib.hid ((HU2.out.trans ((Upd.of_drawn HD3.out).set 1 _)).trans HU4.out)⟩
    | false =>
     have h1:(z==46)=false:=h46.2 hc
     have HE:Hid (At s q2 l2∧num2 l2=.ok l2 ()):=Lib.hid ⟨HA2.out,by rw [num2,if_neg (by rw [hc];simp)]⟩
     clear h46 hc
     go_wp2_with fail
     go_meet
     case rel=>exact ⟨rfl,q2,_,HE,HQ,Lib.hid (HU2.out.trans (Upd.of_drawn HD3.out))⟩
   case rest =>
    obtain ⟨rfl,q3,l3,HA3',HP3,HU3⟩:=hcut
    clear h46
    have h101:=hd_is 101 au1 l3
    have h69:=hd_is 69 au1 l3
    have HA3:Hid (At s q3 l3):=Lib.hid HA3'.out.1
    have HNUM3:Hid (O=fin l (num3 l3)):=Lib.hid (by rw [HNUM2.out,HA3'.out.2];rfl)
    clear HNUM2 HA3'
    generalize hz:hd l3=z at h101 h69
    have HZ:=Lib.hid hz
    clear hz
    go_upto_region 10 with(go_at_call 77;refine(byte_calls g s q3 v l3 _ HP3.out HA3.out).mono ?_;rw [HZ.out];rintro e w4 ⟨rfl,hd1⟩;have HD4:=Lib.hid hd1;clear hd1)
    go_cut [4,52] (fun x b wx=>x=.int .i64 (p:Int)∧b=.bool (isC 101 l3 || isC 69 l3)∧Hid (PB wx g s q3 v)∧Hid (Upd g w wx))
    case first =>
     have HE:Hid (PB w4 g s q3 v∧Upd g w w4):=Lib.hid ⟨HP3.out.drawn HD4.out,HU3.out.trans (Upd.of_drawn HD4.out)⟩
     cases hc:isC 101 l3 with
     | true =>
      have h1:=h101.1 hc
      simp only [show((101:UInt8).toNat:Int)=101 from rfl] at h1
      have h2:(z==101)=true:=by rw [h1];rfl
      have HBB:Hid ((isC 101 l3 || isC 69 l3)=true):=Lib.hid (by rw [hc];rfl)
      clear h101 h69 hc h1
      go_wp2_with fail
      go_meet
      case rel=>exact ⟨rfl,by rw [HBB.out],Lib.hid HE.out.1,Lib.hid HE.out.2⟩
     | false =>
      have h1:(z==101)=false:=h101.2 hc
      cases hc2:isC 69 l3 with
      | true =>
       have h2:=h69.1 hc2
       simp only [show((69:UInt8).toNat:Int)=69 from rfl] at h2
       have h3:(z==69)=true:=by rw [h2];rfl
       have HBB:Hid ((isC 101 l3 || isC 69 l3)=true):=Lib.hid (by rw [hc,hc2];rfl)
       clear h101 h69 hc hc2 h2
       go_wp2_with fail
       go_meet
       case rel=>exact ⟨rfl,by rw [HBB.out],Lib.hid HE.out.1,Lib.hid HE.out.2⟩
      | false =>
       have h2:(z==69)=false:=h69.2 hc2
       have HBB:Hid ((isC 101 l3 || isC 69 l3)=false):=Lib.hid (by rw [hc,hc2];rfl)
       clear h101 h69 hc hc2
       go_wp2_with fail
       go_meet
       case rel=>exact ⟨rfl,by rw [HBB.out],Lib.hid HE.out.1,Lib.hid HE.out.2⟩
    case rest =>
     obtain ⟨rfl,rfl,HP5,HU5⟩:=hcut
     clear h101 h69
     obtain ⟨y0,y1,y2⟩:=HP5.out.cells
     obtain ⟨f1,f2⟩:=HP5.out.free
     clear y0 y2 f2
     generalize hbb:(isC 101 l3 || isC 69 l3)=bb
     have HBB:=Lib.hid hbb
     clear hbb
     go_upto_if 52 with(fail)
     go_cut [4] (fun x wx=>x=.int .i64 (p:Int)∧∃ q l4,Hid (At s q l4∧num3 l3=.ok l4 ())∧Hid (PB wx g s q v)∧Hid (Upd g w wx))
     case first =>
      have hb:=HBB.out
      clear HBB
      cases bb with
      | false =>
       have HE:Hid (At s q3 l3∧num3 l3=.ok l3 ()):=Lib.hid ⟨HA3.out,by rw [num3,if_neg (by rw [hb];simp)]⟩
       clear hb
       go_wp2_with fail
       go_meet
       case rel=>exact ⟨rfl,q3,_,HE,HP5,HU5⟩
      | true =>
       have hne:∃ c r,l3=c :: r:=by
        cases l3 with
        | nil=>simp [isC] at hb
        | cons c r=>exact ⟨c,r,rfl⟩
       obtain ⟨c,r,hl3⟩:=hne
       have hn3:num3 l3=if isC 43 r || isC 45 r then digits (r.drop 1) else digits r:=by
        rw [num3,if_pos hb,hl3]
        rfl
       have HN3:=Lib.hid hn3
       have HAC:Hid (At s q3 (c :: r)):=Lib.hid (hl3 ▸ HA3.out)
       have HAN:=Lib.hid HAC.out.next
       have hlt:q3<65536:=by have:=HAC.out.lt;omega
       have h43:=hd_is 43 au1 r
       have h45:=hd_is 45 au1 r
       clear hb hl3 hn3
       generalize hz:hd r=y at h43 h45
       have HY:=Lib.hid hz
       clear hz
       go_upto_region 13 with(go_at_call 77;refine(byte_calls g s (q3+1) v r _ (HP5.out.set (q3+1)) HAN.out).mono ?_;rw [HY.out];rintro e w6 ⟨rfl,hd1⟩;have HD6:=Lib.hid hd1;clear hd1)
       have HP6:Hid (PB w6 g s (q3+1) v):=Lib.hid ((HP5.out.set (q3+1)).drawn HD6.out)
       have HU6:Hid (Upd g w w6):=Lib.hid ((HU5.out.set 1 _).trans (Upd.of_drawn HD6.out))
       clear y1 f1
       obtain ⟨y0,y1,y2⟩:=HP6.out.cells
       obtain ⟨f1,f2⟩:=HP6.out.free
       clear y0 y2 f2
       have hfin:∀ b:Bool,(isC 43 r || isC 45 r)=b→num3 l3=if b then digits (r.drop 1) else digits r:=by
        intro b hb
        rw [HN3.out,hb]
       have HFIN:=Lib.hid hfin
       clear hfin
       have hgo:(y=43∧(isC 43 r || isC 45 r)=true)∨((y==43)=false∧y=45∧(isC 43 r || isC 45 r)=true)∨((y==43)=false∧(y==45)=false∧(isC 43 r || isC 45 r)=false):=by
        cases hc:isC 43 r with
        | true=>exact .inl ⟨h43.1 hc,rfl⟩
        | false =>
         have h1:=h43.2 hc
         cases hc2:isC 45 r with
         | true=>exact .inr (.inl ⟨h1,h45.1 hc2,rfl⟩)
         | false=>exact .inr (.inr ⟨h1,h45.2 hc2,rfl⟩)
       have hsk:(isC 43 r || isC 45 r)=true→At s (q3+1+1) (r.drop 1)∧q3+1<65536:=by
        intro hb
        cases r with
        | nil=>simp [isC] at hb
        | cons d r =>
         have:=HAN.out.lt
         exact ⟨HAN.out.next,au0⟩
       have HSK:=Lib.hid hsk
       clear h43 h45 hsk
       rcases hgo with ⟨h1,hb⟩|⟨h1,h2,hb⟩|⟨h1,h2,hb⟩
       ·have HS:Hid (At s (q3+1+1) (r.drop 1)):=Lib.hid (HSK.out hb).1
        have hlt2:=(HSK.out hb).2
        have h1':(y==43)=true:=by rw [h1];rfl
        clear h1
        have hn:num3 l3=digits (r.drop 1):=by rw [HFIN.out true hb];rfl
        clear hb
        cases hdg:digits (r.drop 1) with
        | bad r5 x5 =>
         have HR:Hid (O=.bad r5 x5):=Lib.hid (by rw [HNUM3.out,hn,hdg];rfl)
         have HDG:=Lib.hid hdg
         clear hdg hn
         go_wp2_with (go_at_call 91;refine(digits_calls g s (q3+1+1) v (r.drop 1) _ hs (HP6.out.set (q3+1+1)) HS.out).mono ?_;rw [HDG.out];rintro e w7 ⟨hst,hu3⟩;have HST:=Lib.hid hst;have HU7:=Lib.hid hu3;clear hu3;unfold Stops at hst;subst hst)
         rw [HR.out]
         exact ⟨rfl,HST.out,_,Ch.of_upd ((HU6.out.set 1 _).trans HU7.out)⟩
        | ok r5 u =>
         have HDG:=Lib.hid hdg
         have HE2:Hid (num3 l3=.ok r5 ()):=Lib.hid (by rw [hn,hdg])
         clear hdg hn
         go_wp2_with (go_at_call 91;refine(digits_calls g s (q3+1+1) v (r.drop 1) _ hs (HP6.out.set (q3+1+1)) HS.out).mono ?_;rw [HDG.out];rintro e w7 ⟨rfl,⟨q7,ha7,hp7⟩,hu7⟩;have HA7:=Lib.hid ha7;have HP7:=Lib.hid hp7;have HU7:=Lib.hid hu7;clear ha7 hp7 hu7)
         go_meet
         case rel=>exact ⟨rfl,q7,r5,Lib.hid ⟨HA7.out,HE2.out⟩,HP7,Lib.hid ((HU6.out.set 1 _).trans HU7.out)⟩
       ·have HS:Hid (At s (q3+1+1) (r.drop 1)):=Lib.hid (HSK.out hb).1
        have hlt2:=(HSK.out hb).2
        have h2':(y==45)=true:=by rw [h2];rfl
        clear h2
        have hn:num3 l3=digits (r.drop 1):=by rw [HFIN.out true hb];rfl
        clear hb
        cases hdg:digits (r.drop 1) with
        | bad r5 x5 =>
         have HR:Hid (O=.bad r5 x5):=Lib.hid (by rw [HNUM3.out,hn,hdg];rfl)
         have HDG:=Lib.hid hdg
         clear hdg hn
         go_wp2_with (go_at_call 91;refine(digits_calls g s (q3+1+1) v (r.drop 1) _ hs (HP6.out.set (q3+1+1)) HS.out).mono ?_;rw [HDG.out];rintro e w7 ⟨hst,hu3⟩;have HST:=Lib.hid hst;have HU7:=Lib.hid hu3;clear hu3;unfold Stops at hst;subst hst)
         rw [HR.out]
         exact ⟨rfl,HST.out,_,Ch.of_upd ((HU6.out.set 1 _).trans HU7.out)⟩
        | ok r5 u =>
         have HDG:=Lib.hid hdg
         have HE2:Hid (num3 l3=.ok r5 ()):=Lib.hid (by rw [hn,hdg])
         clear hdg hn
         go_wp2_with (go_at_call 91;refine(digits_calls g s (q3+1+1) v (r.drop 1) _ hs (HP6.out.set (q3+1+1)) HS.out).mono ?_;rw [HDG.out];rintro e w7 ⟨rfl,⟨q7,ha7,hp7⟩,hu7⟩;have HA7:=Lib.hid ha7;have HP7:=Lib.hid hp7;have HU7:=Lib.hid hu7;clear ha7 hp7 hu7)
         go_meet
         case rel=>exact ⟨rfl,q7,r5,Lib.hid ⟨HA7.out,HE2.out⟩,HP7,Lib.hid ((HU6.out.set 1 _).trans HU7.out)⟩
       ·skip
        have hn:num3 l3=digits r:=by rw [HFIN.out false hb];rfl
        clear hb
        cases hdg:digits r with
        | bad r5 x5 =>
         have HR:Hid (O=.bad r5 x5):=Lib.hid (by rw [HNUM3.out,hn,hdg];rfl)
         have HDG:=Lib.hid hdg
         clear hdg hn
         go_wp2_with (go_at_call 91;refine(digits_calls g s (q3+1) v r _ hs HP6.out HAN.out).mono ?_;rw [HDG.out];rintro e w7 ⟨hst,hu3⟩;have HST:=Lib.hid hst;have HU7:=Lib.hid hu3;clear hu3;unfold Stops at hst;subst hst)
         rw [HR.out]
         exact ⟨rfl,HST.out,_,Ch.of_upd ((HU6.out).trans HU7.out)⟩
        | ok r5 u =>
         have HDG:=Lib.hid hdg
         have HE2:Hid (num3 l3=.ok r5 ()):=Lib.hid (by rw [hn,hdg])
         clear hdg hn
         go_wp2_with (go_at_call 91;refine(digits_calls g s (q3+1) v r _ hs HP6.out HAN.out).mono ?_;rw [HDG.out];rintro e w7 ⟨rfl,⟨q7,ha7,hp7⟩,hu7⟩;have HA7:=Lib.hid ha7;have HP7:=Lib.hid hp7;have HU7:=Lib.hid hu7;clear ha7 hp7 hu7)
         go_meet
         case rel=>exact ⟨rfl,q7,r5,Lib.hid ⟨HA7.out,HE2.out⟩,HP7,Lib.hid ((HU6.out).trans HU7.out)⟩
     case rest =>
      obtain ⟨rfl,q4,l4,HA4',HP7,HU7⟩:=hcut
      have HA4:Hid (At s q4 l4):=Lib.hid HA4'.out.1
      have HR:Hid (O=.ok l4 (l.take (l.length - l4.length))):=Lib.hid (by rw [HNUM3.out,HA4'.out.2];rfl)
      have HPS:Hid (PS (wc) g base s q4 v xs):=Lib.hid (HP.out.upd HP7.out HU7.out)
      clear y1 f1
      obtain ⟨u0,u1,u2⟩:=HPS.out.P.cells
      obtain ⟨b,c,rfl,hc,hb,hlt,hx,hf⟩:=HPS.out.R.at_ HI.out
      have f0:wc.frozen? ⟨b,i*5,none⟩=false:=hf 0
      have f4:=hf 4
      have hi1:(i:Int)<(xs.length:Int):=by have:=HI.out;omega
      have hi0:(0:Int)≤(i:Int):=by omega
      have hle:=HA4.out.le
      have hpq:p≤q4:=by
       have h1:=HA4.out.len
       have h2:=HA.out.len
       have h3:=number_len l l4 _ (HO.out.trans HR.out)
       omega
      have p1:(0:Int)≤(p:Int):=by omega
      have p2:(p:Int)≤(q4:Int):=by omega
      have p3:(q4:Int)≤(s.size:Int):=by omega
      have hbg:b≠g:=by
       intro e
       exact HPS.out.R.ne HPS.out.P au1 (by rw [e];simp [Value.ownBlock])
      obtain ⟨x0,x1,x2,x3,x4⟩:=hx
      have HPQ:=Lib.hid hpq
      have HBG:=Lib.hid hbg
      clear hf hb hlt hc x1 x2 x3 hpq hbg hle
      go_wp2_with fail
      go_region
      go_wp2_with fail
      go_end0
      have ps1:=HPS.out.put HI.out 0 au0 (.int .i64 4) { xs.getD i zN with f0:=4 } rfl
      have hi':i<(xs.set i { xs.getD i zN with f0:=4 }).length:=by rw [List.length_set];exact HI.out
      have ps2:=ps1.put hi' 4 au0 (.string (s.extract p q4)) { (xs.set i { xs.getD i zN with f0:=4 }).getD i zN with f4:=s.extract p q4 } rfl
      have hget:(xs.set i { xs.getD i zN with f0:=4 }).getD i zN={ xs.getD i zN with f0:=4 }:=by
       rw [List.getD_eq_getElem?_getD,List.getElem?_set_self (by simpa using HI.out)]
       rfl
      have hstr:s.extract p q4=str (l.take (l.length - l4.length)):=by
       have h1:=HA4.out.len
       have h2:=HA.out.len
       have h3:(s.extract p q4).data.toList=l.take (l.length - l4.length):=by
        rw [Lib.extract_data,HA.out.drop,show q4 - p=l.length - l4.length by have:=HPQ.out;omega]
       unfold str
       rw [← h3]
      rw [hget,List.set_set] at ps2
      rw [HR.out]
      refine ⟨rfl,q4,.slice (some ⟨b,0,none⟩) (xs.set i { xs.getD i zN with f0:=4,f4:=s.extract p q4 }).length c,HA4.out,?_,?_⟩
      ·simp only []
       rw [← hstr]
       exact ps2.drawn (drawn_drew _ _ (Drawn0.refl _))
      ·rw [List.length_set]
       exact(((Ch.of_upd HU7.out).setRow (i*5) (.int .i64 4)).setRow (i*5+4) (.string (s.extract p q4))).trans (Ch.of_drawn (drawn_drew _ _ (Drawn0.refl _)))
def hexes:List UInt8:=[48,49,50,51,52,53,54,55,56,57,97,98,99,100,101,102,48,49,50,51,52,53,54,55,56,57,65,66,67,68,69,70]
theorem idx_hex (c:UInt8):match hexv c with|some x=>0≤Lib.indexByte hexes c∧bits .and .i64 (Lib.indexByte hexes c) 15=(x:Int)∧x<16|none=>Lib.indexByte hexes c = -1:=by
 have:=all_bytes (p:=fun c=>match hexv c with|some x=>decide (0≤Lib.indexByte hexes c∧bits .and .i64 (Lib.indexByte hexes c) 15=(x:Int)∧x<16)|none=>decide (Lib.indexByte hexes c = -1)) au11 c
 revert this
 cases hexv c with
 | none=>simp
 | some x=>simp
def fourN:Nat→Nat→Bs→Option Nat
 | 0,n,_=>some n
 | j+1,n,m=>match m with
  | []=>none
  | c :: r=>match hexv c with
   | none=>none
   | some x=>fourN j (16*n+x) r
theorem four_eq (m:Bs):four m=fourN 4 0 m:=by
 match m with
 | []=>rfl
 | [a]=>simp only [four,fourN];cases hexv a<;>rfl
 | [a,b]=>simp only [four,fourN];cases hexv a<;>(try rfl);cases hexv b<;>rfl
 | [a,b,c]=>simp only [four,fourN];cases hexv a<;>(try rfl);cases hexv b<;>(try rfl);cases hexv c<;>rfl
 | a :: b :: c :: d :: r =>
  simp only [four,fourN]
  cases hexv a<;>(try rfl)
  cases hexv b<;>(try rfl)
  cases hexv c<;>(try rfl)
  cases hexv d<;>(try rfl)
  simp
  omega
theorem idx_of (s:ByteArray) (c:UInt8) (r:Int) (w:World) (h:Lib.indexByte s.data.toList c=r) :
  Calls Tryd.prog 63 #[.string s,.int .u8 (c.toNat:Int)] w fun e w'=>e=.returned (.int .i64 r)∧w'=w:=h ▸ idx_calls s c w
def numOr (x:Option Nat):Int:=match x with|some n=>(n:Int)|none => -1
theorem or_hex (n x:Nat) (hn:n<4096) (hx:x<16):bits .or .i64 ((n:Int)*16) (x:Int)=((16*n+x:Nat):Int):=by
 rw [bits_join .i64 63 au1 (fun n h0 h1=>by rw [IntKind.wrap_i64];omega) 4 ((n:Int)*16) (x:Int) au0 au0 au0 au0 au0 au0]
 omega
set_option maxHeartbeats 2000000 in
set_option maxRecDepth 100000 in
theorem four_calls (g:Nat) (s:ByteArray) (p q:Nat) (v:Value) (l:Bs) (w:World) (hs:s.size≤65536) (hP:PB w g s p v) (ha:At s q l) :
  Calls Tryd.prog 96 #[.pointer (some ⟨g,0,none⟩),.int .i64 (q:Int)] w fun e w'=>e=.returned (.int .i64 (numOr (four l)))∧Drawn0 w w':=by
 have HP:=Lib.hid hP
 have HA:=Lib.hid ha
 have hq:=ha.le
 have HF:=Lib.hid (four_eq l)
 clear hP ha
 go_enter Tryd.func96,Tryd.ntmps96
 go_wp2_with fail
 go_loopg [5,6] 4 (fun k x y wr=>∃(j:Nat) (n:Nat) (i:Nat) (m:Bs),x=.int .i64 (n:Int)∧y=.int .i64 (i:Int)∧Hid (At s i m∧fourN j n m=four l∧i+j=q+4∧(j≤k∧j≤4)∧n*16 ^ j<65536)∧Drawn0 w wr)
 case atStart=>exact ⟨4,0,q,l,rfl,rfl,Lib.hid ⟨HA.out,HF.out.symm,rfl,⟨Nat.le_refl _,Nat.le_refl _⟩,au0⟩,Drawn0.refl _⟩
 case round =>
  obtain ⟨j,n,i,m,rfl,rfl,HM,hu⟩:=hrel
  have HU:=Lib.hid hu
  clear hu
  obtain ⟨k0,k1,k2⟩:=(HP.out.drawn HU.out).cells
  clear k1 k2
  cases j with
  | zero =>
   have hi:i=q+4:=HM.out.2.2.1
   have hd:decide ((i:Int)<(q:Int)+4)=false:=decide_eq_false au0
   have hr:four l=some n:=HM.out.2.1.symm
   have HR:=Lib.hid hr
   clear hr hi
   go_wp2_with fail
   go_ret
   exact ⟨by rw [HR.out];rfl,HU.out⟩
  | succ j =>
   have hi:i+(j+1)=q+4:=HM.out.2.2.1
   have hd:decide ((i:Int)<(q:Int)+4)=true:=decide_eq_true au0
   cases m with
   | nil =>
    obtain ⟨d1,d2⟩:=at_ge HM.out.1
    have hr:four l=none:=HM.out.2.1.symm
    have HR:=Lib.hid hr
    clear hr hi
    go_wp2_with fail
    go_ret
    exact ⟨by rw [HR.out];rfl,HU.out⟩
   | cons c r =>
    obtain ⟨d1,d2⟩:=at_lt HM.out.1
    have hlt:=HM.out.1.lt
    have hx:=HM.out.1.byte
    have p1:(0≤(i:Int))=True:=eq_true au0
    have p2:(i:Int)<(s.size:Int):=by omega
    have p3:i<65536:=by omega
    have hid:=idx_hex c
    have hfo:fourN (j+1) n (c :: r)=four l:=HM.out.2.1
    simp only [fourN] at hfo
    have HFO:=Lib.hid hfo
    clear hfo hi
    cases hc:hexv c with
    | none =>
     rw [hc] at hid
     have HC:=Lib.hid hc
     have HI:=Lib.hid hid
     clear hc hid
     have hr:four l=none:=by
      have:=HFO.out
      rw [HC.out] at this
      exact this.symm
     have HR:=Lib.hid hr
     clear hr
     go_wp2_with (go_at_call 63;refine(idx_of ⟨#[48,49,50,51,52,53,54,55,56,57,97,98,99,100,101,102,48,49,50,51,52,53,54,55,56,57,65,66,67,68,69,70]⟩ c (-1) _ HI.out).mono ?_;rintro e w1 ⟨rfl,rfl⟩)
     go_ret
     exact ⟨by rw [HR.out];rfl,HU.out⟩
    | some x =>
     rw [hc] at hid
     obtain ⟨hz0,hz1,hz2⟩:=hid
     generalize hz:Lib.indexByte hexes c=z at hz0 hz1
     have HC:=Lib.hid hc
     have HZ:=Lib.hid hz
     clear hc hz
     have hn:n<4096:=by
      have h5:=HM.out.2.2.2.2
      have h1:1≤16 ^ j:=Nat.pos_of_ne_zero au5
      have h2:n*16≤n*16 ^ (j+1):=Nat.mul_le_mul_left _ (by rw [Nat.pow_succ];omega)
      omega
     go_wp2_with (go_at_call 63;refine(idx_of ⟨#[48,49,50,51,52,53,54,55,56,57,97,98,99,100,101,102,48,49,50,51,52,53,54,55,56,57,65,66,67,68,69,70]⟩ c z _ HZ.out).mono ?_;rintro e w1 ⟨rfl,rfl⟩)
     go_roundg j
     case measure =>
      have:=HM.out.2.2.2.1.1
      omega
     case rel =>
      refine ⟨j,16*n+x,i+1,r,?_,by go_num,Lib.hid ⟨HM.out.1.next,?_,?_,⟨Nat.le_refl _,by have:=HM.out.2.2.2.1.2;omega⟩,?_⟩,HU.out⟩
      ·rw [or_hex n x hn hz2]
      ·have:=HFO.out
       rw [HC.out] at this
       exact this
      ·have:=HM.out.2.2.1
       omega
      ·have h5:=HM.out.2.2.2.2
       rw [Nat.pow_succ] at h5
       have h6:(n*16+15)*16 ^ j<65536:=by
        have h7:n*(16 ^ j*16)=(n*16)*16 ^ j:=by rw [Nat.mul_comm (16 ^ j) 16,Nat.mul_assoc]
        have hj:j≤3:=by have:=HM.out.2.2.2.1.2;omega
        rcases (by omega:j=0∨j=1∨j=2∨j=3) with rfl|rfl|rfl|rfl<;>simp at h5 ⊢<;>omega
       have h8:(16*n+x)*16 ^ j≤(n*16+15)*16 ^ j:=Nat.mul_le_mul_right _ au0
       omega
set_option maxHeartbeats 1000000 in
set_option maxRecDepth 100000 in
theorem cc_used (b:Nat) (w:World) (h0:w.cell? ⟨b,0,none⟩=some (.pointer (some ⟨b,0,none⟩))) :
  Calls Tryd.prog 57 #[.pointer (some ⟨b,0,none⟩)] w fun e w'=>e=.returned (.tuple #[])∧w'=w:=by
 go_enter Tryd.func57,Tryd.ntmps57
 obtain ⟨j,hj,_⟩:=Option.map_eq_some_iff.1 (show(Tryd.prog.info? 64).map (·.size)=some 2 by kernel_rfl)
 have hnq:=fun W=>Lib.run_neq_ptr_same (P:=Tryd.prog) W ⟨b,0,none⟩ Tryd.underlying62 hj
 go_wp2
 go_end0
 exact ⟨rfl,rfl⟩
set_option maxHeartbeats 1000000 in
set_option maxRecDepth 100000 in
theorem cc_fresh (b:Nat) (w:World) (h0:w.cell? ⟨b,0,none⟩=some (.pointer none)) (hsh:w.shape? b=some (64,2)) (hfz:w.frozen? ⟨b,0,none⟩=false) :
  Calls Tryd.prog 57 #[.pointer (some ⟨b,0,none⟩)] w fun e w'=>e=.returned (.tuple #[])∧w'=w.setCell ⟨b,0,none⟩ (.pointer (some ⟨b,0,none⟩)):=by
 obtain ⟨j,hj,hjs⟩:=Option.map_eq_some_iff.1 (show(Tryd.prog.info? 64).map (·.size)=some 2 by kernel_rfl)
 have r1:=fun W (h:World.shape? W b=some (64,2))=>Lib.run_to_unsafe (P:=Tryd.prog) W ⟨b,0,none⟩ Tryd.underlying62 (dst:=107) au2 hj (by rw [hjs];decide) h (Nat.zero_lt_succ 1)
 have r2:=fun W (h:World.shape? W b=some (64,2))=>Lib.run_from_unsafe (P:=Tryd.prog) W ⟨b,0,none⟩ (src:=107) au2 Tryd.underlying62 hj h au2
 have r3:∀ x W,(callFunc 64 #[x]).run Tryd.prog W=.ok (.value x) W:=by
  intro x W
  rw [run_callFunc_extern Tryd.func64 au2 au2 au2 (e:=Extern.AbiNoEscape.same) au2,Lib.run_noEscape]
  rfl
 have q1:=r1 w hsh
 have q2:=r2 w hsh
 clear r1 r2
 go_enter Tryd.func57,Tryd.ntmps57
 go_wp2
 go_end0
 exact ⟨rfl,rfl⟩
def Spare (b:Nat) (w w':World):Prop:=∀ k o,w.heap[k]?=some o→(∀ c,o≠.cells c 5 (0,0))→k≠b→w'.heap[k]?=some o
theorem Spare.refl (b:Nat) (w:World):Spare b w w:=fun _ _ h _ _=>h
theorem Spare.trans {b:Nat} {w w1 w2:World} (h:Spare b w w1) (h':Spare b w1 w2):Spare b w w2:=fun k c hk ht hb=>h' k c (h k c hk ht hb) ht hb
theorem Spare.set {b:Nat} {w w':World} (h:Spare b w w') (j:Nat) (u:Value):Spare b w (w'.setCell ⟨b,j,none⟩ u):=fun k c hk ht hb=>(Below.heap_setCell w' ⟨b,j,none⟩ u k hb).trans (h k c hk ht hb)
theorem Spare.of_below {b:Nat} {w w':World} (h:Below w.heap.size w w'):Spare b w w':=fun k c hk _ _=>(h.block k (Array.getElem?_eq_some_iff.mp hk).1).trans hk
theorem Spare.drawn {b:Nat} {w w':World} (h:Drawn0 w w'):Spare b w w':=.of_below h.below
theorem Spare.cells {b:Nat} {w w':World} (h:Spare b w w') {k:Nat} {c:Array Value} {t:TypeId} (hk:w.heap[k]?=some (.cells c t (0,0))) (ht:t≠5) (hb:k≠b):w'.heap[k]?=some (.cells c t (0,0)) :=
 h k _ hk (fun c' e=>by injection e with _ h2;exact ht h2) hb
theorem cc_any (B b:Nat) (bs:List Value) (w:World) (h:Lib.IsBuilder 64 5 B b bs w) :
  Calls Tryd.prog 57 #[.pointer (some ⟨b,0,none⟩)] w fun e w'=>e=.returned (.tuple #[])∧(Lib.BuilderAt 64 5 B b (.pointer (some ⟨b,0,none⟩)) bs w'∧Below B w w'∧Spare b w w'):=by
 rcases h with h|h
 ·refine(cc_fresh b w h.cell0 h.shape h.frozen0).mono ?_
  rintro e w' ⟨rfl,rfl⟩
  exact ⟨rfl,h.used _,(Below.refl B w).setCell (p:=⟨b,0,none⟩) h.1 _,(Spare.refl b w).set 0 _⟩
 ·refine(cc_used b w h.cell0).mono ?_
  rintro e w' ⟨rfl,rfl⟩
  exact ⟨rfl,h,Below.refl B _,Spare.refl b _⟩
theorem own_other {w:World} {B n:Nat} {v:Value} {xs:List Value} (h:w.ownsRow B 5 1 v n xs) {k:Nat} {o:Obj} (hk:w.heap[k]?=some o) (ht:∀ c,o≠.cells c 5 (0,0)):some k≠v.ownBlock:=by
 rcases h.2 with ⟨hv,_⟩|⟨g,cap,cur,hv,_,hh,_⟩
 ·subst hv
  simp [Value.ownBlock]
 ·subst hv
  simp only [Value.ownBlock,ne_eq,Option.some.injEq]
  rintro rfl
  rw [hh] at hk
  exact ht _ (Option.some.inj hk).symm
set_option maxHeartbeats 1000000 in
set_option maxRecDepth 100000 in
theorem writeByte_spare (B b:Nat) (l:List UInt8) (c:UInt8) (w:World) (h:Lib.IsBuilder 64 5 B b (Lib.byteCells l) w) (hlen:l.length+1≤140737488355328) (hBw:B≤w.heap.size) :
  Calls Tryd.prog 45 #[.pointer (some ⟨b,0,none⟩),.int .u8 (c.toNat:Int)] w fun e w'=>(∃ x,e=.returned x)∧Lib.IsBuilder 64 5 B b (Lib.byteCells (l++[c])) w'∧Below B w w'∧Spare b w w':=by
 obtain ⟨i0,hi,hz0,hz1,hz2⟩:=info_parts (show(Tryd.prog.info? 5).map (fun i=>(i.zero,i.size,i.bytes))=some (some (.int .u8 0),1,1) by kernel_rfl)
 have hcl:(Lib.byteCells l).length=l.length:=by simp [Lib.byteCells]
 have hcs:Lib.byteCells l++[.int .u8 (c.toNat:Int)]=Lib.byteCells (l++[c]):=by simp [Lib.byteCells]
 have HH:=Lib.hid h
 have HCL:=Lib.hid hcl
 have HCS:=Lib.hid hcs
 clear h hcl hcs
 go_enter Tryd.func45,Tryd.ntmps45
 go_wp2_with (go_at_call 57;refine(cc_any B b _ _ HH.out).mono ?_)
 rintro e w1 ⟨rfl,h1,hb1,hs1⟩
 obtain ⟨hB,v,hbk,hown,hne⟩:=h1
 have c0:w1.cell? ⟨b,0,none⟩=some (.pointer (some ⟨b,0,none⟩)):=by rw [Lib.cell_of_heap hbk];rfl
 have c1:w1.cell? ⟨b,1,none⟩=some v:=by rw [Lib.cell_of_heap hbk];rfl
 go_wp2_with (at_builtin;refine wpList_append_own _ rfl _ _ 59 rfl B 5 i0 (.int .u8 0) 1 1 Tryd.underlying59 hi hz0 hz1 hz2 rfl au1 _ _ _ rfl (hown.alloc _) ⟨w1.heap.size,0,none⟩ 1 1 [.int .u8 (c.toNat:Int)] rfl rfl ?c1 ?c2 ?c3 ?c4 ?c5 ?_)
 case c1 =>
  intro j u hj
  match j,hj with
  | 0,hj=>simp at hj;subst hj;simp [Addr.add]
 case c2=>intro u hu;simp at hu;subst hu;rfl
 case c3=>have:=HCL.out;unfold maxLen;omega
 case c4=>have:=HCL.out;omega
 case c5=>have:=hb1.size;simp;omega
 intro v' w2 hown' hgrow _
 have hlt:b<w1.heap.size:=(Array.getElem?_eq_some_iff.mp hbk).1
 have hb2:w2.heap[b]?=some (.cells #[.pointer (some ⟨b,0,none⟩),v] 64 (0,0)):=by
  rw [hgrow.block b au16 (fun e=>hne e.symm),Lib.alloc_old w1 _ b hlt]
  exact hbk
 have d0:w2.cell? ⟨b,0,none⟩=some (.pointer (some ⟨b,0,none⟩)):=by rw [Lib.cell_of_heap hb2];rfl
 have d1:w2.cell? ⟨b,1,none⟩=some v:=by rw [Lib.cell_of_heap hb2];rfl
 have f1:w2.frozen? ⟨b,1,none⟩=false:=Lib.frozen_of_heap hb2 1
 obtain ⟨g,cap,rfl⟩:∃ g cap,v'=.slice (some ⟨g,0,none⟩) ((Lib.byteCells l).length+1) cap:=by
  rcases hown'.2 with ⟨_,h0⟩|⟨g,cap,cur,hv,_⟩
  ·omega
  ·exact ⟨g,cap,hv⟩
 go_wp2
 go_ret
 refine ⟨⟨_,rfl⟩,.inr ?_,?_,?_⟩
 ·rw [← HCS.out]
  exact Lib.BuilderAt.put (T:=64) (e:=5) hB hb2 (bs':=Lib.byteCells l++[.int .u8 (c.toNat:Int)]) (by simpa using hown') au1
 ·exact((hb1.alloc (by have:=hb1.size;omega) _).grown hgrow (by have:=hb1.size;simp;omega) (fun k hk=>(hown.lt k hk).1)).setCell (p:=⟨b,1,none⟩) hB _
 ·refine Spare.set (fun k c2 hk ht hkb=>?_) 1 _
  have h2:=hs1 k c2 hk ht hkb
  have hl:=(Array.getElem?_eq_some_iff.mp h2).1
  rw [hgrow.block k au16 (own_other hown h2 ht),Lib.alloc_old w1 _ k hl]
  exact h2
theorem writeByte_calls (B b:Nat) (l:List UInt8) (c:UInt8) (w:World) (h:Lib.IsBuilder 64 5 B b (Lib.byteCells l) w) (hlen:l.length+1≤140737488355328) (hBw:B≤w.heap.size) :
  Calls Tryd.prog 45 #[.pointer (some ⟨b,0,none⟩),.int .u8 (c.toNat:Int)] w fun e w'=>(∃ x,e=.returned x)∧Lib.IsBuilder 64 5 B b (Lib.byteCells (l++[c])) w'∧Below B w w' :=
 (writeByte_spare B b l c w h hlen hBw).mono fun _ _ h=>⟨h.1,h.2.1,h.2.2.1⟩
set_option maxHeartbeats 1000000 in
set_option maxRecDepth 100000 in
theorem writeStr_spare (B b:Nat) (l t:List UInt8) (s:ByteArray) (w:World) (h:Lib.IsBuilder 64 5 B b (Lib.byteCells l) w) (hs:s.data.toList=t) (hlen:l.length+t.length≤140737488355328) (hBw:B≤w.heap.size) :
  Calls Tryd.prog 50 #[.pointer (some ⟨b,0,none⟩),.string s] w fun e w'=>(∃ x,e=.returned x)∧Lib.IsBuilder 64 5 B b (Lib.byteCells (l++t)) w'∧Below B w w'∧Spare b w w':=by
 obtain ⟨i0,hi,hz0,hz1,hz2⟩:=info_parts (show(Tryd.prog.info? 5).map (fun i=>(i.zero,i.size,i.bytes))=some (some (.int .u8 0),1,1) by kernel_rfl)
 have hcl:(Lib.byteCells l).length=l.length:=by simp [Lib.byteCells]
 have hsz:s.size=t.length:=by rw [← hs];simp
 have hcs:Lib.byteCells l++Lib.strCells s=Lib.byteCells (l++t):=by rw [← hs];simp [Lib.byteCells,Lib.strCells]
 have HH:=Lib.hid h
 have HCL:=Lib.hid hcl
 have HSZ:=Lib.hid hsz
 have HCS:=Lib.hid hcs
 clear h hcl hsz hs hcs
 go_enter Tryd.func50,Tryd.ntmps50
 go_wp2_with (go_at_call 57;refine(cc_any B b _ _ HH.out).mono ?_)
 rintro e w1 ⟨rfl,h1,hb1,hs1⟩
 obtain ⟨hB,v,hbk,hown,hne⟩:=h1
 have c0:w1.cell? ⟨b,0,none⟩=some (.pointer (some ⟨b,0,none⟩)):=by rw [Lib.cell_of_heap hbk];rfl
 have c1:w1.cell? ⟨b,1,none⟩=some v:=by rw [Lib.cell_of_heap hbk];rfl
 go_wp2_with (at_builtin;refine Lib.wpList_append_own_string _ rfl _ _ 59 9 rfl B 5 i0 Tryd.underlying59 Tryd.underlying9 hi hz0 hz1 hz2 _ _ _ rfl hown s rfl ?c3 ?c4 ?c5 ?_)
 case c3=>have:=HCL.out;have:=HSZ.out;unfold maxLen;omega
 case c4=>have:=HCL.out;have:=HSZ.out;omega
 case c5=>have:=hb1.size;omega
 intro v' w2 hown' hgrow _
 have hlt:b<w1.heap.size:=(Array.getElem?_eq_some_iff.mp hbk).1
 have hb2:w2.heap[b]?=some (.cells #[.pointer (some ⟨b,0,none⟩),v] 64 (0,0)):=by
  rw [hgrow.block b hlt (fun e=>hne e.symm)]
  exact hbk
 have d0:w2.cell? ⟨b,0,none⟩=some (.pointer (some ⟨b,0,none⟩)):=by rw [Lib.cell_of_heap hb2];rfl
 have d1:w2.cell? ⟨b,1,none⟩=some v:=by rw [Lib.cell_of_heap hb2];rfl
 have f1:w2.frozen? ⟨b,1,none⟩=false:=Lib.frozen_of_heap hb2 1
 obtain ⟨ao,n',cap,rfl⟩:∃ ao n' cap,v'=.slice ao n' cap:=by
  rcases hown'.2 with ⟨hv,_⟩|⟨g,cap,cur,hv,_⟩
  ·exact ⟨_,_,_,hv⟩
  ·exact ⟨_,_,_,hv⟩
 go_wp2
 go_ret2
 refine ⟨⟨_,rfl⟩,.inr ?_,?_,?_⟩
 ·rw [← HCS.out]
  exact Lib.BuilderAt.put (T:=64) (e:=5) hB hb2 (bs':=Lib.byteCells l++Lib.strCells s) (by simpa [Lib.strCells_length] using hown') au1
 ·exact(hb1.grown hgrow (by have:=hb1.size;omega) (fun k hk=>(hown.lt k hk).1)).setCell (p:=⟨b,1,none⟩) hB _
 ·refine Spare.set (fun k c2 hk ht hkb=>?_) 1 _
  have h2:=hs1 k c2 hk ht hkb
  rw [hgrow.block k (Array.getElem?_eq_some_iff.mp h2).1 (own_other hown h2 ht)]
  exact h2
theorem writeStr_calls (B b:Nat) (l t:List UInt8) (s:ByteArray) (w:World) (h:Lib.IsBuilder 64 5 B b (Lib.byteCells l) w) (hs:s.data.toList=t) (hlen:l.length+t.length≤140737488355328) (hBw:B≤w.heap.size) :
  Calls Tryd.prog 50 #[.pointer (some ⟨b,0,none⟩),.string s] w fun e w'=>(∃ x,e=.returned x)∧Lib.IsBuilder 64 5 B b (Lib.byteCells (l++t)) w'∧Below B w w' :=
 (writeStr_spare B b l t s w h hs hlen hBw).mono fun _ _ h=>⟨h.1,h.2.1,h.2.2.1⟩
theorem bld_new (w:World) (x:Obj) (hx:x=.cells #[.pointer none,.slice none 0 0] 64 (0,0)):Lib.IsBuilder 64 5 w.heap.size w.heap.size (Lib.byteCells []) (w.alloc x):=by
 subst hx
 refine .inl ⟨Nat.le_refl _,.slice none 0 0,heap_alloc_new w _,⟨rfl,.inl ⟨rfl,rfl⟩⟩,au30⟩
structure Far (B g:Nat) (w w':World):Prop where
 os:w'.os=w.os
 tape:w'.tape=w.tape
 output:w'.output=w.output
 size:w.heap.size≤w'.heap.size
 block:∀ k,k<B→k≠g→w'.heap[k]?=w.heap[k]?
theorem Far.refl (B g:Nat) (w:World):Far B g w w:=⟨rfl,rfl,rfl,Nat.le_refl _,fun _ _ _=>rfl⟩
theorem Far.trans {B g:Nat} {a b c:World} (h:Far B g a b) (k:Far B g b c):Far B g a c :=
 ⟨k.os.trans h.os,k.tape.trans h.tape,k.output.trans h.output,Nat.le_trans h.size k.size,fun i hi hb=>(k.block i hi hb).trans (h.block i hi hb)⟩
theorem Far.of_below {B g:Nat} {w w':World} (h:Below B w w'):Far B g w w':=⟨h.os,h.tape,h.output,h.size,fun k hk _=>h.block k hk⟩
theorem Far.of_upd {B g:Nat} {w w':World} (h:Upd g w w') (hB:B≤w.heap.size):Far B g w w':=⟨h.os,h.tape,h.output,h.size,fun k hk hg=>h.block k au0 hg⟩
theorem Far.of_drawn {B g:Nat} {w w':World} (h:Drawn0 w w'):Far B g w w':=by
 obtain ⟨n,rfl⟩:=h.out
 exact ⟨rfl,rfl,rfl,Nat.le_refl _,fun _ _ _=>rfl⟩
theorem Far.set {B g:Nat} {w w':World} (h:Far B g w w') (j:Nat) (u:Value):Far B g w (w'.setCell ⟨g,j,none⟩ u) :=
 ⟨h.os,h.tape,h.output,au47,fun k hk hb=>(Below.heap_setCell w' ⟨g,j,none⟩ u k hb).trans (h.block k hk hb)⟩
theorem PB.far {w w':World} {g B:Nat} {s:ByteArray} {p:Nat} {v:Value} (h:PB w g s p v) (hb:Below B w w') (hg:g<B):PB w' g s p v:=(hb.block _ hg).trans h
def Bld (B b:Nat) (l:Bs) (w:World):Prop:=Lib.IsBuilder 64 5 B b (Lib.byteCells l) w
theorem Bld.same {B b:Nat} {l:Bs} {w w':World} (h:Bld B b l w) (hm:∀ k,B≤k→k<w.heap.size→w'.heap[k]?=w.heap[k]?):Bld B b l w':=by
 have key:∀ p,Lib.BuilderAt 64 5 B b p (Lib.byteCells l) w→Lib.BuilderAt 64 5 B b p (Lib.byteCells l) w':=by
  rintro p ⟨hB,v,hb,ho,hne⟩
  refine ⟨hB,v,(hm b hB (Array.getElem?_eq_some_iff.mp hb).1).trans hb,own_move ho (fun k hk=>hm k (own_base ho k hk) (own_lt ho k hk)),hne⟩
 exact h.elim (fun x=>.inl (key _ x)) (fun x=>.inr (key _ x))
theorem Bld.drawn {B b:Nat} {l:Bs} {w w':World} (h:Bld B b l w) (hd:Drawn0 w w'):Bld B b l w':=by
 obtain ⟨n,rfl⟩:=hd.out
 exact h.same (fun _ _ _=>rfl)
theorem Bld.below {B b:Nat} {l:Bs} {w w':World} (h:Bld B b l w) (hd:Below w.heap.size w w'):Bld B b l w':=h.same (fun k _ hk=>hd.block k hk)
theorem Bld.set {B b g:Nat} {l:Bs} {w:World} (h:Bld B b l w) (hg:g<B) (j:Nat) (u:Value):Bld B b l (w.setCell ⟨g,j,none⟩ u) :=
 h.same (fun k hk _=>Below.heap_setCell w ⟨g,j,none⟩ u k (by simp only;omega))
theorem Bld.lt {B b:Nat} {l:Bs} {w:World} (h:Bld B b l w):B≤w.heap.size:=by
 rcases h with ⟨hB,v,hb,_⟩|⟨hB,v,hb,_⟩<;>(have:=(Array.getElem?_eq_some_iff.mp hb).1;omega)
theorem u8_lit {c:UInt8} {n:Nat} (h:(c.toNat:Int)=(n:Int)) (hn:n<256):c=UInt8.ofNat n:=by
 have h2:c.toNat=n:=by omega
 rw [← h2]
 simp
def meantB:ByteArray:=⟨#[34,92,47,8,12,10,13,9]⟩
theorem idx_mark (c:UInt8):match unmark c with
  | some m=>∃ j:Nat,Lib.indexByte [34,92,47,98,102,110,114,116] c=(j:Int)∧j<8∧∀ h:j<meantB.size,meantB[j]'h=m
  | none=>Lib.indexByte [34,92,47,98,102,110,114,116] c = -1:=by
 have:=all_bytes (p:=fun c=>match unmark c with
  | some m=>decide (0≤Lib.indexByte [34,92,47,98,102,110,114,116] c)&&decide ((Lib.indexByte [34,92,47,98,102,110,114,116] c).toNat<8)&&decide (meantB.data.toList.getD (Lib.indexByte [34,92,47,98,102,110,114,116] c).toNat 0=m)
  | none=>decide (Lib.indexByte [34,92,47,98,102,110,114,116] c = -1)) au11 c
 revert this
 cases unmark c with
 | none=>simp
 | some m =>
  simp only [Bool.and_eq_true,decide_eq_true_eq]
  rintro ⟨⟨h0,h1⟩,h2⟩
  refine ⟨(Lib.indexByte [34,92,47,98,102,110,114,116] c).toNat,au0,h1,fun h=>?_⟩
  rw [← h2,List.getD_eq_getElem?_getD,List.getElem?_eq_getElem (by simpa using h)]
  rfl
theorem four_len (r:Bs) (x:Nat) (h:four r=some x):4≤r.length∧x<65536:=by
 have hb:∀ c y,hexv c=some y→y<16:=by
  intro c y hy
  have:=idx_hex c
  rw [hy] at this
  exact this.2.2
 match r,h with
 | a :: b :: c :: d :: r,h =>
  simp only [four,Option.bind_eq_some_iff,Option.some.injEq] at h
  obtain ⟨x1,h1,x2,h2,x3,h3,x4,h4,h5⟩:=h
  have:=hb _ _ h1
  have:=hb _ _ h2
  have:=hb _ _ h3
  have:=hb _ _ h4
  simp
  omega
theorem len_data (b:ByteArray):b.data.toList.length=b.size:=by simp
theorem len_four (b:ByteArray) (h:b.size≤4):b.data.toList.length≤4:=by rw [len_data];exact h
theorem enc_len (x:Nat):(enc x).length≤4:=by
 rw [enc]
 exact len_four _ (encode_size_le (x:Int))
theorem hpre_of (s:ByteArray) (r:Bool) (w:World) (h:Lib.hasPrefix s.data.toList [92,117]=r) :
  Calls Tryd.prog 97 #[.string s,.string ⟨#[92,117]⟩] w fun e w'=>e=.returned (.bool r)∧w'=w:=h ▸ Tryd.strings_HasPrefix s ⟨#[92,117]⟩ w
def PostE (s:ByteArray) (g B b:Nat) (v:Value) (acc:Bs) (w:World) (x:Rs Bs) (e:Ending) (w':World):Prop :=
 match x with
 | .ok r t=>e=.returned (.tuple #[])∧(∃ q,At s q r∧PB w' g s q v)∧Bld B b (acc++t) w'∧Far B g w w'
 | .bad r x=>Stops s r x e∧Far B g w w'
set_option maxHeartbeats 4000000 in
set_option maxRecDepth 100000 in
theorem escape_calls (g B b:Nat) (s:ByteArray) (p:Nat) (v:Value) (c0:UInt8) (l acc:Bs) (w:World) (hs:s.size≤65536) (hacc:acc.length≤1000000) (hg:g<B) (hP:PB w g s p v) (hb:Bld B b acc w) (ha:At s p (c0 :: l)) :
  Calls Tryd.prog 90 #[.pointer (some ⟨g,0,none⟩),.pointer (some ⟨b,0,none⟩)] w (PostE s g B b v acc w (escape (c0 :: l))):=by
 have HP:=Lib.hid hP
 have HA:=Lib.hid ha
 have HB:=Lib.hid hb
 have hp1:=ha.lt
 have HBw:=Lib.hid hb.lt
 obtain ⟨k0,k1,k2⟩:=hP.cells
 obtain ⟨f1,f2⟩:=hP.free
 clear hP ha hb k2 f2
 cases l with
 | nil =>
  have hz:p+1=s.size:=HA.out.next.nil
  have hd:decide ((s.size:Int)≤(p:Int)+1)=true:=decide_eq_true au0
  have HZ:=Lib.hid hz
  clear hz
  go_enter Tryd.func90,Tryd.ntmps90
  go_wp2_with (go_at_call 71;refine(fail_calls _ _ _).mono ?_;rintro e w2 ⟨rfl,rfl⟩)
  exact ⟨rfl,HA.out.stops 5,Far.refl _ _ _⟩
 | cons c r =>
  have ha1:=HA.out.next
  have hp2:=ha1.lt
  have hx:=ha1.byte
  have hd:decide ((s.size:Int)≤(p:Int)+1)=false:=decide_eq_false au0
  have hi:=idx_mark c
  have HA1:=Lib.hid ha1
  clear ha1
  cases hu:unmark c with
  | some m =>
   rw [hu] at hi
   obtain ⟨j,hj,hj8,hm⟩:=hi
   have HJ:=Lib.hid hj
   have HU:=Lib.hid hu
   have hmx:∀ h:j<ByteArray.size ⟨#[34,92,47,8,12,10,13,9]⟩,(((⟨#[34,92,47,8,12,10,13,9]⟩:ByteArray)[j]'h).toNat:Int)=(m.toNat:Int):=fun h=>by
    have:=hm h
    unfold meantB at this
    rw [this]
   clear hj hu hm
   go_enter Tryd.func90,Tryd.ntmps90
   go_wp2_with (first
    | (go_at_call 63;refine(idx_of _ c (j:Int) _ HJ.out).mono ?_;rintro e w1 ⟨rfl,rfl⟩)
    | (go_at_call 45;refine(writeByte_calls B b acc m _ HB.out au0 HBw.out).mono ?_;rintro e w2 ⟨⟨x,rfl⟩,hb2,hbel2⟩;have HB2:Hid (Bld B b (acc++[m]) w2):=Lib.hid hb2;have HBEL:=Lib.hid hbel2;clear hb2 hbel2;have HP2:=Lib.hid (HP.out.far HBEL.out hg);obtain ⟨y0,y1,y2⟩:=HP2.out.cells;obtain ⟨z1,z2⟩:=HP2.out.free;clear y0 y2 z2))
   go_end0
   have he:escape (c0 :: c :: r)=.ok r [m]:=by simp only [escape,HU.out]
   rw [he]
   exact ⟨rfl,⟨p+2,HA1.out.next,HP2.out.set (p+2)⟩,HB2.out.set hg _ _,(Far.of_below HBEL.out).set _ _⟩
  | none =>
   rw [hu] at hi
   have HU:=Lib.hid hu
   have HI:Hid (Lib.indexByte [34,92,47,98,102,110,114,116] c = -1):=Lib.hid hi
   clear hi hu
   by_cases hc:c=117
   ·subst hc
    have ha2:=HA1.out.next
    have he:escape (c0 :: 117 :: r)=uni (c0 :: 117 :: r) r:=by simp only [escape,HU.out,if_pos]
    have HE:=Lib.hid he
    have HA2:=Lib.hid ha2
    clear he ha2
    cases hf:four r with
    | none =>
     have HF:Hid (numOr (four r) = -1):=Lib.hid (by rw [hf];rfl)
     have HX:Hid (escape (c0 :: 117 :: r)=.bad (c0 :: 117 :: r) 5):=Lib.hid (by rw [HE.out,uni,hf])
     clear hf
     go_enter Tryd.func90,Tryd.ntmps90
     go_wp2_with (first
      | (go_at_call 63;refine(idx_of _ 117 (-1) _ HI.out).mono ?_;rintro e w1 ⟨rfl,rfl⟩)
      | (go_at_call 96;refine(four_calls g s p (p+2) v r _ hs HP.out HA2.out).mono ?_;rw [HF.out];rintro e w2 ⟨rfl,hd2⟩;have HD2:=Lib.hid hd2;clear hd2;have HP2:=Lib.hid (HP.out.drawn HD2.out);obtain ⟨y0,y1,y2⟩:=HP2.out.cells;obtain ⟨z1,z2⟩:=HP2.out.free;clear y0 y2 z2)
      | (go_at_call 71;refine(fail_calls _ _ _).mono ?_;rintro e w3 ⟨rfl,rfl⟩))
     rw [HX.out]
     exact ⟨rfl,HA.out.stops 5,(Far.of_drawn HD2.out).set _ _⟩
    | some x =>
     obtain ⟨hl4,hx16⟩:=four_len r x hf
     obtain ⟨X,hX⟩:∃ X:Int,X=(x:Int):=⟨_,rfl⟩
     have hX0:0≤X:=by omega
     have hX1:X<65536:=by omega
     have HF:Hid (numOr (four r)=X):=Lib.hid (by rw [hf,hX];rfl)
     have HF4:Hid (four r=some x):=Lib.hid hf
     have HX:=Lib.hid hX
     have ha6:=HA2.out.add 4 hl4
     have HA6:Hid (At s (p+6) (r.drop 4)):=Lib.hid ha6
     have hp6:p+6≤s.size:=ha6.le
     have n0:decide (X<0)=false:=decide_eq_false au0
     clear hf ha6
     by_cases h1:0xdc00≤x∧x≤0xdfff
     ·have HR:Hid (escape (c0 :: 117 :: r)=.bad (c0 :: 117 :: r) 5):=Lib.hid (by rw [HE.out,uni,HF4.out];simp only;rw [if_pos h1])
      have n1:56320≤X:=by omega
      have n2:X≤57343:=by omega
      clear h1 hX hx16
      go_enter Tryd.func90,Tryd.ntmps90
      go_wp2_with (first
       | (go_at_call 63;refine(idx_of _ 117 (-1) _ HI.out).mono ?_;rintro e w1 ⟨rfl,rfl⟩)
       | (go_at_call 96;refine(four_calls g s p (p+2) v r _ hs HP.out HA2.out).mono ?_;rw [HF.out];rintro e w2 ⟨rfl,hd2⟩;have HD2:=Lib.hid hd2;clear hd2;have HP2:=Lib.hid (HP.out.drawn HD2.out);obtain ⟨y0,y1,y2⟩:=HP2.out.cells;obtain ⟨z1,z2⟩:=HP2.out.free;clear y0 y2 z2)
       | (go_at_call 71;refine(fail_calls _ _ _).mono ?_;rintro e w3 ⟨rfl,rfl⟩))
      rw [HR.out]
      exact ⟨rfl,HA.out.stops 5,(Far.of_drawn HD2.out).set _ _⟩
     ·by_cases h2:x<0xd800∨0xdfff<x
      ·have HR:Hid (escape (c0 :: 117 :: r)=.ok (r.drop 4) (enc x)):=Lib.hid (by rw [HE.out,uni,HF4.out];simp only;rw [if_neg h1,if_pos h2])
       have hen:=enc_len x
       have hcase:X<55296∨57343<X:=by omega
       clear h1 h2 hX hx16
       go_enter Tryd.func90,Tryd.ntmps90
       rcases hcase with n1|n1
       ·have q1:decide (56320≤X)=false:=decide_eq_false au0
        have q2:decide (55296≤X)=false:=decide_eq_false au0
        clear n1
        go_wp2_with (first
         | (go_at_call 63;refine(idx_of _ 117 (-1) _ HI.out).mono ?_;rintro e w1 ⟨rfl,rfl⟩)
         | (go_at_call 96;refine(four_calls g s p (p+2) v r _ hs HP.out HA2.out).mono ?_;rw [HF.out];rintro e w2 ⟨rfl,hd2⟩;have HD2:=Lib.hid hd2;clear hd2;have HP2:=Lib.hid (HP.out.drawn HD2.out);obtain ⟨y0,y1,y2⟩:=HP2.out.cells;obtain ⟨z1,z2⟩:=HP2.out.free;clear y0 y2 z2)
         | (go_at_call 50;refine(writeStr_calls B b acc (enc x) _ _ ((HB.out.drawn HD2.out).set hg _ _) (by rw [HX.out];rfl) au0 ((HB.out.drawn HD2.out).set hg 1 (.int .i64 ((p+6:Nat):Int))).lt).mono ?_;rintro e w3 ⟨⟨y,rfl⟩,hb3,hbel3⟩;have HB3:Hid (Bld B b (acc++enc x) w3):=Lib.hid hb3;have HBEL:=Lib.hid hbel3;clear hb3 hbel3))
        go_end0
        rw [HR.out]
        exact ⟨rfl,⟨p+6,HA6.out,(HP2.out.set (p+6)).far HBEL.out hg⟩,HB3.out,((Far.of_drawn HD2.out).set _ _).trans (Far.of_below HBEL.out)⟩
       ·have q1:56320≤X:=by omega
        have q2:decide (X≤57343)=false:=decide_eq_false au0
        have q3:55296≤X:=by omega
        have q4:decide (X≤56319)=false:=decide_eq_false au0
        clear n1
        go_wp2_with (first
         | (go_at_call 63;refine(idx_of _ 117 (-1) _ HI.out).mono ?_;rintro e w1 ⟨rfl,rfl⟩)
         | (go_at_call 96;refine(four_calls g s p (p+2) v r _ hs HP.out HA2.out).mono ?_;rw [HF.out];rintro e w2 ⟨rfl,hd2⟩;have HD2:=Lib.hid hd2;clear hd2;have HP2:=Lib.hid (HP.out.drawn HD2.out);obtain ⟨y0,y1,y2⟩:=HP2.out.cells;obtain ⟨z1,z2⟩:=HP2.out.free;clear y0 y2 z2)
         | (go_at_call 50;refine(writeStr_calls B b acc (enc x) _ _ ((HB.out.drawn HD2.out).set hg _ _) (by rw [HX.out];rfl) au0 ((HB.out.drawn HD2.out).set hg 1 (.int .i64 ((p+6:Nat):Int))).lt).mono ?_;rintro e w3 ⟨⟨y,rfl⟩,hb3,hbel3⟩;have HB3:Hid (Bld B b (acc++enc x) w3):=Lib.hid hb3;have HBEL:=Lib.hid hbel3;clear hb3 hbel3))
        go_end0
        rw [HR.out]
        exact ⟨rfl,⟨p+6,HA6.out,(HP2.out.set (p+6)).far HBEL.out hg⟩,HB3.out,((Far.of_drawn HD2.out).set _ _).trans (Far.of_below HBEL.out)⟩
      ·have q1:decide (56320≤X)=false:=decide_eq_false au0
       have q3:55296≤X:=by omega
       have q4:X≤56319:=by omega
       have HNE:=Lib.hid h1
       have HNE2:=Lib.hid h2
       clear h1 h2 hX hx16
       cases hm:r.drop 4 with
       | nil =>
        have hz:p+6=s.size:=by have:=HA6.out;rw [hm] at this;exact this.nil
        have d1:decide ((p:Int)+6<(s.size:Int))=false:=decide_eq_false au0
        have HR:Hid (escape (c0 :: 117 :: r)=.bad (c0 :: 117 :: r) 5):=Lib.hid (by rw [HE.out,uni,HF4.out];simp only;rw [if_neg HNE.out,if_neg HNE2.out,hm])
        clear hz hm hp6
        go_enter Tryd.func90,Tryd.ntmps90
        go_wp2_with (first
         | (go_at_call 63;refine(idx_of _ 117 (-1) _ HI.out).mono ?_;rintro e w1 ⟨rfl,rfl⟩)
         | (go_at_call 96;refine(four_calls g s p (p+2) v r _ hs HP.out HA2.out).mono ?_;rw [HF.out];rintro e w2 ⟨rfl,hd2⟩;have HD2:=Lib.hid hd2;clear hd2;have HP2:=Lib.hid (HP.out.drawn HD2.out);obtain ⟨y0,y1,y2⟩:=HP2.out.cells;obtain ⟨z1,z2⟩:=HP2.out.free;clear y2 z2))
        go_quiet (fail)
        go_wp2_with (go_at_call 71;refine(fail_calls _ _ _).mono ?_;rintro e w3 ⟨rfl,rfl⟩)
        rw [HR.out]
        exact ⟨rfl,HA.out.stops 5,(((Far.of_drawn HD2.out).set _ _)).trans (Far.of_drawn au8)⟩
       | cons d m =>
        have ham:At s (p+6) (d :: m):=by have:=HA6.out;rw [hm] at this;exact this
        have hlt6:=ham.lt
        have d1:decide ((p:Int)+6<(s.size:Int))=true:=decide_eq_true au0
        have hex:(s.extract (p+6) s.size).data.toList=d :: m:=by rw [Lib.extract_to_end];exact ham.drop
        by_cases hpre:∃ r2,d :: m=92 :: 117 :: r2
        ·obtain ⟨r2,hr2⟩:=hpre
         have tok1:True:=trivial
         have HQ:Hid (Lib.hasPrefix (s.extract (p+6) s.size).data.toList [92,117]=true):=Lib.hid (by rw [hex,hr2];rfl)
         have ha8:At s (p+8) r2:=by rw [hr2] at ham;exact ham.next.next
         have HA8:=Lib.hid ha8
         have HRR:Hid (escape (c0 :: 117 :: r)=match four r2 with
           | some y=>if 0xdc00≤y∧y≤0xdfff then .ok (r2.drop 4) (enc (0x10000+(x - 0xd800)*1024+(y - 0xdc00))) else .bad (c0 :: 117 :: r) 5
           | none=>.bad (c0 :: 117 :: r) 5):=Lib.hid (by
          rw [HE.out,uni,HF4.out]
          simp only
          rw [if_neg HNE.out,if_neg HNE2.out,hm,hr2]
          rfl)
         clear hm hp6 ham hex hr2 ha8
         cases hf2:four r2 with
         | none =>
          have HR:Hid (escape (c0 :: 117 :: r)=.bad (c0 :: 117 :: r) 5):=Lib.hid (by rw [HRR.out,hf2])
          have HFY:Hid (numOr (four r2) = -1):=Lib.hid (by rw [hf2];rfl)
          clear hf2
          go_enter Tryd.func90,Tryd.ntmps90
          go_wp2_with (first
           | (go_at_call 63;refine(idx_of _ 117 (-1) _ HI.out).mono ?_;rintro e w1 ⟨rfl,rfl⟩)
           | (go_at_call 96;have _t:=tok1;refine(four_calls g s p (p+2) v r _ hs HP.out HA2.out).mono ?_;rw [HF.out];rintro e w2 ⟨rfl,hd2⟩;have HD2:=Lib.hid hd2;clear hd2 tok1 _t;have HP2:=Lib.hid (HP.out.drawn HD2.out);obtain ⟨y0,y1,y2⟩:=HP2.out.cells;obtain ⟨z1,z2⟩:=HP2.out.free;clear y2 z2))
          go_quiet ((go_at_call 97;exact Calls.quiet_of_same (hpre_of _ _ _ HQ.out)))
          go_wp2_with (first
           | (go_at_call 96;refine(four_calls g s (p+6) (p+8) v r2 _ hs (PB.drawn (HP2.out.set (p+6)) au8) HA8.out).mono ?_;rw [HFY.out];rintro e w4 ⟨rfl,hd4⟩;have HD4:Hid (Drawn0 (w2.setCell ⟨g,1,none⟩ (.int .i64 ((p:Int)+6))) w4):=Lib.hid (drawn_trans au8 hd4);clear hd4;have HP4:Hid (PB w4 g s (p+6) v):=Lib.hid (PB.drawn (HP2.out.set (p+6)) HD4.out);obtain ⟨u0,u1,u2⟩:=HP4.out.cells;obtain ⟨o1,o2⟩:=HP4.out.free;clear u2 o2)
           | (go_at_call 71;refine(fail_calls _ _ _).mono ?_;rintro e w5 ⟨rfl,rfl⟩))
          rw [HR.out]
          exact ⟨rfl,HA.out.stops 5,(((Far.of_drawn HD2.out).set _ _)).trans (Far.of_drawn HD4.out)⟩
         | some y =>
          obtain ⟨hl4b,hy16⟩:=four_len r2 y hf2
          obtain ⟨Y,hY⟩:∃ Y:Int,Y=(y:Int):=⟨_,rfl⟩
          have HFY:Hid (numOr (four r2)=Y):=Lib.hid (by rw [hf2,hY];rfl)
          have HY:=Lib.hid hY
          by_cases h5:0xdc00≤y∧y≤0xdfff
          ·have HR:Hid (escape (c0 :: 117 :: r)=.ok (r2.drop 4) (enc (65536+(x - 55296)*1024+(y - 56320)))):=Lib.hid (by rw [HRR.out,hf2];simp only;rw [if_pos h5])
           have h6:decide (Y<56320)=false:=decide_eq_false au0
           have h7:decide (57343<Y)=false:=decide_eq_false au0
           have h8:0≤Y:=by omega
           have h9:Y<65536:=by omega
           have HXX:=HX.out
           have hxr:55296≤x∧x≤56319:=by omega
           have HN:Hid (65536+(X - 55296)*1024+Y - 56320=((65536+(x - 55296)*1024+(y - 56320):Nat):Int)):=Lib.hid au0
           have hen:=enc_len (65536+(x - 55296)*1024+(y - 56320))
           have HEN:=Lib.hid hen
           have HA12:Hid (At s (p+12) (r2.drop 4)):=Lib.hid (HA8.out.add 4 hl4b)
           clear hf2 h5 hY hy16 hl4b HXX hxr hen
           go_enter Tryd.func90,Tryd.ntmps90
           go_wp2_with (first
            | (go_at_call 63;refine(idx_of _ 117 (-1) _ HI.out).mono ?_;rintro e w1 ⟨rfl,rfl⟩)
            | (go_at_call 96;have _t:=tok1;refine(four_calls g s p (p+2) v r _ hs HP.out HA2.out).mono ?_;rw [HF.out];rintro e w2 ⟨rfl,hd2⟩;have HD2:=Lib.hid hd2;clear hd2 tok1 _t;have HP2:=Lib.hid (HP.out.drawn HD2.out);obtain ⟨y0,y1,y2⟩:=HP2.out.cells;obtain ⟨z1,z2⟩:=HP2.out.free;clear y2 z2))
           go_quiet ((go_at_call 97;exact Calls.quiet_of_same (hpre_of _ _ _ HQ.out)))
           go_wp2_with (first
            | (go_at_call 96;refine(four_calls g s (p+6) (p+8) v r2 _ hs (PB.drawn (HP2.out.set (p+6)) au8) HA8.out).mono ?_;rw [HFY.out];rintro e w4 ⟨rfl,hd4⟩;have HD4:Hid (Drawn0 (w2.setCell ⟨g,1,none⟩ (.int .i64 ((p:Int)+6))) w4):=Lib.hid (drawn_trans au8 hd4);clear hd4;have HP4:Hid (PB w4 g s (p+6) v):=Lib.hid (PB.drawn (HP2.out.set (p+6)) HD4.out);obtain ⟨u0,u1,u2⟩:=HP4.out.cells;obtain ⟨o1,o2⟩:=HP4.out.free;clear u2 o2)
            | (go_at_call 50;have hbb:Bld B b acc (w4.setCell ⟨g,1,none⟩ (.int .i64 ((p:Int)+6+6))):=((((HB.out.drawn HD2.out).set hg 1 (.int .i64 ((p:Int)+6))).drawn HD4.out).set hg 1 _);refine(writeStr_calls B b acc (enc (65536+(x - 55296)*1024+(y - 56320))) _ _ hbb (by rw [HN.out,enc]) (by have:=HEN.out;omega) hbb.lt).mono ?_;rintro e w6 ⟨⟨z,rfl⟩,hb6,hbel6⟩;have HB6:Hid (Bld B b (acc++enc (65536+(x - 55296)*1024+(y - 56320))) w6):=Lib.hid hb6;have HBEL:=Lib.hid hbel6;clear hb6 hbel6 hbb))
           go_end0
           rw [HR.out]
           exact ⟨rfl,⟨p+12,HA12.out,(HP4.out.set (p+12)).far HBEL.out hg⟩,HB6.out,((((Far.of_drawn HD2.out).set 1 _).trans (Far.of_drawn HD4.out)).set 1 _).trans (Far.of_below HBEL.out)⟩
          ·have HR:Hid (escape (c0 :: 117 :: r)=.bad (c0 :: 117 :: r) 5):=Lib.hid (by rw [HRR.out,hf2];simp only;rw [if_neg h5])
           have h6:Y<56320∨(56320≤Y∧57343<Y):=by omega
           clear hf2 h5 hY hy16 hl4b
           rcases h6 with h6|⟨h6,h7⟩
           all_goals
            go_enter Tryd.func90,Tryd.ntmps90
            go_wp2_with (first
             | (go_at_call 63;refine(idx_of _ 117 (-1) _ HI.out).mono ?_;rintro e w1 ⟨rfl,rfl⟩)
             | (go_at_call 96;have _t:=tok1;refine(four_calls g s p (p+2) v r _ hs HP.out HA2.out).mono ?_;rw [HF.out];rintro e w2 ⟨rfl,hd2⟩;have HD2:=Lib.hid hd2;clear hd2 tok1 _t;have HP2:=Lib.hid (HP.out.drawn HD2.out);obtain ⟨y0,y1,y2⟩:=HP2.out.cells;obtain ⟨z1,z2⟩:=HP2.out.free;clear y2 z2))
            go_quiet ((go_at_call 97;exact Calls.quiet_of_same (hpre_of _ _ _ HQ.out)))
            go_wp2_with (first
             | (go_at_call 96;refine(four_calls g s (p+6) (p+8) v r2 _ hs (PB.drawn (HP2.out.set (p+6)) au8) HA8.out).mono ?_;rw [HFY.out];rintro e w4 ⟨rfl,hd4⟩;have HD4:Hid (Drawn0 (w2.setCell ⟨g,1,none⟩ (.int .i64 ((p:Int)+6))) w4):=Lib.hid (drawn_trans au8 hd4);clear hd4;have HP4:Hid (PB w4 g s (p+6) v):=Lib.hid (PB.drawn (HP2.out.set (p+6)) HD4.out);obtain ⟨u0,u1,u2⟩:=HP4.out.cells;obtain ⟨o1,o2⟩:=HP4.out.free;clear u2 o2)
             | (go_at_call 71;refine(fail_calls _ _ _).mono ?_;rintro e w5 ⟨rfl,rfl⟩))
            rw [HR.out]
            exact ⟨rfl,HA.out.stops 5,(((Far.of_drawn HD2.out).set _ _)).trans (Far.of_drawn HD4.out)⟩
        ·have hq:Lib.hasPrefix (d :: m) [92,117]=false:=by
          cases hh:Lib.hasPrefix (d :: m) [92,117] with
          | false=>rfl
          | true =>
           unfold Lib.hasPrefix at hh
           obtain ⟨t,ht⟩:=List.isPrefixOf_iff_prefix.1 hh
           exact absurd ⟨t,ht.symm⟩ hpre
         have HQ:Hid (Lib.hasPrefix (s.extract (p+6) s.size).data.toList [92,117]=false):=Lib.hid (by rw [hex];exact hq)
         have HR:Hid (escape (c0 :: 117 :: r)=.bad (c0 :: 117 :: r) 5):=Lib.hid (by
          rw [HE.out,uni,HF4.out]
          simp only
          rw [if_neg HNE.out,if_neg HNE2.out,hm]
          cases m with
          | nil=>rfl
          | cons d2 m=>simp only;rw [if_neg (fun e=>hpre ⟨m,by rw [e.1,e.2]⟩)])
         clear hm hp6 ham hex hpre hq
         go_enter Tryd.func90,Tryd.ntmps90
         go_wp2_with (first
          | (go_at_call 63;refine(idx_of _ 117 (-1) _ HI.out).mono ?_;rintro e w1 ⟨rfl,rfl⟩)
          | (go_at_call 96;refine(four_calls g s p (p+2) v r _ hs HP.out HA2.out).mono ?_;rw [HF.out];rintro e w2 ⟨rfl,hd2⟩;have HD2:=Lib.hid hd2;clear hd2;have HP2:=Lib.hid (HP.out.drawn HD2.out);obtain ⟨y0,y1,y2⟩:=HP2.out.cells;obtain ⟨z1,z2⟩:=HP2.out.free;clear y2 z2))
         go_quiet ((go_at_call 97;exact Calls.quiet_of_same (hpre_of _ _ _ HQ.out)))
         go_wp2_with (go_at_call 71;refine(fail_calls _ _ _).mono ?_;rintro e w3 ⟨rfl,rfl⟩)
         rw [HR.out]
         exact ⟨rfl,HA.out.stops 5,(((Far.of_drawn HD2.out).set _ _)).trans (Far.of_drawn au8)⟩
   ·have he:escape (c0 :: c :: r)=.bad (c0 :: c :: r) 5:=by simp only [escape,HU.out,if_neg hc]
    have hne:((c.toNat:Int) != 117)=true:=by
     simp only [bne_iff_ne,ne_eq]
     intro e
     exact hc (u8_lit (n:=117) au0 au0)
    go_enter Tryd.func90,Tryd.ntmps90
    have HE:=Lib.hid he
    clear he hc
    go_wp2_with (first
     | (go_at_call 63;refine(idx_of _ c (-1) _ HI.out).mono ?_;rintro e w1 ⟨rfl,rfl⟩)
     | (go_at_call 71;refine(fail_calls _ _ _).mono ?_;rintro e w2 ⟨rfl,rfl⟩))
    rw [HE.out]
    exact ⟨rfl,HA.out.stops 5,Far.refl _ _ _⟩
def vren:Go.Shelf.Ren:=⟨fun|196=>29|259=>43|n=>n,fun|12=>12|9=>9|3=>3|4=>4|5=>5|119=>72|0=>0|46=>76|53=>97|139=>75|138=>74|n=>n,fun|3=>0|4=>1|n=>n⟩
theorem vlays:Go.Proofs.Lays.n196 Tryd.prog vren:={
 mixed:=by kernel_rfl
 f196:=Tryd.func29.trans (congrArg some au2)
 f259:=Tryd.func43.trans (congrArg some au2)
 t0:=Tryd.underlying0
 a0:=Tryd.isAgg0
 z0:=Tryd.sizeOf0
 v0:=Tryd.zeroValue0
 t3:=Tryd.underlying3
 a3:=Tryd.isAgg3
 z3:=Tryd.sizeOf3
 v3:=Tryd.zeroValue3
 t4:=Tryd.underlying4
 a4:=Tryd.isAgg4
 z4:=Tryd.sizeOf4
 v4:=Tryd.zeroValue4
 t5:=Tryd.underlying5
 a5:=Tryd.isAgg5
 z5:=Tryd.sizeOf5
 v5:=Tryd.zeroValue5
 t9:=Tryd.underlying9
 a9:=Tryd.isAgg9
 z9:=Tryd.sizeOf9
 v9:=Tryd.zeroValue9
 t12:=Tryd.underlying12
 a12:=Tryd.isAgg12
 z12:=Tryd.sizeOf12
 v12:=Tryd.zeroValue12
 t46:=Tryd.underlying76
 a46:=Tryd.isAgg76
 z46:=Tryd.sizeOf76
 v46:=Tryd.zeroValue76
 t53:=Tryd.underlying97
 a53:=Tryd.isAgg97
 z53:=Tryd.sizeOf97
 v53:=Tryd.zeroValue97
 t119:=Tryd.underlying72
 a119:=Tryd.isAgg72
 z119:=Tryd.sizeOf72
 t138:=Tryd.underlying74
 a138:=Tryd.isAgg74
 z138:=Tryd.sizeOf74
 v138:=Tryd.zeroValue74
 t139:=Tryd.underlying75
 a139:=Tryd.isAgg75
 z139:=Tryd.sizeOf75
 v139:=Tryd.zeroValue75
 g3:=by kernel_rfl
 g4:=by kernel_rfl }
def utf8_ValidString.f (s:ByteArray):Option Bool:=if s.size≤9223372036854775807 then some (Lib.validD s.data.toList) else none
theorem utf8_ValidString.calls (a0:ByteArray) (r:Bool) (w:World) (hGU8:GlobU8 w) (h:utf8_ValidString.f a0=some r) :
  Calls Tryd.prog 29 #[.string a0] w fun e w'=>e=.returned (.bool r)∧Below w.heap.size w w':=by
 unfold utf8_ValidString.f at h
 split at h
 ·rename_i hh
  obtain rfl:=Option.some.inj h
  exact Any.utf8_ValidString vlays a0 w hh hGU8.T
 ·exact absurd h au5
theorem decodeGo_L (s:ByteArray) (h:s.data.toList≠[]):Lib.decodeGo s=Lib.decodeL s.data.toList:=by
 have hz:¬ s.size=0:=by
  intro e
  apply h
  have:s.data.toList.length=0:=by simpa using e
  exact List.length_eq_zero_iff.mp this
 unfold Lib.decodeGo
 rw [if_neg hz]
 rfl
theorem dec_calls (s:ByteArray) (l:Bs) (w:World) (hGU8:GlobU8 w) (hs:s.data.toList=l) (hl:l≠[]) :
  Calls Tryd.prog 75 #[.string s] w fun e w'=>e=.returned (.tuple #[.int .i32 (Lib.decodeL l).1,.int .i64 ((Lib.decodeL l).2:Nat)])∧Below w.heap.size w w':=by
 have:=Tryd.utf8_DecodeRuneInString s w hGU8.T
 rw [decodeGo_L s (by rw [hs];exact hl),hs] at this
 exact this
def PostT (s:ByteArray) (g:Nat) (v:Value) (w:World) (x:Rs Bs) (e:Ending) (w':World):Prop :=
 match x with
 | .ok r t=>e=.returned (.string (str t))∧(∃ q,At s q r∧PB w' g s q v)∧Upd g w w'
 | .bad r x=>Stops s r x e∧Upd g w w'
theorem sgn_facts (c:UInt8) (r:Bs):(c.toNat<128→sgn (c :: r)=1∧(Lib.decodeL (c :: r)).2=1) ∧
  (¬ c.toNat<128→sgn (c :: r)=0→(Lib.decodeL (c :: r)).2=1)∧(sgn (c :: r)≠0→sgn (c :: r)=(Lib.decodeL (c :: r)).2∧sgn (c :: r)≤(c :: r).length∧1≤sgn (c :: r))∧(¬ c.toNat<128→sgn (c :: r)≠0→(Lib.decodeL (c :: r)).2≠1):=by
 have h1:=Lib.decodeL_width (c :: r)
 have h2:=Lib.decodeL_le (c :: r) au5
 have h3:c.toNat<128→Lib.decodeL (c :: r)=(c.toNat,1):=Lib.decodeL_ascii c r
 unfold sgn
 simp only
 refine ⟨fun h=>?_,fun h=>?_,fun h=>?_,fun h=>?_⟩
 ·rw [if_pos h,h3 h]
  exact ⟨rfl,rfl⟩
 ·rw [if_neg h]
  split
  ·intro _
   assumption
  ·intro e
   omega
 ·split
  ·rename_i hc
   rw [h3 hc]
   exact ⟨rfl,au5,Nat.le_refl _⟩
  ·split at h
   ·omega
   ·split at h
    ·exact absurd rfl h
    ·rename_i hn
     rw [if_neg hn]
     exact ⟨rfl,h2,h1⟩
 ·rw [if_neg h]
  split
  ·intro e
   exact absurd rfl e
  ·intro _
   assumption
theorem uni_len (l r r5 t5:Bs) (h:uni l r=.ok r5 t5):t5.length≤4∧r5.length<r.length:=by
 unfold uni at h
 cases hf:four r with
 | none=>rw [hf] at h;cases h
 | some x =>
  rw [hf] at h
  have hl:=(four_len r x hf).1
  simp only at h
  split at h
  ·cases h
  ·split at h
   ·injection h with h1 h2
    subst h1;subst h2
    exact ⟨enc_len x,by rw [List.length_drop];omega⟩
   ·split at h
    ·rename_i c1 c2 r2 hr
     have h5:r2.length+2=r.length - 4:=by
      have:=congrArg List.length hr
      simpa using this.symm
     split at h
     ·cases hf2:four r2 with
      | none=>rw [hf2] at h;cases h
      | some y =>
       rw [hf2] at h
       simp only at h
       split at h
       ·injection h with h1 h2
        subst h1;subst h2
        exact ⟨enc_len _,by rw [List.length_drop];omega⟩
       ·cases h
     ·cases h
    ·cases h
theorem escape_len (l r5 t5:Bs) (h:escape l=.ok r5 t5):t5.length≤4∧r5.length<l.length:=by
 match l,h with
 | a :: c :: r,h =>
  simp only [escape] at h
  cases hu:unmark c with
  | some m =>
   rw [hu] at h
   injection h with h1 h2
   subst h1;subst h2
   simp
   omega
  | none =>
   rw [hu] at h
   simp only at h
   split at h
   ·have:=uni_len _ _ _ _ h
    simp
    omega
   ·cases h
set_option maxHeartbeats 4000000 in
set_option maxRecDepth 100000 in
theorem text_calls (g:Nat) (s:ByteArray) (p:Nat) (v:Value) (l:Bs) (w:World) (hs:s.size≤65536) (hGU8:GlobU8 w) (hg2:1<g) (hP:PB w g s p v) (ha:At s p l) :
  Calls Tryd.prog 80 #[.pointer (some ⟨g,0,none⟩)] w (PostT s g v w (text l)):=by
 have HP:=Lib.hid hP
 have HA:=Lib.hid ha
 have HG:=Lib.hid hGU8
 clear hP ha hGU8
 by_cases hq:∃ r,l=34 :: r
 ·obtain ⟨r,rfl⟩:=hq
  generalize hO:text (34 :: r)=O
  have HO:Hid (chars (r.length+1) r []=O):=Lib.hid (by rw [← hO,text];rfl)
  clear hO
  go_enter Tryd.func80,Tryd.ntmps80
  go_wp2_with (go_at_call 81;refine(take_yes g s p v 34 r _ hs HP.out HA.out).mono ?_;rintro e w1 ⟨rfl,hp1,hu1⟩;have HP1:=Lib.hid hp1;have HU1:=Lib.hid hu1;clear hp1 hu1)
  have hnew:=bld_new w1 (.cells #[.pointer none,.slice none 0 0] 64 (0,0)) rfl
  have HNEW:Hid (Bld w1.heap.size w1.heap.size [] (w1.alloc (.cells #[.pointer none,.slice none 0 0] 64 (0,0)))):=Lib.hid hnew
  have HGL:Hid (g<w1.heap.size):=Lib.hid HP1.out.lt
  clear hnew
  have hal:Below w1.heap.size w1 (w1.alloc (.cells #[.pointer none,.slice none 0 0] 64 (0,0))):=(Below.refl _ _).alloc (Nat.le_refl _) _
  have HAL:=Lib.hid hal
  clear hal
  have HG1:Hid (GlobU8 w1):=Lib.hid (HG.out.same (HU1.out.block 0 (by have:=HG.out.L;omega) au0) (HU1.out.block 1 (by have:=HG.out.L;omega) au0))
  have HUPD:Hid (∀ wx,Far w1.heap.size g w1 wx→Upd g w wx):=Lib.hid fun wx hx=>HU1.out.trans ⟨hx.os,hx.tape,hx.output,hx.size,fun k hk hne=>hx.block k hk hne⟩
  go_loopg [] (r.length+1) (fun k wr=>∃ q m acc,Hid (At s q m∧chars k m acc=O∧m.length<k∧acc.length≤4*q)∧Hid (PB wr g s q v)∧Hid (Bld w1.heap.size w1.heap.size acc wr)∧Hid (Far w1.heap.size g w1 wr))
  case atStart=>exact ⟨p+1,r,[],Lib.hid ⟨HA.out.next,HO.out,au0,au5⟩,Lib.hid (HP1.out.below HAL.out),HNEW,Lib.hid (Far.of_below HAL.out)⟩
  case round =>
   obtain ⟨q,m,acc,HM,HQ,HB,HF⟩:=hrel
   obtain ⟨k0,k1,k2⟩:=HQ.out.cells
   obtain ⟨f1,f2⟩:=HQ.out.free
   clear k2 f2
   have hlen:=HM.out.2.2.1
   obtain ⟨k,rfl⟩:∃ k,gk=k+1:=⟨gk - 1,au0⟩
   have hchars:=HM.out.2.1
   cases m with
   | nil =>
    obtain ⟨d1,d2⟩:=at_ge HM.out.1
    have HO2:Hid (O=.bad [] 5):=Lib.hid hchars.symm
    clear hchars hlen
    go_wp2_with fail
    go_quiet (fail)
    go_wp2_with (go_at_call 71;refine(fail_calls _ _ _).mono ?_;rintro e w3 ⟨rfl,rfl⟩)
    rw [HO2.out]
    exact ⟨rfl,HM.out.1.stops 5,HUPD.out _ (HF.out.trans (Far.of_drawn au8))⟩
   | cons c m =>
    obtain ⟨d1,d2⟩:=at_lt HM.out.1
    have hlt:=HM.out.1.lt
    obtain ⟨C,hC⟩:∃ C:Int,C=(c.toNat:Int):=⟨_,rfl⟩
    have hx:∀ hh:q<s.size,((s[q]'hh).toNat:Int)=C:=fun hh=>(HM.out.1.byte hh).trans hC.symm
    have p1:(0≤(q:Int))=True:=eq_true au0
    have p2:(q:Int)<(s.size:Int):=by omega
    have p3:q<65536:=by omega
    simp only [chars] at hchars
    by_cases c1:c=34
    ·rw [if_pos c1] at hchars
     have HO2:Hid (O=.ok m acc):=Lib.hid hchars.symm
     have q1:(C==34)=true:=by subst c1;rw [hC];rfl
     clear hchars hlen c1 hC
     go_wp2_with fail
     go_quiet (fail)
     go_wp2_with fail
     go_quiet (fail)
     go_wp2_with (go_at_call 38;refine(Tryd.Builder_String_any w1.heap.size w1.heap.size acc _ (Bld.set (Bld.drawn HB.out au8) HGL.out 1 _) (Bld.lt (Bld.set (Bld.drawn HB.out au8) HGL.out 1 _))).mono ?_;rintro e w4 ⟨rfl,hb4⟩;have HB4:=Lib.hid hb4;clear hb4)
     go_ret
     rw [HO2.out]
     exact ⟨rfl,⟨q+1,HM.out.1.next,(((HQ.out.drawn au8).set (q+1)).far HB4.out HGL.out)⟩,HUPD.out _ ((HF.out.trans ((Far.of_drawn au8).set 1 _)).trans (Far.of_below HB4.out))⟩
    ·rw [if_neg c1] at hchars
     have q1:(C==34)=false:=by
      rw [hC]
      simp only [beq_eq_false_iff_ne,ne_eq]
      exact fun e=>c1 (u8_lit (n:=34) au0 au0)
     clear c1
     by_cases c2:c.toNat<32
     ·rw [if_pos c2] at hchars
      have HO2:Hid (O=.bad (c :: m) 5):=Lib.hid hchars.symm
      have q2:C<32:=by omega
      clear hchars hlen c2 hC
      go_wp2_with fail
      go_quiet (fail)
      go_wp2_with fail
      go_quiet (fail)
      go_wp2_with (go_at_call 71;refine(fail_calls _ _ _).mono ?_;rintro e w3 ⟨rfl,rfl⟩)
      rw [HO2.out]
      exact ⟨rfl,HM.out.1.stops 5,HUPD.out _ (HF.out.trans (Far.of_drawn au8))⟩
     ·rw [if_neg c2] at hchars
      have q2:32≤C:=by omega
      by_cases c3:c=92
      ·rw [if_pos c3] at hchars
       have q3:(C==92)=true:=by subst c3;rw [hC];rfl
       cases he:escape (c :: m) with
       | bad r5 x5 =>
        rw [he] at hchars
        have HO2:Hid (O=.bad r5 x5):=Lib.hid hchars.symm
        have HE:=Lib.hid he
        have HACC:Hid (acc.length≤1000000):=Lib.hid (by have:=HM.out.2.2.2;omega)
        clear hchars hlen c2 hC he c3
        go_wp2_with fail
        go_quiet (fail)
        go_wp2_with fail
        go_quiet (fail)
        go_wp2_with (go_at_call 90;refine(escape_calls g w1.heap.size w1.heap.size s q v c m acc _ hs HACC.out HGL.out (HQ.out.drawn au8) (Bld.drawn HB.out au8) HM.out.1).mono ?_;rw [HE.out];rintro e w4 ⟨hst,hf4⟩;have HST:=Lib.hid hst;have HF4:=Lib.hid hf4;clear hf4;unfold Stops at hst;subst hst)
        rw [HO2.out]
        exact ⟨rfl,HST.out,HUPD.out _ ((HF.out.trans (Far.of_drawn au8)).trans HF4.out)⟩
       | ok r5 t5 =>
        rw [he] at hchars
        have HO2:Hid (chars k r5 (acc++t5)=O):=Lib.hid hchars
        have HEL:=Lib.hid (escape_len _ _ _ he)
        have HE:=Lib.hid he
        have HACC:Hid (acc.length≤1000000):=Lib.hid (by have:=HM.out.2.2.2;omega)
        clear hchars hlen c2 hC he c3
        go_wp2_with fail
        go_quiet (fail)
        go_wp2_with fail
        go_quiet (fail)
        go_wp2_with (go_at_call 90;refine(escape_calls g w1.heap.size w1.heap.size s q v c m acc _ hs HACC.out HGL.out (HQ.out.drawn au8) (Bld.drawn HB.out au8) HM.out.1).mono ?_;rw [HE.out];rintro e w4 ⟨rfl,⟨q4,ha4,hp4⟩,hb4,hf4⟩;have HA4:=Lib.hid ha4;have HP4:=Lib.hid hp4;have HB4:=Lib.hid hb4;have HF4:=Lib.hid hf4;clear ha4 hp4 hb4 hf4)
        go_roundg k
        case measure=>omega
        case rel =>
         refine ⟨q4,r5,acc++t5,Lib.hid ⟨HA4.out,HO2.out,?_,?_⟩,HP4,HB4,Lib.hid ((HF.out.trans (Far.of_drawn au8)).trans HF4.out)⟩
         ·have h1:=HEL.out.2
          have h2:=HM.out.2.2.1
          omega
         ·have h1:=HEL.out
          have h2:=HM.out.2.2.2
          have h3:=HA4.out.len
          have h4:=HM.out.1.len
          rw [List.length_append]
          omega
      ·rw [if_neg c3] at hchars
       have q3:(C==92)=false:=by
        rw [hC]
        simp only [beq_eq_false_iff_ne,ne_eq]
        exact fun e=>c3 (u8_lit (n:=92) au0 au0)
       have hex:(s.extract q s.size).data.toList=c :: m:=by rw [Lib.extract_to_end];exact HM.out.1.drop
       obtain ⟨N,hN⟩:∃ N:Nat,N=(Lib.decodeL (c :: m)).2:=⟨_,rfl⟩
       obtain ⟨s1,s2,s3,s4⟩:=sgn_facts c m
       clear c3
       by_cases c4:sgn (c :: m)=0
       ·rw [if_pos c4] at hchars
        have HO2:Hid (O=.bad (c :: m) 5):=Lib.hid hchars.symm
        have hc8:¬ c.toNat<128:=fun h=>by have:=(s1 h).1;omega
        have hN1:N=1:=hN.trans (s2 hc8 c4)
        subst hN1
        have q4:128≤C:=by omega
        have HN:=Lib.hid hN
        have HEX:=Lib.hid hex
        clear s1 s2 s3 s4 c4 hc8 hchars hlen c2 hC hN hex
        go_wp2_with fail
        go_quiet (fail)
        go_wp2_with fail
        go_quiet (fail)
        go_wp2_with fail
        have hGr:GlobU8 wr:=HG1.out.same (HF.out.block 0 au48 au0) (HF.out.block 1 au48 au0)
        have HGr:=Lib.hid hGr
        have p5:q≤s.size:=by omega
        have p6:decide (q≤s.size)=true:=decide_eq_true au0
        clear hGr
        go_region_held3 (fun w'=>w'.cell? ⟨g,0,none⟩=some (.string s)∧w'.cell? ⟨g,1,none⟩=some (.int .i64 (q:Int))) (first|exact ⟨k0,k1⟩|exact ⟨y0,y1⟩) ((go_at_call 75;refine(dec_calls _ _ _ (HGr.out.drawn au17) HEX.out au5).mono ?_;rw [← HN.out];rintro e w4 ⟨rfl,hb4⟩;have HB4:=Lib.hid hb4;clear hb4;have y0:w4.cell? ⟨g,0,none⟩=some (.string s):=(HB4.out.cell HQ.out.lt).trans k0;have y1:w4.cell? ⟨g,1,none⟩=some (.int .i64 (q:Int)):=(HB4.out.cell HQ.out.lt).trans k1))
        go_wp2_with (go_at_call 71;refine(fail_calls _ _ _).mono ?_;rintro e w5 ⟨rfl,rfl⟩)
        rw [HO2.out]
        exact ⟨rfl,HM.out.1.stops 5,HUPD.out _ ((HF.out.trans (Far.of_drawn au17)).trans (Far.of_below (HB4.out.mono HF.out.size)))⟩
       ·rw [if_neg c4] at hchars
        obtain ⟨n1,n2,n3⟩:=s3 c4
        have hsN:sgn (c :: m)=N:=n1.trans hN.symm
        rw [hsN] at hchars n2 n3
        have HO2:Hid (chars k ((c :: m).drop N) (acc++(c :: m).take N)=O):=Lib.hid hchars
        have ht:(N=1∧C<128)∨((((N:Nat):Int)==1)=false):=by
         by_cases h8:c.toNat<128
         ·left
          exact ⟨hN.trans (s1 h8).2,au0⟩
         ·right
          have:=s4 h8 c4
          rw [← hN] at this
          simp only [beq_eq_false_iff_ne,ne_eq]
          omega
        have hm2:N≤m.length+1:=by simpa using n2
        have hlm:=HM.out.1.len
        have p7:q+N≤s.size:=by simp at hlm;omega
        have p8:N<65537:=by omega
        have HAN:Hid (At s (q+N) ((c :: m).drop N)):=Lib.hid (HM.out.1.add N n2)
        have hGr:GlobU8 wr:=HG1.out.same (HF.out.block 0 au48 au0) (HF.out.block 1 au48 au0)
        have HGr:=Lib.hid hGr
        have htk:(s.extract q (q+N)).data.toList=(c :: m).take N:=by
         rw [Lib.extract_data,HM.out.1.drop,show q+N - q=N by omega]
        have HTK:=Lib.hid htk
        have HLN:Hid (acc.length+((c :: m).take N).length≤140737488355328):=Lib.hid (by
         have h1:=HM.out.2.2.2
         rw [List.length_take]
         omega)
        have p5:q≤s.size:=by omega
        have p6:decide (q≤s.size)=true:=decide_eq_true au0
        have HN:=Lib.hid hN
        have HEX:=Lib.hid hex
        have HN3:=Lib.hid n3
        have HM2:=Lib.hid hm2
        clear hGr s1 s2 s3 s4 c4 hchars hlen c2 hC hN hex n1 n2 n3 hsN htk hlm hm2
        have ht2:(((N:Int)==1)=true∧C<128)∨((((N:Nat):Int)==1)=false):=by
         rcases ht with ⟨t1,t2⟩|t1
         ·exact .inl ⟨by rw [t1];rfl,t2⟩
         ·exact .inr t1
        clear ht
        rcases ht2 with ⟨t1,t2⟩|t1
        all_goals
         go_wp2_with fail
         go_quiet (fail)
         go_wp2_with fail
         go_quiet (fail)
         go_wp2_with fail
         go_region_held3 (fun w'=>w'.cell? ⟨g,0,none⟩=some (.string s)∧w'.cell? ⟨g,1,none⟩=some (.int .i64 (q:Int))) (first|exact ⟨k0,k1⟩|exact ⟨y0,y1⟩) ((go_at_call 75;refine(dec_calls _ _ _ (HGr.out.drawn au17) HEX.out au5).mono ?_;rw [← HN.out];rintro e w4 ⟨rfl,hb4⟩;have HB4:=Lib.hid hb4;clear hb4;have y0:w4.cell? ⟨g,0,none⟩=some (.string s):=(HB4.out.cell HQ.out.lt).trans k0;have y1:w4.cell? ⟨g,1,none⟩=some (.int .i64 (q:Int)):=(HB4.out.cell HQ.out.lt).trans k1))
         have HB5:Hid (Bld w1.heap.size w1.heap.size acc w4):=Lib.hid (Bld.below (HB.out.drawn au17) HB4.out)
         have HSZ:Hid (w1.heap.size≤w4.heap.size):=Lib.hid HB5.out.lt
         have p9:(0:Int)≤(q:Int):=by omega
         have p10:(q:Int)≤(q:Int)+(N:Int):=by omega
         have p11:(q:Int)+(N:Int)≤(s.size:Int):=by omega
         have p12:((q:Int)+(N:Int)).toNat=q+N:=by omega
         have p13:IntKind.i64.wrap ((q:Int)+(N:Int))=(q:Int)+(N:Int):=by rw [IntKind.wrap_i64];omega
         go_wp2_with fail
         go_region_held3 (fun w'=>w'.cell? ⟨g,0,none⟩=some (.string s)∧w'.cell? ⟨g,1,none⟩=some (.int .i64 (q:Int))) (first|exact ⟨y0,y1⟩|exact ⟨u0,u1⟩) ((go_at_call 50;refine(writeStr_calls w1.heap.size w1.heap.size acc ((c :: m).take N) _ _ (HB5.out.drawn au17) HTK.out HLN.out (Bld.lt (HB5.out.drawn au17))).mono ?_;rintro e w6 ⟨⟨z,rfl⟩,hb6,hbel6⟩;have HB6:Hid (Bld w1.heap.size w1.heap.size (acc++(c :: m).take N) w6):=Lib.hid hb6;have HBEL:Hid (Below w1.heap.size w4 w6):=Lib.hid (Below.trans (Drawn0.below au17 |>.mono HSZ.out) hbel6);clear hb6 hbel6;have u0:w6.cell? ⟨g,0,none⟩=some (.string s):=(HBEL.out.cell HGL.out).trans y0;have u1:w6.cell? ⟨g,1,none⟩=some (.int .i64 (q:Int)):=(HBEL.out.cell HGL.out).trans y1))
         have HP6:Hid (PB w6 g s q v):=Lib.hid (PB.far (PB.below (HQ.out.drawn au17) HB4.out) HBEL.out HGL.out)
         obtain ⟨o1,o2⟩:=HP6.out.free
         clear o2
         go_wp2_with fail
         go_roundg k
         case measure=>omega
         case rel =>
          refine ⟨q+N,(c :: m).drop N,acc++(c :: m).take N,Lib.hid ⟨HAN.out,HO2.out,?_,?_⟩,Lib.hid ?_,Lib.hid (HB6.out.set HGL.out 1 _),Lib.hid (((HF.out.trans (Far.of_drawn au17)).trans (Far.of_below (HB4.out.mono HF.out.size))).trans ((Far.of_below HBEL.out).set 1 _))⟩
          ·have h1:=HM.out.2.2.1
           have h2:=HN3.out
           rw [List.length_drop]
           simp at h1 ⊢
           omega
          ·have h1:=HM.out.2.2.2
           have h2:=HN3.out
           rw [List.length_append,List.length_take]
           omega
          ·exact HP6.out.set (q+N)
 ·have hcm:isC 34 l=false:=by
   cases l with
   | nil=>rfl
   | cons c r=>simp [isC];exact fun e=>hq ⟨r,by rw [e]⟩
  have hO:text l=.bad l 5:=by
   cases l with
   | nil=>rfl
   | cons c r=>rw [text,if_neg (fun e=>hq ⟨r,by rw [e]⟩)]
  have HO:=Lib.hid hO
  have HC:=Lib.hid hcm
  clear hO hcm hq
  go_enter Tryd.func80,Tryd.ntmps80
  go_wp2_with (go_at_call 81;refine(take_no g s p v 34 l _ HP.out HA.out HC.out).mono ?_;rintro e w1 ⟨hst,hd1⟩;have HST:=Lib.hid hst;have HD1:=Lib.hid hd1;clear hd1;unfold Stops at hst;subst hst)
  rw [HO.out]
  exact ⟨rfl,HST.out,Upd.of_drawn HD1.out⟩
theorem F.app_assoc:∀ f g h:F,(f.app g).app h=f.app (g.app h)
 | .nil,_,_=>rfl
 | .leaf k d t r,g,h=>by simp only [F.app];rw [F.app_assoc r g h]
 | .node k d ks r,g,h=>by simp only [F.app];rw [F.app_assoc r g h]
theorem F.count_app:∀ f g:F,(f.app g).count=f.count+g.count
 | .nil,g=>by simp [F.app,F.count]
 | .leaf k d t r,g=>by simp only [F.app,F.count];rw [F.count_app r g];omega
 | .node k d ks r,g=>by simp only [F.app,F.count];rw [F.count_app r g];omega
theorem F.flat_app:∀ f g:F,(f.app g).flat=f.flat++g.flat
 | .nil,g=>by simp [F.app,F.flat]
 | .leaf k d t r,g=>by simp only [F.app,F.flat];rw [F.flat_app r g];rfl
 | .node k d ks r,g=>by simp only [F.app,F.flat];rw [F.flat_app r g];simp
theorem blanks_len:∀ l:Bs,(blanks l).length≤l.length
 | []=>Nat.le_refl _
 | c :: r=>by
  rw [blanks]
  split
  ·have:=blanks_len r
   simp
   omega
  ·exact Nat.le_refl _
theorem isC_len {c:UInt8} {l:Bs} (h:isC c l=true):(l.drop 1).length+1=l.length:=by
 cases l with
 | nil=>simp [isC] at h
 | cons d r=>simp
theorem sgn_le (l:Bs):sgn l≤l.length:=by
 cases l with
 | nil=>simp [sgn]
 | cons c r =>
  have h2:=Lib.decodeL_le (c :: r) au5
  unfold sgn
  simp only
  split
  ·simp
  ·split
   ·omega
   ·exact h2
theorem chars_len:∀(n:Nat) (l acc r t:Bs),chars n l acc=.ok r t→r.length<l.length
 | 0,l,acc,r,t,h=>by cases h
 | n+1,[],acc,r,t,h=>by cases h
 | n+1,c :: l,acc,r,t,h=>by
  simp only [chars] at h
  split at h
  ·injection h with h1 h2
   subst h1
   simp
  ·split at h
   ·cases h
   ·split at h
    ·cases he:escape (c :: l) with
     | bad r' e=>rw [he] at h;cases h
     | ok r' t' =>
      rw [he] at h
      have h1:=escape_len _ _ _ he
      have h2:=chars_len n _ _ _ _ h
      simp at h1
      simp
      omega
    ·split at h
     ·cases h
     ·have h2:=chars_len n _ _ _ _ h
      rw [List.length_drop] at h2
      omega
theorem text_len (l r t:Bs) (h:text l=.ok r t):r.length+1<l.length:=by
 cases l with
 | nil=>cases h
 | cons c l =>
  unfold text at h
  simp only at h
  split at h
  ·have:=chars_len _ _ _ _ _ h
   simp
   omega
  ·cases h
theorem word_len:∀(w l r:Bs) (u:Unit),word w l=.ok r u→r.length+w.length=l.length
 | [],l,r,u,h=>by
  injection h with h1 h2
  subst h1
  rfl
 | c :: w,[],r,u,h=>by cases h
 | c :: w,d :: l,r,u,h=>by
  simp only [word] at h
  split at h
  ·have:=word_len w l r u h
   simp
   omega
  ·cases h
theorem member_len (ob:Bool) (l r k:Bs) (h:member ob l=.ok r k):r.length≤l.length:=by
 unfold member at h
 split at h
 ·cases ht:text l with
  | bad r' e=>rw [ht] at h;cases h
  | ok l1 k1 =>
   rw [ht] at h
   simp only at h
   split at h
   ·injection h with h1 h2
    subst h1
    have g1:=text_len _ _ _ ht
    have g2:=blanks_len l1
    have g3:=blanks_len ((blanks l1).drop 1)
    rw [List.length_drop] at g3
    omega
   ·cases h
 ·injection h with h1 h2
  subst h1
  exact Nat.le_refl _
def item (v:Bs→Bs→Rs F) (ob:Bool) (l:Bs):Rs F:=match member ob l with | .bad r e=>.bad r e | .ok l1 k=>v k l1
theorem items_succ (v:Bs→Bs→Rs F) (ob:Bool) (close:UInt8) (n:Nat) (l:Bs):items v ob close (n+1) l=match item v ob l with
  | .bad r e=>.bad r e
  | .ok l2 t =>
    if isC close (blanks l2) then .ok ((blanks l2).drop 1) t
    else if isC 44 (blanks l2) then(items v ob close n (blanks ((blanks l2).drop 1))).map t.app
    else .bad (blanks l2) 5:=by
 unfold item
 rw [items]
 cases member ob l with
 | bad r e=>rfl
 | ok l1 k=>rfl
def Owes (v:Bs→Bs→Rs F):Prop:=∀ k l r f,v k l=.ok r f→f.count=1∧f.flat.length+r.length≤l.length
theorem item_owes {v:Bs→Bs→Rs F} (hv:Owes v) (ob:Bool) (l r:Bs) (f:F) (h:item v ob l=.ok r f):f.count=1∧f.flat.length+r.length≤l.length:=by
 unfold item at h
 cases hm:member ob l with
 | bad r' e=>rw [hm] at h;cases h
 | ok l1 k =>
  rw [hm] at h
  have h1:=member_len _ _ _ _ hm
  have h2:=hv _ _ _ _ h
  exact ⟨h2.1,au0⟩
theorem items_len {v:Bs→Bs→Rs F} (hv:Owes v) (ob:Bool) (close:UInt8):∀(n:Nat) (l r:Bs) (f:F),items v ob close n l=.ok r f→f.flat.length+r.length<l.length
 | 0,l,r,f,h=>by cases h
 | n+1,l,r,f,h=>by
  rw [items_succ] at h
  cases hi:item v ob l with
  | bad r' e=>rw [hi] at h;cases h
  | ok l2 t =>
   rw [hi] at h
   simp only at h
   have h1:=(item_owes hv _ _ _ _ hi).2
   have h2:=blanks_len l2
   split at h
   ·rename_i hc
    injection h with e1 e2
    subst e1;subst e2
    have:=isC_len hc
    omega
   ·split at h
    ·rename_i hc
     cases hr:items v ob close n (blanks ((blanks l2).drop 1)) with
     | bad r' e=>rw [hr] at h;cases h
     | ok r3 f3 =>
      rw [hr] at h
      injection h with e1 e2
      subst e1;subst e2
      have h3:=items_len hv ob close n _ _ _ hr
      have h4:=blanks_len ((blanks l2).drop 1)
      have:=isC_len hc
      rw [F.flat_app,List.length_append]
      omega
    ·cases h
def manyS (v:Bs→Bs→Rs F) (ob:Bool) (r:Bs):Rs F :=
 if isC (if ob then 125 else 93) (blanks r) then .ok ((blanks r).drop 1) .nil else items v ob (if ob then 125 else 93) (r.length+1) (blanks r)
theorem many_eq (v:Bs→Bs→Rs F) (ob:Bool) (key r:Bs):many v ob key r=(manyS v ob r).map fun f=>.node key (if ob then 7 else 6) f .nil:=by
 unfold many manyS
 generalize (if ob=true then(125:UInt8) else 93)=cl
 dsimp only
 by_cases hc:isC cl (blanks r)=true
 ·rw [if_pos hc,if_pos hc];rfl
 ·rw [if_neg hc,if_neg hc]
theorem manyS_len {v:Bs→Bs→Rs F} (hv:Owes v) (ob:Bool) (l r:Bs) (f:F) (h:manyS v ob l=.ok r f):f.flat.length+r.length≤l.length:=by
 unfold manyS at h
 have h2:=blanks_len l
 generalize (if ob=true then(125:UInt8) else 93)=cl at h
 by_cases hc:isC cl (blanks l)=true
 ·rw [if_pos hc] at h
  injection h with e1 e2
  subst e1;subst e2
  have:=isC_len hc
  simp [F.flat]
  omega
 ·rw [if_neg hc] at h
  have:=items_len hv _ _ _ _ _ _ h
  omega
theorem map_ok {α β:Type} {f:α→β} {x:Rs α} {r:Bs} {b:β} (h:x.map f=.ok r b):∃ a,x=.ok r a∧f a=b:=by
 cases x with
 | bad r e=>cases h
 | ok r' a =>
  injection h with h1 h2
  subst h1
  exact ⟨a,rfl,h2⟩
theorem value_owes:∀ d:Nat,Owes (value d)
 | 0=>by
  intro k l r f h
  cases l with
  | nil=>cases h
  | cons c l =>
   simp only [value] at h
   split at h<;>cases h
 | d+1=>by
  intro k l r f h
  cases l with
  | nil=>cases h
  | cons c l =>
   have ih:=value_owes d
   simp only [value] at h
   split at h
   ·cases h
   ·split at h
    ·rw [many_eq] at h
     obtain ⟨f2,h1,rfl⟩:=map_ok h
     have:=manyS_len ih _ _ _ _ h1
     refine ⟨rfl,?_⟩
     simp [F.flat]
     omega
    ·split at h
     ·rw [many_eq] at h
      obtain ⟨f2,h1,rfl⟩:=map_ok h
      have:=manyS_len ih _ _ _ _ h1
      refine ⟨rfl,?_⟩
      simp [F.flat]
      omega
     ·split at h
      ·obtain ⟨f2,h1,rfl⟩:=map_ok h
       have:=text_len _ _ _ h1
       refine ⟨rfl,?_⟩
       simp [F.flat] at this ⊢
       omega
      ·split at h
       ·obtain ⟨f2,h1,rfl⟩:=map_ok h
        have:=word_len _ _ _ _ h1
        refine ⟨rfl,?_⟩
        simp [F.flat] at this ⊢
        omega
       ·split at h
        ·obtain ⟨f2,h1,rfl⟩:=map_ok h
         have:=word_len _ _ _ _ h1
         refine ⟨rfl,?_⟩
         simp [F.flat] at this ⊢
         omega
        ·split at h
         ·obtain ⟨f2,h1,rfl⟩:=map_ok h
          have:=word_len _ _ _ _ h1
          refine ⟨rfl,?_⟩
          simp [F.flat] at this ⊢
          omega
         ·obtain ⟨f2,h1,rfl⟩:=map_ok h
          have:=number_len _ _ _ h1
          refine ⟨rfl,?_⟩
          simp [F.flat] at this ⊢
          omega
theorem GlobU8.ch {w w':World} {g base:Nat} {v v':Value} {xs:List Nd} (h:GlobU8 w) (hg:1<g) (hb:2≤base) (hr:Row w base v xs) (hc:Ch g v v' w w'):GlobU8 w':=by
 have key:∀ k,k<2→w'.heap[k]?=w.heap[k]?:=fun k hk=>hc.block k (by have:=h.L;omega) au0 (fun e=>by have:=hr.base_ k e.symm;omega)
 exact h.same (key 0 au0) (key 1 au0)
theorem GlobU8.upd {w w':World} {g:Nat} (h:GlobU8 w) (hg:1<g) (hc:Upd g w w'):GlobU8 w' :=
 h.same (hc.block 0 (by have:=h.L;omega) au0) (hc.block 1 (by have:=h.L;omega) au0)
structure Box (w:World) (b1 b2 g deep:Nat):Prop where
 A:w.heap[b1]?=some (.cells #[.pointer (some ⟨g,0,none⟩)] 115 (0,0))
 B:w.heap[b2]?=some (.cells #[.int .i64 (deep:Int)] 3 (0,0))
theorem Box.cells {w:World} {b1 b2 g deep:Nat} (h:Box w b1 b2 g deep):w.cell? ⟨b1,0,none⟩=some (.pointer (some ⟨g,0,none⟩))∧w.cell? ⟨b2,0,none⟩=some (.int .i64 (deep:Int)) :=
 ⟨(blk_cell h.A 0).trans rfl,(blk_cell h.B 0).trans rfl⟩
theorem ne_par {w:World} {k g p t:Nat} {s:ByteArray} {v:Value} {cells:Array Value} (hP:PB w g s p v) (hb:w.heap[k]?=some (.cells cells t (0,0))) (ht:t≠117):k≠g:=by
 rintro rfl
 unfold PB at hP
 rw [hP] at hb
 injection hb with hb
 injection hb with _ hb
 exact ht hb.symm
theorem Box.ch {w w':World} {b1 b2 g base deep p:Nat} {s:ByteArray} {v v':Value} {xs:List Nd} (h:Box w b1 b2 g deep) (hP:PS w g base s p v xs) (hc:Ch g v v' w w'):Box w' b1 b2 g deep :=
 ⟨hc.keep hP.R h.A au1 (ne_par hP.P h.A au1),hc.keep hP.R h.B au1 (ne_par hP.P h.B au1)⟩
def OneOk (f b1 b2 g base:Nat) (s:ByteArray) (deep:Nat) (it:Bs→Rs F):Prop :=
 ∀(p:Nat) (v:Value) (xs:List Nd) (l:Bs) (w:World),GlobU8 w→PS w g base s p v xs→At s p l→xs.length≤p→Box w b1 b2 g deep →
  Calls Tryd.prog f #[.pointer (some ⟨b1,0,none⟩),.pointer (some ⟨b2,0,none⟩)] w (PostN s g base v (fun t:F=>xs++t.flat) w (it l))
theorem F.count_le:∀ f:F,f.count≤f.flat.length
 | .nil=>Nat.le_refl _
 | .leaf k d t r=>by have:=F.count_le r;simp [F.count,F.flat];omega
 | .node k d ks r=>by have:=F.count_le r;simp [F.count,F.flat];omega
theorem at_mid {xs:List Nd} {h:Nd} {ys:List Nd}:((xs++[h])++ys).getD xs.length zN=h∧∀ h',((xs++[h])++ys).set xs.length h'=(xs++[h'])++ys:=by
 constructor
 ·rw [List.getD_eq_getElem?_getD,List.append_assoc,List.getElem?_append_right (Nat.le_refl _)]
  simp
 ·intro h'
  rw [List.append_assoc,List.set_append_right _ _ (Nat.le_refl _)]
  simp
theorem byte_q {g:Nat} {s:ByteArray} {p:Nat} {v:Value} {l:Bs} {w w0:World} {n:Nat} (hw:w=w0.drewN n) (hP:PB w g s p v) (ha:At s p l) :
  Calls Tryd.prog 77 #[.pointer (some ⟨g,0,none⟩)] w fun e w'=>e=.returned (.int .u8 (hd l))∧∃ m,w'=w0.drewN m:=by
 subst hw
 exact(byte_calls g s p v l _ hP ha).mono fun e w' h=>⟨h.1,by obtain ⟨m,hm⟩:=h.2.out;exact ⟨n+m,by rw [hm,World.drewN_drewN]⟩⟩
set_option maxHeartbeats 4000000 in
set_option maxRecDepth 100000 in
theorem many_calls (fn b1 b2 g base:Nat) (s:ByteArray) (deep:Nat) (ob:Bool) (close:UInt8) (vv:Bs→Bs→Rs F) (hcl:close=if ob then 125 else 93) (hv:Owes vv) (hone:OneOk fn b1 b2 g base s deep (item vv ob))
  (eg:∀ args w,(callFunc fn args).run Tryd.prog w=.ok (.enter fn args) w)
  (p:Nat) (v:Value) (xs:List Nd) (h:Nd) (c:UInt8) (r:Bs) (w:World) (hs:s.size≤65536) (hGU8:GlobU8 w) (hg2:1<g) (hb2:2≤base) (hP:PS w g base s p v (xs++[h])) (ha:At s p (c :: r)) (hn:xs.length≤p) (h0:h.f2=0) (hbox:Box w b1 b2 g deep) :
  Calls Tryd.prog 78 #[.pointer (some ⟨g,0,none⟩),.int .i64 (xs.length:Int),.int .u8 (close.toNat:Int),.func (.func fn) #[] #[.pointer (some ⟨b1,0,none⟩),.pointer (some ⟨b2,0,none⟩)]] w
   (PostN s g base v (fun f:F=>(xs++[{ h with f2:=(f.count:Nat) }])++f.flat) w (manyS vv ob r)):=by
 have HP:=Lib.hid hP
 have HA:=Lib.hid ha
 have HG:=Lib.hid hGU8
 have HONE:=Lib.hid hone
 have HBOX:=Lib.hid hbox
 have HN:=Lib.hid hn
 have H0:=Lib.hid h0
 have hlt:=ha.lt
 have p3:p<65536:=by omega
 obtain ⟨k0,k1,k2⟩:=hP.P.cells
 obtain ⟨f1,f2⟩:=hP.P.free
 have hpos:0<close.toNat:=by rw [hcl];cases ob<;>decide
 generalize hO:manyS vv ob r=O
 have HO:Hid ((if isC close (blanks r) then .ok ((blanks r).drop 1) .nil else items vv ob close (r.length+1) (blanks r))=O):=Lib.hid (by rw [← hO,manyS,hcl])
 clear hP ha hGU8 hone hbox hn h0 k0 k2 f2 hO hcl
 go_enter Tryd.func78,Tryd.ntmps78
 generalize hm:blanks r=m at HO
 have HM:=Lib.hid hm
 clear hm
 have hcd:=hd_is close hpos m
 go_upto_region 2 with(go_at_call 69;refine(blanks_calls g s (p+1) v r _ hs (HP.out.P.set (p+1)) HA.out.next).mono ?_;rintro e w1 ⟨rfl,⟨q1,ha1,hp1⟩,hu1⟩;rw [HM.out] at ha1;have HA1:=Lib.hid ha1;have HP1:=Lib.hid hp1;have HU1:=Lib.hid hu1;clear ha1 hp1 hu1)
 have HUW:Hid (Upd g w w1):=Lib.hid (((Upd.refl g w).set 1 _).trans HU1.out)
 have HPS:Hid (PS w1 g base s q1 v (xs++[h])):=Lib.hid (HP.out.upd HP1.out HUW.out)
 have HQP:Hid (p+1≤q1):=Lib.hid (by
  have h1:=HA1.out.len
  have h2:=HA.out.len
  have h3:=blanks_len r
  rw [HM.out] at h3
  simp at h2
  omega)
 clear k1 f1
 obtain ⟨k0,k1,k2⟩:=HP1.out.cells
 obtain ⟨f1,f2⟩:=HP1.out.free
 clear k2 f2
 generalize hy:hd m=y at hcd
 have HY:=Lib.hid hy
 clear hy
 cases hc:isC close m with
 | true =>
  have hy1:=hcd.1 hc
  have HO2:Hid (O=.ok (m.drop 1) .nil):=Lib.hid (by rw [← HO.out,if_pos hc])
  have HS:=Lib.hid (HA1.out.skip hc)
  have hlt1:q1<s.size:=by have h1:=HA1.out;rw [isC_cons hc] at h1;exact h1.lt
  have d1:decide (q1<s.size)=true:=decide_eq_true hlt1
  clear hcd hc HO
  subst hy1
  go_quiet ((go_at_call 77;refine(byte_q rfl (HP1.out.drawn au8) HA1.out).mono ?_;rw [HY.out];exact fun _ _ hh=>hh))
  go_wp2_with fail
  go_end0
  rw [HO2.out]
  have e0:({ h with f2:=((F.nil.count:Nat):Int) }:Nd)=h:=by
   have:=H0.out
   cases h
   simp only at this
   subst this
   rfl
  refine ⟨rfl,q1+1,v,HS.out,?_,(Ch.of_upd HUW.out).trans ((Ch.of_drawn au8).setPar _ _)⟩
  simp only []
  rw [e0]
  simp only [F.flat,List.append_nil]
  exact(HPS.out.drawn au8).set (q1+1)
 | false =>
  have hy1:(y==(close.toNat:Int))=false:=hcd.2 hc
  have HO2:Hid (items vv ob close (r.length+1) m=O):=Lib.hid (by rw [← HO.out,if_neg (by rw [hc];simp)])
  clear hcd hc HO
  go_quiet ((go_at_call 77;refine(byte_q rfl (HP1.out.drawn au8) HA1.out).mono ?_;rw [HY.out];exact fun _ _ hh=>hh))
  go_wp2_with fail
  clear hy1 k0 k1 f1
  go_loopg [] (r.length+1) (fun k wr=>∃(q:Nat) (m2:Bs) (acc:F) (u:Value),Hid (At s q m2∧(items vv ob close k m2).map acc.app=O∧m2.length<k∧xs.length+1+acc.flat.length≤q)∧Hid (PS wr g base s q u ((xs++[{ h with f2:=(acc.count:Nat) }])++acc.flat))∧Hid (Ch g v u w wr)∧Hid (Box wr b1 b2 g deep)∧Hid (GlobU8 wr))
  case atStart =>
   have e0:({ h with f2:=((F.nil.count:Nat):Int) }:Nd)=h:=by
    have:=H0.out
    cases h
    simp only at this
    subst this
    rfl
   have hch:Ch g v v w (w1.drewN nq):=(Ch.of_upd HUW.out).trans (Ch.of_drawn au8)
   refine ⟨q1,m,F.nil,v,Lib.hid ⟨HA1.out,?_,?_,?_⟩,Lib.hid ?_,Lib.hid hch,Lib.hid (HBOX.out.ch HP.out hch),Lib.hid (HG.out.ch hg2 hb2 HP.out.R hch)⟩
   ·rw [HO2.out]
    cases O<;>rfl
   ·have:=blanks_len r
    rw [HM.out] at this
    omega
   ·have:=HQP.out
    have:=HN.out
    simp [F.flat]
    omega
   ·rw [e0]
    simp only [F.flat,List.append_nil]
    exact HPS.out.drawn au8
  case round =>
   obtain ⟨q,m2,acc,u,HI,HS,HC,HB,HGR⟩:=hrel
   have hlen:=HI.out.2.2.1
   obtain ⟨k,rfl⟩:∃ k,gk=k+1:=⟨gk - 1,au0⟩
   have hch:=HI.out.2.1
   rw [items_succ] at hch
   have hnn:((xs++[{ h with f2:=((acc.count:Nat):Int) }])++acc.flat).length≤q:=by
    have:=HI.out.2.2.2
    simp
    omega
   have HNN:=Lib.hid hnn
   clear hnn
   cases hi:item vv ob m2 with
   | bad r5 x5 =>
    rw [hi] at hch
    have HO3:Hid (O=.bad r5 x5):=Lib.hid hch.symm
    have HIT:=Lib.hid hi
    clear hch hi hlen
    go_wp2_with (go_at_fn fn;refine(HONE.out q u _ m2 _ HGR.out HS.out HI.out.1 HNN.out HB.out).mono ?_;rw [HIT.out];rintro e w3 ⟨hst,u3,hc3⟩;have HST:=Lib.hid hst;have HC3:=Lib.hid hc3;clear hc3;unfold Stops at hst;subst hst)
    rw [HO3.out]
    exact ⟨rfl,HST.out,u3,HC.out.trans HC3.out⟩
   | ok l2 t =>
    rw [hi] at hch
    simp only at hch
    obtain ⟨ht1,ht2⟩:=item_owes hv _ _ _ _ hi
    have HIT:=Lib.hid hi
    have HT1:=Lib.hid ht1
    have HT2:=Lib.hid ht2
    have hcb:acc.count<65536:=by
     have h1:=acc.count_le
     have h2:=HI.out.2.2.2
     have h3:=HI.out.1.le
     omega
    generalize hm5:blanks l2=m5 at hch
    have HM5:=Lib.hid hm5
    have HCH:=Lib.hid hch
    clear hch hi hlen ht1 ht2 hm5
    have hcd:=hd_is close hpos m5
    generalize hz:hd m5=z at hcd
    have HZ:=Lib.hid hz
    clear hz
    go_upto_region 6 with(go_at_fn fn;refine(HONE.out q u _ m2 _ HGR.out HS.out HI.out.1 HNN.out HB.out).mono ?_;rw [HIT.out];rintro e w3 ⟨rfl,q3,u3,ha3,hp3,hc3⟩;have HA3:=Lib.hid ha3;have HC3:=Lib.hid hc3;(simp only [List.append_assoc] at hp3);have hi3:xs.length<(xs++([{ h with f2:=((acc.count:Nat):Int) }]++(acc.flat++t.flat))).length:=au5;obtain ⟨b,c4,rfl,hc4,hb4,hlt4,hx4,hf4⟩:=hp3.R.at_ hi3;have HP3:=Lib.hid hp3;obtain ⟨y0,y1,y2⟩:=hp3.P.cells;have hi4:(xs.length:Int)<((xs++([{ h with f2:=((acc.count:Nat):Int) }]++(acc.flat++t.flat))).length:Int):=au0;have hx2:=hx4.2.2.1;(rw [← List.append_assoc,at_mid.1] at hx2);have hf2:=hf4 2;clear ha3 hp3 hc3 hi3 hc4 hb4 hlt4 hx4 hf4 y0 y1)
    have hi3:xs.length<(xs++([{ h with f2:=((acc.count:Nat):Int) }]++(acc.flat++t.flat))).length:=by simp
    have hgd:(xs++([{ h with f2:=((acc.count:Nat):Int) }]++(acc.flat++t.flat))).getD xs.length zN={ h with f2:=((acc.count:Nat):Int) }:=by
     rw [← List.append_assoc]
     exact at_mid.1
    have hps4:=HP3.out.put hi3 2 au0 (.int .i64 ((acc.count:Int)+1)) { h with f2:=(acc.count:Int)+1 } (by rw [hgd];rfl)
    have hset:(xs++([{ h with f2:=((acc.count:Nat):Int) }]++(acc.flat++t.flat))).set xs.length { h with f2:=(acc.count:Int)+1 }=(xs++[{ h with f2:=(((acc.app t).count:Nat):Int) }])++(acc.app t).flat:=by
     rw [← List.append_assoc,at_mid.2,F.flat_app,F.count_app,HT1.out]
     rfl
    rw [hset] at hps4
    have HP4:=Lib.hid hps4
    have HC4:=Lib.hid (((HC.out.trans HC3.out).setRow (xs.length*5+2) (.int .i64 ((acc.count:Int)+1))).len_ ((xs++[{ h with f2:=(((acc.app t).count:Nat):Int) }])++(acc.app t).flat).length)
    clear hps4 hset hgd hi3 hi4 hx2 hf2 y2 hcb
    generalize hu4:Value.slice (some ⟨b,0,none⟩) ((xs++[{ h with f2:=(((acc.app t).count:Nat):Int) }])++(acc.app t).flat).length c4=u4 at HP4 HC4
    have HU4:=Lib.hid hu4
    clear hu4
    generalize hw4:w3.setCell ⟨b,xs.length*5+2,none⟩ (.int .i64 ((acc.count:Int)+1))=w4 at HP4 HC4
    have HW4:=Lib.hid hw4
    clear hw4
    go_upto_region 7 with(go_at_call 69;refine(blanks_calls g s q3 u4 l2 _ hs HP4.out.P HA3.out).mono ?_;rintro e w5 ⟨rfl,⟨q5,ha5,hp5⟩,hu5⟩;rw [HM5.out] at ha5;have HA5:=Lib.hid ha5;have HPB:=Lib.hid hp5;have HU5:=Lib.hid hu5;clear ha5 hp5 hu5)
    have HP5:Hid (PS w5 g base s q5 u4 ((xs++[{ h with f2:=(((acc.app t).count:Nat):Int) }])++(acc.app t).flat)):=Lib.hid (HP4.out.upd HPB.out HU5.out)
    have HC5:Hid (Ch g v u4 w w5):=Lib.hid (HC4.out.trans (Ch.of_upd HU5.out))
    obtain ⟨y0,y1,y2⟩:=HPB.out.cells
    obtain ⟨f1,f2⟩:=HPB.out.free
    clear y2 f2
    cases hc:isC close m5 with
    | true =>
     have hz1:=hcd.1 hc
     have HO3:Hid (O=.ok (m5.drop 1) (acc.app t)):=Lib.hid (by
      have:=HCH.out
      rw [if_pos hc] at this
      exact this.symm)
     have HS5:=Lib.hid (HA5.out.skip hc)
     have hlt1:q5<s.size:=by have h1:=HA5.out;rw [isC_cons hc] at h1;exact h1.lt
     have d1:decide (q5<s.size)=true:=decide_eq_true hlt1
     clear hcd hc
     subst hz1
     go_quiet ((go_at_call 77;refine(byte_q rfl (HPB.out.drawn au8) HA5.out).mono ?_;rw [HZ.out];exact fun _ _ hh=>hh))
     go_wp2_with fail
     go_end0
     rw [HO3.out]
     exact ⟨rfl,q5+1,u4,HS5.out,(HP5.out.drawn au8).set (q5+1),(HC5.out.trans (Ch.of_drawn au8)).setPar _ _⟩
    | false =>
     have hz1:(z==(close.toNat:Int))=false:=hcd.2 hc
     have HCH2:Hid ((if isC 44 m5 then(items vv ob close k (blanks (m5.drop 1))).map t.app else .bad m5 5).map acc.app=O):=Lib.hid (by
      have:=HCH.out
      rw [if_neg (by rw [hc];simp)] at this
      exact this)
     clear hcd hc HCH
     cases hk:isC 44 m5 with
     | true =>
      have HO3:Hid ((items vv ob close k (blanks (m5.drop 1))).map (acc.app t).app=O):=Lib.hid (by
       have:=HCH2.out
       rw [if_pos hk] at this
       rw [← this]
       cases items vv ob close k (blanks (m5.drop 1)) with
       | bad r e=>rfl
       | ok r f=>simp only [Rs.map];rw [F.app_assoc])
      have hm5:=isC_cons hk
      have HA6:Hid (At s q5 (44 :: m5.drop 1)):=Lib.hid (by have h1:=HA5.out;rw [hm5] at h1;exact h1)
      have HLN:=Lib.hid (isC_len hk)
      clear hk hm5 HCH2
      go_quiet ((go_at_call 77;refine(byte_q rfl (HPB.out.drawn au8) HA5.out).mono ?_;rw [HZ.out];exact fun _ _ hh=>hh))
      go_wp2_with (first
       | (go_at_call 81;refine(take_yes g s q5 u4 44 (m5.drop 1) _ hs (HPB.out.drawn au8) HA6.out).mono ?_;rintro e w6 ⟨rfl,hp6,hu6⟩;have HP6:=Lib.hid hp6;have HU6:=Lib.hid hu6;clear hp6 hu6)
       | (go_at_call 69;refine(blanks_calls g s (q5+1) u4 (m5.drop 1) _ hs HP6.out HA6.out.next).mono ?_;rintro e w7 ⟨rfl,⟨q7,ha7,hp7⟩,hu7⟩;have HA7:=Lib.hid ha7;have HP7:=Lib.hid hp7;have HU7:=Lib.hid hu7;clear ha7 hp7 hu7))
      have HUU:Hid (Upd g w5 w7):=Lib.hid (((Upd.of_drawn au8).trans HU6.out).trans HU7.out)
      go_roundg k
      case measure=>omega
      case rel =>
       have hch7:Ch g v u4 w w7:=HC5.out.trans (Ch.of_upd HUU.out)
       refine ⟨q7,_,acc.app t,u4,Lib.hid ⟨HA7.out,HO3.out,?_,?_⟩,Lib.hid (HP5.out.upd HP7.out HUU.out),Lib.hid hch7,Lib.hid (HBOX.out.ch HP.out hch7),Lib.hid (HG.out.ch hg2 hb2 HP.out.R hch7)⟩
       ·have h1:=HI.out.2.2.1
        have h2:=blanks_len l2
        rw [HM5.out] at h2
        have h3:=HLN.out
        have h4:=blanks_len (m5.drop 1)
        have h5:=HT2.out
        omega
       ·have h1:=HI.out.2.2.2
        have h2:=blanks_len l2
        rw [HM5.out] at h2
        have h3:=HLN.out
        have h4:=blanks_len (m5.drop 1)
        have h5:=HT2.out
        have h6:=HA7.out.len
        have h7:=HI.out.1.len
        rw [F.flat_app,List.length_append]
        omega
     | false =>
      have HO3:Hid (O=.bad m5 5):=Lib.hid (by
       have:=HCH2.out
       rw [if_neg (by rw [hk];simp)] at this
       exact this.symm)
      have HK:=Lib.hid hk
      clear hk HCH2
      go_quiet ((go_at_call 77;refine(byte_q rfl (HPB.out.drawn au8) HA5.out).mono ?_;rw [HZ.out];exact fun _ _ hh=>hh))
      go_wp2_with (go_at_call 81;refine(take_no g s q5 u4 44 m5 _ (HPB.out.drawn au8) HA5.out HK.out).mono ?_;rintro e w6 ⟨hst,hd6⟩;have HST:=Lib.hid hst;have HD6:=Lib.hid hd6;clear hd6;unfold Stops at hst;subst hst)
      rw [HO3.out]
      exact ⟨rfl,HST.out,u4,(HC5.out.trans (Ch.of_drawn au8)).trans (Ch.of_drawn HD6.out)⟩
def ValOk (d deep:Nat):Prop :=
 ∀(g base:Nat) (s:ByteArray) (p:Nat) (v:Value) (xs:List Nd) (key l:Bs) (w:World),s.size≤65536→GlobU8 w→1<g→2≤base→base≤g→PS w g base s p v xs→At s p l→xs.length≤p →
  Calls Tryd.prog 70 #[.pointer (some ⟨g,0,none⟩),.string (str key),.int .i64 (deep:Int)] w (PostN s g base v (fun f:F=>xs++f.flat) w (value d key l))
set_option maxHeartbeats 2000000 in
set_option maxRecDepth 100000 in
theorem one2_ok (d deep:Nat) (hd:deep<32) (ih:ValOk d (deep+1)) (b1 b2 g base:Nat) (s:ByteArray) (hs:s.size≤65536) (hg2:1<g) (hb2:2≤base) (hbg:base≤g) :
  OneOk 82 b1 b2 g base s deep (item (value d) false):=by
 intro p v xs l w hG hP hA hN hB
 have HG:=Lib.hid hG
 have HP:=Lib.hid hP
 have HA:=Lib.hid hA
 have HN:=Lib.hid hN
 have HB:=Lib.hid hB
 obtain ⟨x1,x2⟩:=hB.cells
 have hit:item (value d) false l=value d [] l:=rfl
 rw [hit]
 clear hG hP hA hN hB hit
 generalize hO:value d [] l=O
 have HO:=Lib.hid hO
 clear hO
 go_enter Tryd.func82,Tryd.ntmps82
 cases O with
 | ok r f =>
  go_wp2_with (go_at_call 70;refine(ih g base s p v xs [] l _ hs HG.out hg2 hb2 hbg HP.out HA.out HN.out).mono ?_;rw [HO.out];rintro e w1 ⟨rfl,q1,v1,ha1,hp1,hc1⟩;have HA1:=Lib.hid ha1;have HP1:=Lib.hid hp1;have HC1:=Lib.hid hc1;clear ha1 hp1 hc1)
  go_end0
  exact ⟨rfl,q1,v1,HA1.out,HP1.out,HC1.out⟩
 | bad r x =>
  go_wp2_with (go_at_call 70;refine(ih g base s p v xs [] l _ hs HG.out hg2 hb2 hbg HP.out HA.out HN.out).mono ?_;rw [HO.out];rintro e w1 ⟨hst,v1,hc1⟩;have HST:=Lib.hid hst;have HC1:=Lib.hid hc1;clear hc1;unfold Stops at hst;subst hst)
  exact ⟨rfl,HST.out,v1,HC1.out⟩
set_option maxHeartbeats 4000000 in
set_option maxRecDepth 100000 in
theorem one1_ok (d deep:Nat) (hd:deep<32) (ih:ValOk d (deep+1)) (b1 b2 g base:Nat) (s:ByteArray) (hs:s.size≤65536) (hg2:1<g) (hb2:2≤base) (hbg:base≤g) :
  OneOk 79 b1 b2 g base s deep (item (value d) true):=by
 intro p v xs l w hG hP hA hN hB
 have HG:=Lib.hid hG
 have HP:=Lib.hid hP
 have HA:=Lib.hid hA
 have HN:=Lib.hid hN
 have HB:=Lib.hid hB
 obtain ⟨x1,x2⟩:=hB.cells
 clear x2
 have hit:item (value d) true l=match text l with
   | .bad r e=>.bad r e
   | .ok l1 k=>if isC 58 (blanks l1) then value d k (blanks ((blanks l1).drop 1)) else .bad (blanks l1) 5:=by
  simp only [item,member,if_true]
  cases text l with
  | bad r e=>rfl
  | ok l1 k =>
   dsimp only
   by_cases h58:isC 58 (blanks l1)=true
   ·rw [if_pos h58,if_pos h58]
   ·rw [if_neg h58,if_neg h58]
 generalize hO:item (value d) true l=O at hit
 clear hG hP hA hN hB hO
 go_enter Tryd.func79,Tryd.ntmps79
 cases ht:text l with
 | bad r x =>
  rw [ht] at hit
  have HO:Hid (O=.bad r x):=Lib.hid hit
  have HT:=Lib.hid ht
  clear ht hit
  go_wp2_with (go_at_call 80;refine(text_calls g s p v l _ hs HG.out hg2 HP.out.P HA.out).mono ?_;rw [HT.out];rintro e w1 ⟨hst,hu1⟩;have HST:=Lib.hid hst;have HU1:=Lib.hid hu1;clear hu1;unfold Stops at hst;subst hst)
  rw [HO.out]
  exact ⟨rfl,HST.out,v,Ch.of_upd HU1.out⟩
 | ok l1 k =>
  rw [ht] at hit
  simp only at hit
  have HT:=Lib.hid ht
  generalize hm:blanks l1=m at hit
  have HM:=Lib.hid hm
  have HIT:=Lib.hid hit
  clear ht hm hit
  go_upto_region 2 with(first
   | (go_at_call 80;refine(text_calls g s p v l _ hs HG.out hg2 HP.out.P HA.out).mono ?_;rw [HT.out];rintro e w1 ⟨rfl,⟨q1,ha1,hp1⟩,hu1⟩;have HA1:=Lib.hid ha1;have HP1:=Lib.hid hp1;have HU1:=Lib.hid hu1;clear ha1 hp1 hu1;have HB1:=Lib.hid (HB.out.ch HP.out (Ch.of_upd HU1.out));obtain ⟨y1,y2⟩:=HB1.out.cells;clear y2)
   | (go_at_call 69;refine(blanks_calls g s q1 v l1 _ hs HP1.out HA1.out).mono ?_;rw [HM.out];rintro e w2 ⟨rfl,⟨q2,ha2,hp2⟩,hu2⟩;have HA2:=Lib.hid ha2;have HP2:=Lib.hid hp2;have HU2:=Lib.hid (HU1.out.trans hu2);clear ha2 hp2 hu2;have HB2:=Lib.hid (HB.out.ch HP.out (Ch.of_upd HU2.out));obtain ⟨z1,z2⟩:=HB2.out.cells;clear z2))
  cases hc:isC 58 m with
  | false =>
   have HO:Hid (O=.bad m 5):=Lib.hid (by have:=HIT.out;rw [hc] at this;simpa using this)
   have HC:=Lib.hid hc
   clear hc
   go_wp2_with (go_at_call 81;refine(take_no g s q2 v 58 m _ HP2.out HA2.out HC.out).mono ?_;rintro e w3 ⟨hst,hd3⟩;have HST:=Lib.hid hst;have HD3:=Lib.hid hd3;clear hd3;unfold Stops at hst;subst hst)
   rw [HO.out]
   exact ⟨rfl,HST.out,v,Ch.of_upd (HU2.out.trans (Upd.of_drawn HD3.out))⟩
  | true =>
   have HO:Hid (value d k (blanks (m.drop 1))=O):=Lib.hid (by have:=HIT.out;rw [hc] at this;simpa using this.symm)
   have HA3:Hid (At s q2 (58 :: m.drop 1)):=Lib.hid (by have h1:=HA2.out;rw [isC_cons hc] at h1;exact h1)
   have HLN:=Lib.hid (isC_len hc)
   have hdd:(deep:Int)+1<100:=by omega
   clear hc HIT
   go_upto_region 4 with(first
    | (go_at_call 81;refine(take_yes g s q2 v 58 (m.drop 1) _ hs HP2.out HA3.out).mono ?_;rintro e w3 ⟨rfl,hp3,hu3⟩;have HP3:=Lib.hid hp3;have HU3:=Lib.hid (HU2.out.trans hu3);clear hp3 hu3;have HB3:=Lib.hid (HB.out.ch HP.out (Ch.of_upd HU3.out));obtain ⟨u1,u2⟩:=HB3.out.cells;clear u2)
    | (go_at_call 69;refine(blanks_calls g s (q2+1) v (m.drop 1) _ hs HP3.out HA3.out.next).mono ?_;rintro e w4 ⟨rfl,⟨q4,ha4,hp4⟩,hu4⟩;have HA4:=Lib.hid ha4;have HP4:=Lib.hid hp4;have HU4:=Lib.hid (HU3.out.trans hu4);clear ha4 hp4 hu4))
   have HB4:=Lib.hid (HB.out.ch HP.out (Ch.of_upd HU4.out))
   obtain ⟨o1,o2⟩:=HB4.out.cells
   have HPS:Hid (PS w4 g base s q4 v xs):=Lib.hid (HP.out.upd HP4.out HU4.out)
   have HG4:Hid (GlobU8 w4):=Lib.hid (HG.out.upd hg2 HU4.out)
   have HN4:Hid (xs.length≤q4):=Lib.hid (by
    have h1:=text_len _ _ _ HT.out
    have h2:=blanks_len l1
    rw [HM.out] at h2
    have h3:=HLN.out
    have h4:=blanks_len (m.drop 1)
    have h5:=HA4.out.len
    have h6:=HA.out.len
    have h7:=HN.out
    omega)
   cases O with
   | ok r f =>
    go_wp2_with (go_at_call 70;refine(ih g base s q4 v xs k (blanks (m.drop 1)) _ hs HG4.out hg2 hb2 hbg HPS.out HA4.out HN4.out).mono ?_;rw [HO.out];rintro e w5 ⟨rfl,q5,v5,ha5,hp5,hc5⟩;have HA5:=Lib.hid ha5;have HP5:=Lib.hid hp5;have HC5:=Lib.hid hc5;clear ha5 hp5 hc5)
    go_end0
    exact ⟨rfl,q5,v5,HA5.out,HP5.out,(Ch.of_upd HU4.out).trans HC5.out⟩
   | bad r x =>
    go_wp2_with (go_at_call 70;refine(ih g base s q4 v xs k (blanks (m.drop 1)) _ hs HG4.out hg2 hb2 hbg HPS.out HA4.out HN4.out).mono ?_;rw [HO.out];rintro e w5 ⟨hst,v5,hc5⟩;have HST:=Lib.hid hst;have HC5:=Lib.hid hc5;clear hc5;unfold Stops at hst;subst hst)
    exact ⟨rfl,HST.out,v5,(Ch.of_upd HU4.out).trans HC5.out⟩
theorem Ch.base_ {g base:Nat} {v v':Value} {w w':World} (h:Ch g v v' w w') {p:Nat} {s:ByteArray} {xs:List Nd} (hP:PS w g base s p v xs) (hg:base≤g):Below base w w' :=
 ⟨h.os,h.tape,h.output,h.size,fun k hk=>by
  rcases Nat.lt_or_ge k w.heap.size with h1|h1
  ·exact h.block k h1 au0 (fun e=>by have:=hP.R.base_ k e.symm;omega)
  ·have:=hP.P.lt
   omega⟩
theorem idx_begins (c:UInt8):decide (Lib.indexByte [123,91,34,45,48,49,50,51,52,53,54,55,56,57,116,102,110] c<0)=!begins c:=by
 have:=all_bytes (p:=fun c=>decide (Lib.indexByte [123,91,34,45,48,49,50,51,52,53,54,55,56,57,116,102,110] c<0)==!begins c) au11 c
 simpa using this
theorem PS.pushed {wq w3:World} {g base p:Nat} {s:ByteArray} {v v3:Value} {xs ys:List Nd} (h:PS wq g base s p v xs) (hr3:Kd.R kN 24 w3 base (fun _=>True) v3 ys) (hg3:wq.grownBy w3 v.ownBlock)
  (hat3:v3.ownBlock=v.ownBlock∨∃ b,v3.ownBlock=some b∧wq.heap.size≤b):PS (w3.setCell ⟨g,2,none⟩ v3) g base s p v3 ys∧Ch g v v3 wq (w3.setCell ⟨g,2,none⟩ v3)∧PB w3 g s p v:=by
 have hP3:PB w3 g s p v:=(hg3.block g h.P.lt (h.R.ne h.P au1)).trans h.P
 refine ⟨⟨hP3.set2 v3,?_⟩,?_,hP3⟩
 ·refine(Row.mk_ hr3).move (fun k hk=>Below.heap_setCell w3 ⟨g,2,none⟩ v3 k ?_)
  intro e
  exact(Row.mk_ hr3).ne hP3 au1 (by simp only at e;rw [← e];exact hk.symm)
 ·refine ⟨hg3.os,hg3.tape,hg3.output,by simpa [World.setCell] using hg3.size,fun k hk hg hv=>?_,fun k hk=>?_⟩
  ·exact(Below.heap_setCell w3 ⟨g,2,none⟩ v3 k hg).trans (hg3.block k hk hv)
  ·rcases hat3 with h3|⟨b,h3,h4⟩
   ·exact .inl (h3 ▸ hk)
   ·rw [h3] at hk
    injection hk with hk
    exact .inr au0
def nod (key:Bs):Nd:=⟨0,1,0,str key,str []⟩
set_option maxHeartbeats 4000000 in
set_option maxRecDepth 100000 in
theorem value_step (d deep:Nat) (hd:deep+d=32) (ih:∀ d',d=d'+1→ValOk d' (deep+1)):ValOk d deep:=by
 intro g base s p v xs key l w hs hGU8 hg2 hb2 hbg hP ha hn
 have HP:=Lib.hid hP
 have HA:=Lib.hid ha
 have HG:=Lib.hid hGU8
 have HN:=Lib.hid hn
 have hpl:=ha.le
 have hnl:xs.length<70000:=by omega
 clear hP ha hGU8 hn
 go_enter Tryd.func70,Tryd.ntmps70
 go_upto_region 1 with(fail)
 have hw2:Below w.heap.size w ((w.alloc (.cells #[.pointer (some ⟨g,0,none⟩)] 115 (0,0))).alloc (.cells #[.int .i64 (deep:Int)] 3 (0,0))):=((Below.refl _ _).alloc (Nat.le_refl _) _).alloc au39 _
 have hbox:Box ((w.alloc (.cells #[.pointer (some ⟨g,0,none⟩)] 115 (0,0))).alloc (.cells #[.int .i64 (deep:Int)] 3 (0,0))) w.heap.size (w.heap.size+1) g deep :=
  ⟨(Lib.alloc_old _ _ _ au39).trans (heap_alloc_new w _),by have:=heap_alloc_new (w.alloc (.cells #[.pointer (some ⟨g,0,none⟩)] 115 (0,0))) (.cells #[.int .i64 (deep:Int)] 3 (0,0));rw [World.size_alloc] at this;exact this⟩
 generalize hww:(w.alloc (.cells #[.pointer (some ⟨g,0,none⟩)] 115 (0,0))).alloc (.cells #[.int .i64 (deep:Int)] 3 (0,0))=w2 at hw2 hbox
 have HWW:=Lib.hid hww
 clear hww
 generalize hB1:w.heap.size=b1 at hbox
 have HW2:=Lib.hid hw2
 have HBOX:=Lib.hid hbox
 clear hw2 hbox hB1
 have HP2:Hid (PS w2 g base s p v xs):=Lib.hid ⟨HP.out.P.below HW2.out,HP.out.R.below HW2.out⟩
 have HG2:Hid (GlobU8 w2):=Lib.hid (HG.out.below HW2.out)
 obtain ⟨x1,x2⟩:=HBOX.out.cells
 obtain ⟨k0,k1,k2⟩:=HP2.out.P.cells
 obtain ⟨f1,f2⟩:=HP2.out.P.free
 clear f1
 cases l with
 | nil =>
  obtain ⟨d1,d2⟩:=at_ge HA.out
  have HO:Hid (value d key []=.bad [] 5):=Lib.hid (by cases d<;>rfl)
  clear x2 k2 f2
  go_quiet (fail)
  go_wp2_with fail
  have HCq:Hid (Ch g v v w (w2.drewN nq)):=Lib.hid ((Ch.of_below HW2.out).trans (Ch.of_drawn au17))
  have y1:(w2.drewN nq).cell? ⟨b1,0,none⟩=some (.pointer (some ⟨g,0,none⟩)):=x1
  have j1:(w2.drewN nq).cell? ⟨g,1,none⟩=some (.int .i64 (p:Int)):=k1
  clear x1 k1 k0
  have x1:=y1
  have k1:=j1
  clear y1 j1
  generalize w2.drewN nq=wq at *
  refine start_ (n:=6) (S:=fun w'=>w'.cell? ⟨b1,0,none⟩=some (.pointer (some ⟨g,0,none⟩))∧w'.cell? ⟨g,1,none⟩=some (.int .i64 (p:Int))) (ds:=[]) #[false,false,false,false,false,false] au2 rfl rfl ⟨x1,k1⟩ (fun hHeld=>?_)
  refine take_ (i:=0) (N:=some 20) (v:=?_) (a':=?_) #[true,false,false,false,false,false] rfl rfl au2 (fun _ _ _ h=>h) (Or.inl ⟨au6,?_⟩) hHeld ?_ ?_
  rotate_left
  ·rintro w' ⟨s0,s1⟩
   go_simp
   with_reducible rfl
  rotate_left
  ·simp only [Act.put,List.setIfInBounds_toArray,List.set_cons_zero,List.set_cons_succ,i64_w,i32_w]
   rfl
  refine take_ (i:=1) (N:=some 21) (v:=?_) (a':=?_) #[true,true,false,false,false,false] rfl rfl au2 (fun _ _ _ h=>h) (Or.inl ⟨au6,?_⟩) hHeld ?_ ?_
  rotate_left
  ·rintro w' ⟨s0,s1⟩
   go_simp
   with_reducible rfl
  rotate_left
  ·simp only [Act.put,List.setIfInBounds_toArray,List.set_cons_zero,List.set_cons_succ,i64_w,i32_w]
   rfl
  refine pure_ (i:=2) (N:=some 22) (v:=?_) (a':=?_) #[true,true,true,false,false,false] rfl rfl au2 (fun _ _ _ h=>h) (Or.inl ⟨au6,?_⟩) ?_ ?_
  rotate_left
  ·intro w'
   go_simp
   with_reducible rfl
  rotate_left
  ·simp only [Act.put,List.setIfInBounds_toArray,List.set_cons_zero,List.set_cons_succ,i64_w,i32_w]
   rfl
  refine pure_ (i:=3) (N:=some 23) (v:=?_) (a':=?_) #[true,true,true,true,false,false] rfl rfl au2 (fun _ _ _ h=>h) (Or.inl ⟨au6,?_⟩) ?_ ?_
  rotate_left
  ·intro w'
   go_simp
   with_reducible rfl
  rotate_left
  ·simp only [Act.put,List.setIfInBounds_toArray,List.set_cons_zero,List.set_cons_succ,i64_w,i32_w]
   rfl
  refine take_ (i:=4) (N:=some 24) (v:=?_) (a':=?_) #[true,true,true,true,true,false] rfl rfl au2 (fun _ _ _ h=>h) (Or.inl ⟨au6,?_⟩) hHeld ?_ ?_
  rotate_left
  ·rintro w' ⟨s0,s1⟩
   go_simp
   with_reducible rfl
  rotate_left
  ·simp only [Act.put,List.setIfInBounds_toArray,List.set_cons_zero,List.set_cons_succ,i64_w,i32_w]
   rfl
  refine one_ (i:=5) (N:=some 25) #[true,true,true,true,true,true] rfl rfl au2 au1 (fun K hK=>?_)
  go_simp
  go_at_call 71
  refine(fail_calls _ _ _).mono ?_
  rintro e w3 ⟨rfl,rfl⟩
  have hpost:PostN s g base v (fun f:F=>xs++f.flat) w (value d key []) (.panicked [{ v:=.iface 113 (.agg #[.int .i64 (p:Int),.int .i64 5]),recovered:=false }]) wq.drew:=by
   rw [HO.out]
   exact ⟨HA.out.stops 5,v,HCq.out.trans (Ch.of_drawn au17)⟩
  exact ⟨rfl,hpost⟩
 | cons c r =>
  obtain ⟨d1,d2⟩:=at_lt HA.out
  obtain ⟨A,cap,hvs,hcap⟩:∃ A cap,v=.slice A xs.length cap∧xs.length≤cap:=by
   obtain ⟨A,cap,h1,h2,_⟩:=Kd.R_reads HP.out.R
   exact ⟨A,cap,h1,h2⟩
  subst hvs
  go_quiet (fail)
  go_upto_region 5 with(fail)
  have HPq:Hid (PS (w2.drewN nq) g base s p (.slice A xs.length cap) xs):=Lib.hid (HP2.out.drawn au17)
  have HBq:Hid (Box (w2.drewN nq) b1 (b1+1) g deep):=Lib.hid ⟨HBOX.out.A,HBOX.out.B⟩
  have HCq:Hid (Ch g (.slice A xs.length cap) (.slice A xs.length cap) w (w2.drewN nq)):=Lib.hid ((Ch.of_below HW2.out).trans (Ch.of_drawn au17))
  have HGq:Hid (GlobU8 (w2.drewN nq)):=Lib.hid (HG2.out.drawn au17)
  clear x1 x2 k0 k1 k2 f2
  generalize w2.drewN nq=wq at HPq HBq HCq HGq
  obtain ⟨x1,x2⟩:=HBq.out.cells
  obtain ⟨k0,k1,k2⟩:=HPq.out.P.cells
  have hal:Below wq.drew.heap.size wq.drew (wq.drew.alloc (.cells #[.int .i64 0,.int .i64 1,.int .i64 0,.string (str key),.string ⟨#[]⟩] 24 (0,0))):=(Below.refl _ _).alloc (Nat.le_refl _) _
  have HAL:=Lib.hid hal
  have HLT1:Hid (b1<wq.heap.size):=Lib.hid (blk_lt HBq.out.A)
  have HLTG:Hid (g<wq.heap.size):=Lib.hid HPq.out.P.lt
  have HNE1:Hid (some b1≠(Value.slice A xs.length cap).ownBlock):=Lib.hid (HPq.out.R.ne HBq.out.A au1)
  have HBS:Hid (base≤wq.drew.heap.size):=Lib.hid (by have:=HPq.out.P.lt;show base≤wq.heap.size;omega)
  clear hal
  refine start_ (n:=12) (S:=fun w'=>w'.cell? ⟨b1,0,none⟩=some (.pointer (some ⟨g,0,none⟩))∧w'.cell? ⟨g,2,none⟩=some (.slice A xs.length cap)) (ds:=[11]) #[fF,fF,fF,fF,fF,fF,fF,fF,fF,fF,fF,fF] au2 rfl rfl ⟨x1,k2⟩ (fun hHeld=>?_)
  refine pure_ (i:=5) (N:=some 40) (v:=?_) (a':=?_) #[fF,fF,fF,fF,fF,tT,fF,fF,fF,fF,fF,fF] rfl rfl au2 (fun _ _ _ h=>h) (Or.inl ⟨au6,?_⟩) ?_ ?_
  rotate_left
  ·intro w'
   go_simp
   with_reducible rfl
  rotate_left
  ·simp only [Act.put,List.setIfInBounds_toArray,List.set_cons_zero,List.set_cons_succ,i64_w,i32_w]
   rfl
  refine pure_ (i:=6) (N:=some 41) (v:=?_) (a':=?_) #[fF,fF,fF,fF,fF,tT,tT,fF,fF,fF,fF,fF] rfl rfl au2 (fun _ _ _ h=>h) (Or.inl ⟨au6,?_⟩) ?_ ?_
  rotate_left
  ·intro w'
   go_simp
   with_reducible rfl
  rotate_left
  ·simp only [Act.put,List.setIfInBounds_toArray,List.set_cons_zero,List.set_cons_succ,i64_w,i32_w]
   rfl
  refine take_ (i:=0) (N:=some 35) (v:=?_) (a':=?_) #[tT,fF,fF,fF,fF,tT,tT,fF,fF,fF,fF,fF] rfl rfl au2 (fun _ _ _ h=>h) (Or.inl ⟨au6,?_⟩) hHeld ?_ ?_
  rotate_left
  ·rintro w' ⟨s0,s1⟩
   go_simp
   with_reducible rfl
  rotate_left
  ·simp only [Act.put,List.setIfInBounds_toArray,List.set_cons_zero,List.set_cons_succ,i64_w,i32_w]
   rfl
  refine take_ (i:=1) (N:=some 36) (v:=?_) (a':=?_) #[tT,tT,fF,fF,fF,tT,tT,fF,fF,fF,fF,fF] rfl rfl au2 (fun _ _ _ h=>h) (Or.inl ⟨au6,?_⟩) hHeld ?_ ?_
  rotate_left
  ·rintro w' ⟨s0,s1⟩
   go_simp
   with_reducible rfl
  rotate_left
  ·simp only [Act.put,List.setIfInBounds_toArray,List.set_cons_zero,List.set_cons_succ,i64_w,i32_w]
   rfl
  refine pure_ (i:=2) (N:=some 37) (v:=?_) (a':=?_) #[tT,tT,tT,fF,fF,tT,tT,fF,fF,fF,fF,fF] rfl rfl au2 (fun _ _ _ h=>h) (Or.inl ⟨au6,?_⟩) ?_ ?_
  rotate_left
  ·intro w'
   go_simp
   with_reducible rfl
  rotate_left
  ·simp only [Act.put,List.setIfInBounds_toArray,List.set_cons_zero,List.set_cons_succ,i64_w,i32_w]
   rfl
  refine pure_ (i:=3) (N:=some 38) (v:=?_) (a':=?_) #[tT,tT,tT,tT,fF,tT,tT,fF,fF,fF,fF,fF] rfl rfl au2 (fun _ _ _ h=>h) (Or.inl ⟨au6,?_⟩) ?_ ?_
  rotate_left
  ·intro w'
   go_simp
   with_reducible rfl
  rotate_left
  ·simp only [Act.put,List.setIfInBounds_toArray,List.set_cons_zero,List.set_cons_succ,i64_w,i32_w]
   rfl
  refine take_ (i:=4) (N:=some 39) (v:=?_) (a':=?_) #[tT,tT,tT,tT,tT,tT,tT,fF,fF,fF,fF,fF] rfl rfl au2 (fun _ _ _ h=>h) (Or.inl ⟨au6,?_⟩) hHeld ?_ ?_
  rotate_left
  ·rintro w' ⟨s0,s1⟩
   go_simp
   with_reducible rfl
  rotate_left
  ·simp only [Act.put,List.setIfInBounds_toArray,List.set_cons_zero,List.set_cons_succ,i64_w,i32_w]
   rfl
  refine one_ (i:=7) (N:=some 42) #[tT,tT,tT,tT,tT,tT,tT,tT,fF,fF,fF,fF] rfl rfl au2 au1 (fun K hK=>?_)
  refine value_ (w1:=?_) (v:=?_) au6 rfl ?_ ?_
  rotate_left 2
  ·go_simp
   constructor
   ·rfl
   ·rfl
  have X1:(wq.drew.alloc (.cells #[.int .i64 0,.int .i64 1,.int .i64 0,.string (str key),.string ⟨#[]⟩] 24 (0,0))).cell? ⟨b1,0,none⟩=some (.pointer (some ⟨g,0,none⟩)):=(HAL.out.cell HLT1.out).trans x1
  have K2:(wq.drew.alloc (.cells #[.int .i64 0,.int .i64 1,.int .i64 0,.string (str key),.string ⟨#[]⟩] 24 (0,0))).cell? ⟨g,2,none⟩=some (.slice A xs.length cap):=(HAL.out.cell HLTG.out).trans k2
  refine hK.out _ _ ⟨X1,K2⟩ (fun hHeld=>?_)
  clear hK K
  refine norm_ (a':=?_) ?_ ?_
  rotate_left
  ·show Act.put _ (some 42) _=_
   simp only [Act.put,List.setIfInBounds_toArray,List.set_cons_zero,List.set_cons_succ,i64_w,i32_w]
   rfl
  refine one_ (i:=8) (N:=some 43) #[tT,tT,tT,tT,tT,tT,tT,tT,tT,fF,fF,fF] rfl rfl au2 au1 (fun K hK=>?_)
  refine Kd.R_append_step kN (w0:=wq.drew) base au6 (.tmp 39) (.tmp 42) 22 24 (.agg #[.int .i64 0,.int .i64 0,.int .i64 0,.string ⟨#[]⟩,.string ⟨#[]⟩]) 56 rfl Tryd.underlying22 info24 rfl au1 au1 (.slice A xs.length cap) xs (nod key) [.int .i64 0,.int .i64 1,.int .i64 0,.string (str key),.string ⟨#[]⟩] (fun _=>True) (fun _=>False) rfl rfl (k24_mkM _ _ _ (nod key)) (fun _ hk=>hk.elim) (fun _ _=>trivial) (HPq.out.drawn (drawn_drew _ _ (Drawn0.refl _))).R.all (Below.refl _ _) HBS.out au0 ?_
  intro v3 w3 hr3 hb3 hg3 hat3
  obtain ⟨A3,c3,rfl⟩:=Kd.R_slice hr3
  have hps:=(HPq.out.drawn (drawn_drew wq wq (Drawn0.refl _))).pushed hr3 hg3 hat3
  have HPS3:=Lib.hid hps.1
  have HCH3:=Lib.hid hps.2.1
  have HAT3:=Lib.hid hat3
  obtain ⟨z0,z1,z2⟩:=hps.2.2.cells
  obtain ⟨f1,f2⟩:=hps.2.2.free
  have X3:w3.cell? ⟨b1,0,none⟩=some (.pointer (some ⟨g,0,none⟩)):=(cell_same (hg3.block b1 HLT1.out HNE1.out)).trans x1
  clear hr3 hb3 hg3 hat3 hps z0 z1 f1 X1 K2
  refine hK.out _ _ ⟨X3,z2⟩ (fun hHeld=>?_)
  clear hK K
  refine norm_ (a':=?_) ?_ ?_
  rotate_left
  ·show Act.put _ (some 43) _=_
   simp only [Act.put,List.setIfInBounds_toArray,List.set_cons_zero,List.set_cons_succ,i64_w,i32_w]
   rfl
  refine pure_ (i:=9) (N:=some 44) (v:=?_) (a':=?_) #[tT,tT,tT,tT,tT,tT,tT,tT,tT,tT,fF,fF] rfl rfl au2 (fun _ _ _ h=>h) (Or.inl ⟨au6,?_⟩) ?_ ?_
  rotate_left
  ·intro w'
   go_simp
   with_reducible rfl
  rotate_left
  ·simp only [Act.put,List.setIfInBounds_toArray,List.set_cons_zero,List.set_cons_succ,i64_w,i32_w]
   rfl
  refine pure_ (i:=10) (N:=some 45) (v:=?_) (a':=?_) #[tT,tT,tT,tT,tT,tT,tT,tT,tT,tT,tT,fF] rfl rfl au2 (fun _ _ _ h=>h) (Or.inl ⟨au6,?_⟩) ?_ ?_
  rotate_left
  ·intro w'
   go_simp
   with_reducible rfl
  rotate_left
  ·simp only [Act.put,List.setIfInBounds_toArray,List.set_cons_zero,List.set_cons_succ,i64_w,i32_w]
   rfl
  refine last_ (i:=11) (N:=none) #[tT,tT,tT,tT,tT,tT,tT,tT,tT,tT,tT,tT] rfl rfl au2 au1 (fun K hK=>?_)
  refine skip_ (w1:=?_) au6 rfl ?_ ?_
  rotate_left
  ·go_simp
   rfl
  refine hK.out _ _ ?_
  clear hK K
  refine done_ au2 ?_
  have hl1:(xs++[nod key]).length=xs.length+1:=by simp
  rw [hl1] at HPS3 HCH3
  clear hl1
  have HC5:Hid (Ch g (.slice A xs.length cap) (.slice A3 (xs.length+1) c3) w (w3.setCell ⟨g,2,none⟩ (.slice A3 (xs.length+1) c3))):=Lib.hid ((HCq.out.trans (Ch.of_drawn (drawn_drew _ _ (Drawn0.refl _)))).trans HCH3.out)
  have HB5:Hid (Box (w3.setCell ⟨g,2,none⟩ (.slice A3 (xs.length+1) c3)) b1 (b1+1) g deep):=Lib.hid (Box.ch (w:=wq.drew) ⟨HBq.out.A,HBq.out.B⟩ (HPq.out.drawn (drawn_drew _ _ (Drawn0.refl _))) HCH3.out)
  have HG5:Hid (GlobU8 (w3.setCell ⟨g,2,none⟩ (.slice A3 (xs.length+1) c3))):=Lib.hid (HG.out.ch hg2 hb2 HP.out.R HC5.out)
  clear x1 x2 k0 k1 k2 z2 f2 X3 hHeld
  generalize hv3:Value.slice A3 (xs.length+1) c3=v3 at HPS3 HC5 HB5 HG5 HCH3
  have HV3:=Lib.hid hv3
  clear hv3
  generalize hw5:w3.setCell ⟨g,2,none⟩ v3=w5 at HPS3 HC5 HB5 HG5 HCH3
  have HW5:=Lib.hid hw5
  clear hw5
  obtain ⟨x1,x2⟩:=HB5.out.cells
  obtain ⟨k0,k1,k2⟩:=HPS3.out.P.cells
  clear k0 k1 k2
  go_upto_block 0 with(go_at_call 77;refine(byte_some g s p v3 c r _ HPS3.out.P HA.out).mono ?_;rintro e w6 ⟨rfl,hd6⟩;have HD6:=Lib.hid hd6;clear hd6)
  have HP6:Hid (PS w6 g base s p v3 (xs++[nod key])):=Lib.hid (HPS3.out.drawn HD6.out)
  have HC6:Hid (Ch g (.slice A xs.length cap) v3 w w6):=Lib.hid (HC5.out.trans (Ch.of_drawn HD6.out))
  have HB6:Hid (Box w6 b1 (b1+1) g deep):=Lib.hid (HB5.out.ch HPS3.out (Ch.of_drawn HD6.out))
  have HG6:Hid (GlobU8 w6):=Lib.hid (HG5.out.drawn HD6.out)
  clear x1 x2
  obtain ⟨x1,x2⟩:=HB6.out.cells
  obtain ⟨k0,k1,k2⟩:=HP6.out.P.cells
  generalize hO:value d key (c :: r)=O
  have HO:=Lib.hid hO
  clear hO k0 k1
  go_cut [] (fun wx=>∃(q:Nat) (u:Value) (h':Nd) (ys:List Nd) (r':Bs) (f:F),Hid (O=.ok r' f∧f.flat={ h' with f1:=((ys.length+1:Nat):Int) } :: ys)∧Hid (At s q r')∧Hid (PS wx g base s q u ((xs++[h'])++ys))∧Hid (Ch g (.slice A xs.length cap) u w wx)∧Hid (Box wx b1 (b1+1) g deep))
  case first =>
   obtain ⟨z,hz⟩:∃ z,Lib.indexByte [123,91,34,45,48,49,50,51,52,53,54,55,56,57,116,102,110] c=z:=⟨_,rfl⟩
   have hzb:=idx_begins c
   rw [hz] at hzb
   have HZ:=Lib.hid hz
   clear hz
   cases hb:begins c with
   | false =>
    rw [hb] at hzb
    have HOO:Hid (O=.bad (c :: r) 5):=Lib.hid (by rw [← HO.out];cases d<;>simp [value,hb])
    clear hb x2 k2
    go_wp2_with (first
     | (go_at_call 63;refine(idx_of _ c z _ HZ.out).mono ?_;rintro e w9 ⟨rfl,rfl⟩)
     | (go_at_call 71;refine(fail_calls _ _ _).mono ?_;rintro e w10 ⟨rfl,rfl⟩))
    rw [HO.out,HOO.out]
    exact ⟨rfl,HA.out.stops 5,v3,HC6.out⟩
   | true =>
    rw [hb] at hzb
    cases d with
    | zero =>
     have HOO:Hid (O=.bad (c :: r) 7):=Lib.hid (by rw [← HO.out];simp [value,hb])
     have hdp:deep=32:=by omega
     subst hdp
     clear hb k2
     go_wp2_with (first
      | (go_at_call 63;refine(idx_of _ c z _ HZ.out).mono ?_;rintro e w9 ⟨rfl,rfl⟩))
     rw [HO.out,HOO.out]
     exact ⟨rfl,HA.out.stops 7,v3,HC6.out⟩
    | succ d =>
     have hdp:(deep:Int)<32:=by omega
     have hdn:deep<32:=by omega
     have HV:Hid (value (d+1) key (c :: r)=if c=123 then many (value d) true key r
      else if c=91 then many (value d) false key r
      else if c=34 then(text (c :: r)).map fun t=>.leaf key 5 t .nil
      else if c=116 then(word [116,114,117,101] (c :: r)).map fun _=>.leaf key 2 [] .nil
      else if c=102 then(word [102,97,108,115,101] (c :: r)).map fun _=>.leaf key 3 [] .nil
      else if c=110 then(word [110,117,108,108] (c :: r)).map fun _=>.leaf key 1 [] .nil
      else(number (c :: r)).map fun t=>.leaf key 4 t .nil):=Lib.hid (by simp only [value];rw [if_neg (by rw [hb];simp)])
     have IH:=Lib.hid (ih d rfl)
     clear hb ih hd
     have hmf:∀(fn:Fn) (first cap:Array Value) (w:World),(Instr.makeFunc fn first cap).run Tryd.prog w=.ok (.func fn first cap) w:=fun _ _ _ _=>rfl
     by_cases c123:c=123
     ·subst c123
      have HVV:=Lib.hid (HV.out.trans (by rw [if_pos rfl]))
      have hi3:xs.length<(xs++[nod key]).length:=by simp
      obtain ⟨b,c4,rfl,hc4,hb4,hlt4,hx4,hf4⟩:=HP6.out.R.at_ hi3
      have hi4:(xs.length:Int)<((xs++[nod key]).length:Int):=by omega
      have hgd:(xs++[nod key]).getD xs.length zN=nod key:=by have:=at_mid (xs:=xs) (h:=nod key) (ys:=[]);rw [List.append_nil] at this;exact this.1
      have hst:∀ h',(xs++[nod key]).set xs.length h'=xs++[h']:=by intro h';have:=(at_mid (xs:=xs) (h:=nod key) (ys:=[])).2 h';rw [List.append_nil,List.append_nil] at this;exact this
      rw [hgd] at hx4
      have hx0:=hx4.1
      have hx4':=hx4.2.2.2.2
      have hf0:w6.frozen? ⟨b,xs.length*5,none⟩=false:=hf4 0
      have hf4':=hf4 4
      clear hx4 hf4 hc4 hlt4 hb4
      have ps7:=HP6.out.put hi3 0 au0 (.int .i64 7) { nod key with f0:=7 } (by rw [hgd];rfl)
      rw [hst] at ps7
      have HP7:=Lib.hid ps7
      have HC7:=Lib.hid ((HC6.out.setRow (xs.length*5+0) (.int .i64 7)).len_ (xs++[({ nod key with f0:=7 }:Nd)]).length)
      have HB7:=Lib.hid (HB6.out.ch HP6.out ((Ch.refl g _ w6).setRow (xs.length*5+0) (.int .i64 7)))
      have HG7:=Lib.hid (HG.out.ch hg2 hb2 HP.out.R HC7.out)
      have eg:∀ args w,(callFunc 79 args).run Tryd.prog w=.ok (.enter 79 args) w:=fun args w=>enters_ Tryd.func79 au2 au2 args w
      have hln7:xs.length≤p:=HN.out
      have HLN7:=Lib.hid hln7
      have HONE:Hid (OneOk 79 b1 (b1+1) g base s deep (item (value d) true)):=Lib.hid (one1_ok d deep hdn IH.out b1 (b1+1) g base s hs hg2 hb2 hbg)
      have y1:(w6.setCell ⟨b,xs.length*5,none⟩ (.int .i64 7)).cell? ⟨b1,0,none⟩=some (.pointer (some ⟨g,0,none⟩)):=HB7.out.cells.1
      clear ps7 hst hgd hx4' hf4' hln7 
      cases hM:manyS (value d) true r with
      | bad r5 x5 =>
       have HOO:Hid (O=.bad r5 x5):=Lib.hid au49
       have HM:=Lib.hid hM
       clear hM
       go_wp2_with (first
        | (go_at_call 63;refine(idx_of _ 123 z _ HZ.out).mono ?_;rintro e w9 ⟨rfl,rfl⟩)
        | (go_at_call 78;refine(many_calls 79 b1 (b1+1) g base s deep true 125 (value d) rfl (value_owes d) HONE.out eg p _ xs _ 123 r _ hs HG7.out hg2 hb2 HP7.out HA.out HLN7.out rfl HB7.out).mono ?_;rw [HM.out];rintro e w8 ⟨hst,v8,hc8⟩;have HST:=Lib.hid hst;have HC8:=Lib.hid hc8;clear hc8;unfold Stops at hst;subst hst))
       rw [HO.out,HOO.out]
       exact ⟨rfl,HST.out,v8,HC7.out.trans HC8.out⟩
      | ok r5 f5 =>
       have HOO:Hid (O=.ok r5 (.node key 7 f5 .nil)):=Lib.hid au49
       have HM:=Lib.hid hM
       clear hM
       go_wp2_with (first
        | (go_at_call 63;refine(idx_of _ 123 z _ HZ.out).mono ?_;rintro e w9 ⟨rfl,rfl⟩)
        | (go_at_call 78;refine(many_calls 79 b1 (b1+1) g base s deep true 125 (value d) rfl (value_owes d) HONE.out eg p _ xs _ 123 r _ hs HG7.out hg2 hb2 HP7.out HA.out HLN7.out rfl HB7.out).mono ?_;rw [HM.out];rintro e w8 ⟨rfl,q8,v8,ha8,hp8,hc8⟩;have HA8:=Lib.hid ha8;have HP8:=Lib.hid hp8;have HC8:=Lib.hid hc8;clear ha8 hp8 hc8))
       go_meet
       case rel=>exact ⟨q8,v8,_,f5.flat,r5,_,Lib.hid ⟨HOO.out,au31⟩,HA8,HP8,Lib.hid (HC7.out.trans HC8.out),Lib.hid (HB7.out.ch HP7.out HC8.out)⟩
     ·have q123:((c.toNat:Int)==123)=false:=by
       simp only [beq_eq_false_iff_ne,ne_eq]
       exact fun e=>c123 (u8_lit (n:=123) au0 au0)
      have HN123:=Lib.hid c123
      clear c123
      by_cases c91:c=91
      ·subst c91
       have HVV:=Lib.hid (HV.out.trans (by rw [if_neg au1,if_pos rfl]))
       clear q123
       have hi3:xs.length<(xs++[nod key]).length:=by simp
       obtain ⟨b,c4,rfl,hc4,hb4,hlt4,hx4,hf4⟩:=HP6.out.R.at_ hi3
       have hi4:(xs.length:Int)<((xs++[nod key]).length:Int):=by omega
       have hgd:(xs++[nod key]).getD xs.length zN=nod key:=by have:=at_mid (xs:=xs) (h:=nod key) (ys:=[]);rw [List.append_nil] at this;exact this.1
       have hst:∀ h',(xs++[nod key]).set xs.length h'=xs++[h']:=by intro h';have:=(at_mid (xs:=xs) (h:=nod key) (ys:=[])).2 h';rw [List.append_nil,List.append_nil] at this;exact this
       rw [hgd] at hx4
       have hx0:=hx4.1
       have hx4':=hx4.2.2.2.2
       have hf0:w6.frozen? ⟨b,xs.length*5,none⟩=false:=hf4 0
       have hf4':=hf4 4
       clear hx4 hf4 hc4 hlt4 hb4
       have ps7:=HP6.out.put hi3 0 au0 (.int .i64 6) { nod key with f0:=6 } (by rw [hgd];rfl)
       rw [hst] at ps7
       have HP7:=Lib.hid ps7
       have HC7:=Lib.hid ((HC6.out.setRow (xs.length*5+0) (.int .i64 6)).len_ (xs++[({ nod key with f0:=6 }:Nd)]).length)
       have HB7:=Lib.hid (HB6.out.ch HP6.out ((Ch.refl g _ w6).setRow (xs.length*5+0) (.int .i64 6)))
       have HG7:=Lib.hid (HG.out.ch hg2 hb2 HP.out.R HC7.out)
       have eg:∀ args w,(callFunc 82 args).run Tryd.prog w=.ok (.enter 82 args) w:=fun args w=>enters_ Tryd.func82 au2 au2 args w
       have hln7:xs.length≤p:=HN.out
       have HLN7:=Lib.hid hln7
       have HONE:Hid (OneOk 82 b1 (b1+1) g base s deep (item (value d) false)):=Lib.hid (one2_ok d deep hdn IH.out b1 (b1+1) g base s hs hg2 hb2 hbg)
       have y1:(w6.setCell ⟨b,xs.length*5,none⟩ (.int .i64 6)).cell? ⟨b1,0,none⟩=some (.pointer (some ⟨g,0,none⟩)):=HB7.out.cells.1
       clear ps7 hst hgd hx4' hf4' hln7 
       cases hM:manyS (value d) false r with
       | bad r5 x5 =>
        have HOO:Hid (O=.bad r5 x5):=Lib.hid au49
        have HM:=Lib.hid hM
        clear hM
        go_wp2_with (first
         | (go_at_call 63;refine(idx_of _ 91 z _ HZ.out).mono ?_;rintro e w9 ⟨rfl,rfl⟩)
         | (go_at_call 78;refine(many_calls 82 b1 (b1+1) g base s deep false 93 (value d) rfl (value_owes d) HONE.out eg p _ xs _ 91 r _ hs HG7.out hg2 hb2 HP7.out HA.out HLN7.out rfl HB7.out).mono ?_;rw [HM.out];rintro e w8 ⟨hst,v8,hc8⟩;have HST:=Lib.hid hst;have HC8:=Lib.hid hc8;clear hc8;unfold Stops at hst;subst hst))
        rw [HO.out,HOO.out]
        exact ⟨rfl,HST.out,v8,HC7.out.trans HC8.out⟩
       | ok r5 f5 =>
        have HOO:Hid (O=.ok r5 (.node key 6 f5 .nil)):=Lib.hid au49
        have HM:=Lib.hid hM
        clear hM
        go_wp2_with (first
         | (go_at_call 63;refine(idx_of _ 91 z _ HZ.out).mono ?_;rintro e w9 ⟨rfl,rfl⟩)
         | (go_at_call 78;refine(many_calls 82 b1 (b1+1) g base s deep false 93 (value d) rfl (value_owes d) HONE.out eg p _ xs _ 91 r _ hs HG7.out hg2 hb2 HP7.out HA.out HLN7.out rfl HB7.out).mono ?_;rw [HM.out];rintro e w8 ⟨rfl,q8,v8,ha8,hp8,hc8⟩;have HA8:=Lib.hid ha8;have HP8:=Lib.hid hp8;have HC8:=Lib.hid hc8;clear ha8 hp8 hc8))
        go_meet
        case rel=>exact ⟨q8,v8,_,f5.flat,r5,_,Lib.hid ⟨HOO.out,au31⟩,HA8,HP8,Lib.hid (HC7.out.trans HC8.out),Lib.hid (HB7.out.ch HP7.out HC8.out)⟩
      ·have q91:((c.toNat:Int)==91)=false:=by
        simp only [beq_eq_false_iff_ne,ne_eq]
        exact fun e=>c91 (u8_lit (n:=91) au0 au0)
       have HN91:=Lib.hid c91
       clear c91
       by_cases c34:c=34
       ·subst c34
        have HVV:=Lib.hid (HV.out.trans (by rw [if_neg au1,if_neg au1,if_pos rfl]))
        clear q123
        clear q91
        have hi3:xs.length<(xs++[nod key]).length:=by simp
        obtain ⟨b,c4,rfl,hc4,hb4,hlt4,hx4,hf4⟩:=HP6.out.R.at_ hi3
        have hi4:(xs.length:Int)<((xs++[nod key]).length:Int):=by omega
        have hgd:(xs++[nod key]).getD xs.length zN=nod key:=by have:=at_mid (xs:=xs) (h:=nod key) (ys:=[]);rw [List.append_nil] at this;exact this.1
        have hst:∀ h',(xs++[nod key]).set xs.length h'=xs++[h']:=by intro h';have:=(at_mid (xs:=xs) (h:=nod key) (ys:=[])).2 h';rw [List.append_nil,List.append_nil] at this;exact this
        rw [hgd] at hx4
        have hx0:=hx4.1
        have hx4':=hx4.2.2.2.2
        have hf0:w6.frozen? ⟨b,xs.length*5,none⟩=false:=hf4 0
        have hf4':=hf4 4
        clear hx4 hf4 hc4 hlt4 hb4
        have ps7:=HP6.out.put hi3 0 au0 (.int .i64 5) { nod key with f0:=5 } (by rw [hgd];rfl)
        rw [hst] at ps7
        have HP7:=Lib.hid ps7
        have HC7:=Lib.hid ((HC6.out.setRow (xs.length*5+0) (.int .i64 5)).len_ (xs++[({ nod key with f0:=5 }:Nd)]).length)
        have HB7:=Lib.hid (HB6.out.ch HP6.out ((Ch.refl g _ w6).setRow (xs.length*5+0) (.int .i64 5)))
        have HG7:=Lib.hid (HG.out.ch hg2 hb2 HP.out.R HC7.out)
        have y1:(w6.setCell ⟨b,xs.length*5,none⟩ (.int .i64 5)).cell? ⟨b1,0,none⟩=some (.pointer (some ⟨g,0,none⟩)):=HB7.out.cells.1
        clear ps7 hst hgd hx4' hf4' 
        cases hM:text (34 :: r) with
        | bad r5 x5 =>
         have HOO:Hid (O=.bad r5 x5):=Lib.hid au23
         have HM:=Lib.hid hM
         clear hM
         go_wp2_with (first
          | (go_at_call 63;refine(idx_of _ 34 z _ HZ.out).mono ?_;rintro e w9 ⟨rfl,rfl⟩)
          | (go_at_call 80;refine(text_calls g s p _ (34 :: r) _ hs HG7.out hg2 HP7.out.P HA.out).mono ?_;rw [HM.out];rintro e w8 ⟨hst,hu8⟩;have HST:=Lib.hid hst;have HU8:=Lib.hid hu8;clear hu8;unfold Stops at hst;subst hst))
         rw [HO.out,HOO.out]
         exact ⟨rfl,HST.out,_,HC7.out.trans (Ch.of_upd HU8.out)⟩
        | ok r5 t5 =>
         have HOO:Hid (O=.ok r5 (.leaf key 5 t5 .nil)):=Lib.hid au23
         have HM:=Lib.hid hM
         clear hM
         go_upto_region 21 with(first
          | (go_at_call 63;refine(idx_of _ 34 z _ HZ.out).mono ?_;rintro e w9 ⟨rfl,rfl⟩)
          | (go_at_call 80;refine(text_calls g s p _ (34 :: r) _ hs HG7.out hg2 HP7.out.P HA.out).mono ?_;rw [HM.out];rintro e w8 ⟨rfl,⟨q8,ha8,hp8⟩,hu8⟩;have HA8:=Lib.hid ha8;have HP8:=Lib.hid hp8;have HU8:=Lib.hid hu8;clear ha8 hp8 hu8))
         have HPS8:Hid (PS w8 g base s q8 _ _):=Lib.hid (HP7.out.upd HP8.out HU8.out)
         have HB8:=Lib.hid (HB7.out.ch HP7.out (Ch.of_upd HU8.out))
         have hi5:xs.length<(xs++[({ nod key with f0:=5 }:Nd)]).length:=by simp
         obtain ⟨b',c',hbe,hc5,hb5,hlt5,hx5,hf5⟩:=HPS8.out.R.at_ hi5
         obtain ⟨hbb,hcc⟩:b=b'∧c4=c':=by
          injection hbe with h1 h2 h3
          injection h1 with h1
          injection h1 with h1
          exact ⟨h1,h3⟩
         subst hbb
         have hgd5:(xs++[({ nod key with f0:=5 }:Nd)]).getD xs.length zN={ nod key with f0:=5 }:=by have:=at_mid (xs:=xs) (h:=({ nod key with f0:=5 }:Nd)) (ys:=[]);rw [List.append_nil] at this;exact this.1
         have hst5:∀ h',(xs++[({ nod key with f0:=5 }:Nd)]).set xs.length h'=xs++[h']:=by intro h';have:=(at_mid (xs:=xs) (h:=({ nod key with f0:=5 }:Nd)) (ys:=[])).2 h';rw [List.append_nil,List.append_nil] at this;exact this
         have hx54:=hx5.2.2.2.2
         rw [hgd5] at hx54
         have hf54:=hf5 4
         have hi6:(xs.length:Int)<((xs++[({ nod key with f0:=5 }:Nd)]).length:Int):=by omega
         have ps9:=HPS8.out.put hi5 4 au0 (.string (str t5)) { nod key with f0:=5,f4:=str t5 } (by rw [hgd5];rfl)
         rw [hst5] at ps9
         have HP9:=Lib.hid ps9
         have HC9:=Lib.hid (((HC7.out.trans (Ch.of_upd HU8.out)).setRow (xs.length*5+4) (.string (str t5))).len_ (xs++[({ nod key with f0:=5,f4:=str t5 }:Nd)]).length)
         have HB9:=Lib.hid (HB8.out.ch HPS8.out ((Ch.refl g _ w8).setRow (xs.length*5+4) (.string (str t5))))
         obtain ⟨o1,o2⟩:=HB8.out.cells
         obtain ⟨m0,m1,m2⟩:=HP8.out.cells
         clear hbe hc5 hb5 hlt5 hx5 hf5 hgd5 hst5 ps9 o2 m0 m1
         go_wp2_with fail
         go_meet
         case rel=>exact ⟨q8,_,{ nod key with f0:=5,f4:=str t5 },[],r5,_,Lib.hid ⟨HOO.out,au31⟩,HA8,Lib.hid (by rw [List.append_nil];exact HP9.out),HC9,HB9⟩
       ·have q34:((c.toNat:Int)==34)=false:=by
         simp only [beq_eq_false_iff_ne,ne_eq]
         exact fun e=>c34 (u8_lit (n:=34) au0 au0)
        have HN34:=Lib.hid c34
        clear c34
        by_cases c116:c=116
        ·subst c116
         have HVV:=Lib.hid (HV.out.trans (by rw [if_neg au1,if_neg au1,if_neg au1,if_pos rfl]))
         clear q123
         clear q91
         clear q34
         have hi3:xs.length<(xs++[nod key]).length:=by simp
         have HI3:=Lib.hid hi3
         clear hi3 k2
         cases hM:word [116,114,117,101] (116 :: r) with
         | bad r5 x5 =>
          have HOO:Hid (O=.bad r5 x5):=Lib.hid au23
          have HM:Hid (word (ByteArray.data ⟨#[116,114,117,101]⟩).toList (116 :: r)=.bad r5 x5):=Lib.hid hM
          clear hM
          go_wp2_with (first
           | (go_at_call 63;refine(idx_of _ 116 z _ HZ.out).mono ?_;rintro e w9 ⟨rfl,rfl⟩)
           | (go_at_call 83;refine(word_calls g base s ⟨#[116,114,117,101]⟩ p xs.length 2 v3 (xs++[nod key]) (116 :: r) _ hs au1 HP6.out HA.out HI3.out).mono ?_;rw [HM.out];rintro e w8 ⟨hst,v8,hc8⟩;have HST:=Lib.hid hst;have HC8:=Lib.hid hc8;clear hc8;unfold Stops at hst;subst hst))
          rw [HO.out,HOO.out]
          exact ⟨rfl,HST.out,v8,HC6.out.trans HC8.out⟩
         | ok r5 u5 =>
          have HOO:Hid (O=.ok r5 (.leaf key 2 [] .nil)):=Lib.hid au23
          have HM:Hid (word (ByteArray.data ⟨#[116,114,117,101]⟩).toList (116 :: r)=.ok r5 u5):=Lib.hid hM
          clear hM
          go_wp2_with (first
           | (go_at_call 63;refine(idx_of _ 116 z _ HZ.out).mono ?_;rintro e w9 ⟨rfl,rfl⟩)
           | (go_at_call 83;refine(word_calls g base s ⟨#[116,114,117,101]⟩ p xs.length 2 v3 (xs++[nod key]) (116 :: r) _ hs au1 HP6.out HA.out HI3.out).mono ?_;rw [HM.out];rintro e w8 ⟨rfl,q8,v8,ha8,hp8,hc8⟩;have HA8:=Lib.hid ha8;have HP8:=Lib.hid hp8;have HC8:=Lib.hid hc8;clear ha8 hp8 hc8))
          go_meet
          case rel =>
           have hgd:(xs++[nod key]).getD xs.length zN=nod key:=by have:=at_mid (xs:=xs) (h:=nod key) (ys:=[]);rw [List.append_nil] at this;exact this.1
           have hst:∀ h',(xs++[nod key]).set xs.length h'=xs++[h']:=by intro h';have:=(at_mid (xs:=xs) (h:=nod key) (ys:=[])).2 h';rw [List.append_nil,List.append_nil] at this;exact this
           have hp9:=HP8.out
           simp only [hgd,hst] at hp9
           exact ⟨q8,v8,{ nod key with f0:=2 },[],r5,_,Lib.hid ⟨HOO.out,au31⟩,HA8,Lib.hid au50,Lib.hid (HC6.out.trans HC8.out),Lib.hid (HB6.out.ch HP6.out HC8.out)⟩
        ·have q116:((c.toNat:Int)==116)=false:=by
          simp only [beq_eq_false_iff_ne,ne_eq]
          exact fun e=>c116 (u8_lit (n:=116) au0 au0)
         have HN116:=Lib.hid c116
         clear c116
         by_cases c102:c=102
         ·subst c102
          have HVV:=Lib.hid (HV.out.trans (by rw [if_neg au1,if_neg au1,if_neg au1,if_neg au1,if_pos rfl]))
          clear q123
          clear q91
          clear q34
          clear q116
          have hi3:xs.length<(xs++[nod key]).length:=by simp
          have HI3:=Lib.hid hi3
          clear hi3 k2
          cases hM:word [102,97,108,115,101] (102 :: r) with
          | bad r5 x5 =>
           have HOO:Hid (O=.bad r5 x5):=Lib.hid au23
           have HM:Hid (word (ByteArray.data ⟨#[102,97,108,115,101]⟩).toList (102 :: r)=.bad r5 x5):=Lib.hid hM
           clear hM
           go_wp2_with (first
            | (go_at_call 63;refine(idx_of _ 102 z _ HZ.out).mono ?_;rintro e w9 ⟨rfl,rfl⟩)
            | (go_at_call 83;refine(word_calls g base s ⟨#[102,97,108,115,101]⟩ p xs.length 3 v3 (xs++[nod key]) (102 :: r) _ hs au1 HP6.out HA.out HI3.out).mono ?_;rw [HM.out];rintro e w8 ⟨hst,v8,hc8⟩;have HST:=Lib.hid hst;have HC8:=Lib.hid hc8;clear hc8;unfold Stops at hst;subst hst))
           rw [HO.out,HOO.out]
           exact ⟨rfl,HST.out,v8,HC6.out.trans HC8.out⟩
          | ok r5 u5 =>
           have HOO:Hid (O=.ok r5 (.leaf key 3 [] .nil)):=Lib.hid au23
           have HM:Hid (word (ByteArray.data ⟨#[102,97,108,115,101]⟩).toList (102 :: r)=.ok r5 u5):=Lib.hid hM
           clear hM
           go_wp2_with (first
            | (go_at_call 63;refine(idx_of _ 102 z _ HZ.out).mono ?_;rintro e w9 ⟨rfl,rfl⟩)
            | (go_at_call 83;refine(word_calls g base s ⟨#[102,97,108,115,101]⟩ p xs.length 3 v3 (xs++[nod key]) (102 :: r) _ hs au1 HP6.out HA.out HI3.out).mono ?_;rw [HM.out];rintro e w8 ⟨rfl,q8,v8,ha8,hp8,hc8⟩;have HA8:=Lib.hid ha8;have HP8:=Lib.hid hp8;have HC8:=Lib.hid hc8;clear ha8 hp8 hc8))
           go_meet
           case rel =>
            have hgd:(xs++[nod key]).getD xs.length zN=nod key:=by have:=at_mid (xs:=xs) (h:=nod key) (ys:=[]);rw [List.append_nil] at this;exact this.1
            have hst:∀ h',(xs++[nod key]).set xs.length h'=xs++[h']:=by intro h';have:=(at_mid (xs:=xs) (h:=nod key) (ys:=[])).2 h';rw [List.append_nil,List.append_nil] at this;exact this
            have hp9:=HP8.out
            simp only [hgd,hst] at hp9
            exact ⟨q8,v8,{ nod key with f0:=3 },[],r5,_,Lib.hid ⟨HOO.out,au31⟩,HA8,Lib.hid au50,Lib.hid (HC6.out.trans HC8.out),Lib.hid (HB6.out.ch HP6.out HC8.out)⟩
         ·have q102:((c.toNat:Int)==102)=false:=by
           simp only [beq_eq_false_iff_ne,ne_eq]
           exact fun e=>c102 (u8_lit (n:=102) au0 au0)
          have HN102:=Lib.hid c102
          clear c102
          by_cases c110:c=110
          ·subst c110
           have HVV:=Lib.hid (HV.out.trans (by rw [if_neg au1,if_neg au1,if_neg au1,if_neg au1,if_neg au1,if_pos rfl]))
           clear q123
           clear q91
           clear q34
           clear q116
           clear q102
           have hi3:xs.length<(xs++[nod key]).length:=by simp
           have HI3:=Lib.hid hi3
           clear hi3 k2
           cases hM:word [110,117,108,108] (110 :: r) with
           | bad r5 x5 =>
            have HOO:Hid (O=.bad r5 x5):=Lib.hid au23
            have HM:Hid (word (ByteArray.data ⟨#[110,117,108,108]⟩).toList (110 :: r)=.bad r5 x5):=Lib.hid hM
            clear hM
            go_wp2_with (first
             | (go_at_call 63;refine(idx_of _ 110 z _ HZ.out).mono ?_;rintro e w9 ⟨rfl,rfl⟩)
             | (go_at_call 83;refine(word_calls g base s ⟨#[110,117,108,108]⟩ p xs.length 1 v3 (xs++[nod key]) (110 :: r) _ hs au1 HP6.out HA.out HI3.out).mono ?_;rw [HM.out];rintro e w8 ⟨hst,v8,hc8⟩;have HST:=Lib.hid hst;have HC8:=Lib.hid hc8;clear hc8;unfold Stops at hst;subst hst))
            rw [HO.out,HOO.out]
            exact ⟨rfl,HST.out,v8,HC6.out.trans HC8.out⟩
           | ok r5 u5 =>
            have HOO:Hid (O=.ok r5 (.leaf key 1 [] .nil)):=Lib.hid au23
            have HM:Hid (word (ByteArray.data ⟨#[110,117,108,108]⟩).toList (110 :: r)=.ok r5 u5):=Lib.hid hM
            clear hM
            go_wp2_with (first
             | (go_at_call 63;refine(idx_of _ 110 z _ HZ.out).mono ?_;rintro e w9 ⟨rfl,rfl⟩)
             | (go_at_call 83;refine(word_calls g base s ⟨#[110,117,108,108]⟩ p xs.length 1 v3 (xs++[nod key]) (110 :: r) _ hs au1 HP6.out HA.out HI3.out).mono ?_;rw [HM.out];rintro e w8 ⟨rfl,q8,v8,ha8,hp8,hc8⟩;have HA8:=Lib.hid ha8;have HP8:=Lib.hid hp8;have HC8:=Lib.hid hc8;clear ha8 hp8 hc8))
            go_meet
            case rel =>
             have hgd:(xs++[nod key]).getD xs.length zN=nod key:=by have:=at_mid (xs:=xs) (h:=nod key) (ys:=[]);rw [List.append_nil] at this;exact this.1
             have hst:∀ h',(xs++[nod key]).set xs.length h'=xs++[h']:=by intro h';have:=(at_mid (xs:=xs) (h:=nod key) (ys:=[])).2 h';rw [List.append_nil,List.append_nil] at this;exact this
             have hp9:=HP8.out
             simp only [hgd,hst] at hp9
             exact ⟨q8,v8,{ nod key with f0:=1 },[],r5,_,Lib.hid ⟨HOO.out,au31⟩,HA8,Lib.hid au50,Lib.hid (HC6.out.trans HC8.out),Lib.hid (HB6.out.ch HP6.out HC8.out)⟩
          ·have q110:((c.toNat:Int)==110)=false:=by
            simp only [beq_eq_false_iff_ne,ne_eq]
            exact fun e=>c110 (u8_lit (n:=110) au0 au0)
           have HN110:=Lib.hid c110
           clear c110
           have HVV:=Lib.hid (HV.out.trans (by rw [if_neg HN123.out,if_neg HN91.out,if_neg HN34.out,if_neg HN116.out,if_neg HN102.out,if_neg HN110.out]))
           have hi3:xs.length<(xs++[nod key]).length:=by simp
           have HI3:=Lib.hid hi3
           clear hi3 k2
           cases hM:number (c :: r) with
           | bad r5 x5 =>
            have HOO:Hid (O=.bad r5 x5):=Lib.hid au23
            have HM:=Lib.hid hM
            clear hM
            go_wp2_with (first
             | (go_at_call 63;refine(idx_of _ c z _ HZ.out).mono ?_;rintro e w9 ⟨rfl,rfl⟩)
             | (go_at_call 84;refine(number_calls g base s p xs.length v3 (xs++[nod key]) (c :: r) _ hs HP6.out HA.out HI3.out).mono ?_;rw [HM.out];rintro e w8 ⟨hst,v8,hc8⟩;have HST:=Lib.hid hst;have HC8:=Lib.hid hc8;clear hc8;unfold Stops at hst;subst hst))
            rw [HO.out,HOO.out]
            exact ⟨rfl,HST.out,v8,HC6.out.trans HC8.out⟩
           | ok r5 t5 =>
            have HOO:Hid (O=.ok r5 (.leaf key 4 t5 .nil)):=Lib.hid au23
            have HM:=Lib.hid hM
            clear hM
            go_wp2_with (first
             | (go_at_call 63;refine(idx_of _ c z _ HZ.out).mono ?_;rintro e w9 ⟨rfl,rfl⟩)
             | (go_at_call 84;refine(number_calls g base s p xs.length v3 (xs++[nod key]) (c :: r) _ hs HP6.out HA.out HI3.out).mono ?_;rw [HM.out];rintro e w8 ⟨rfl,q8,v8,ha8,hp8,hc8⟩;have HA8:=Lib.hid ha8;have HP8:=Lib.hid hp8;have HC8:=Lib.hid hc8;clear ha8 hp8 hc8))
            go_meet
            case rel =>
             have hgd:(xs++[nod key]).getD xs.length zN=nod key:=by have:=at_mid (xs:=xs) (h:=nod key) (ys:=[]);rw [List.append_nil] at this;exact this.1
             have hst:∀ h',(xs++[nod key]).set xs.length h'=xs++[h']:=by intro h';have:=(at_mid (xs:=xs) (h:=nod key) (ys:=[])).2 h';rw [List.append_nil,List.append_nil] at this;exact this
             have hp9:=HP8.out
             simp only [hgd,hst] at hp9
             exact ⟨q8,v8,{ nod key with f0:=4,f4:=str t5 },[],r5,_,Lib.hid ⟨HOO.out,au31⟩,HA8,Lib.hid au50,Lib.hid (HC6.out.trans HC8.out),Lib.hid (HB6.out.ch HP6.out HC8.out)⟩
  case rest =>
   obtain ⟨q,u,h',ys,r',f,HF,HAq,HPx,HCx,HBx⟩:=hcut
   clear x1 x2 k2
   obtain ⟨x1,x2⟩:=HBx.out.cells
   obtain ⟨k0,k1,k2⟩:=HPx.out.P.cells
   have hi3:xs.length<((xs++[h'])++ys).length:=by simp
   obtain ⟨b,c4,rfl,hc4,hb4,hlt4,hx4,hf4⟩:=HPx.out.R.at_ hi3
   have hi4:(xs.length:Int)<(((xs++[h'])++ys).length:Int):=by omega
   have hx1:=hx4.2.1
   rw [at_mid.1] at hx1
   have hf1:=hf4 1
   have HPx2:=HPx
   have hln:((xs++[h'])++ys).length=xs.length+f.flat.length:=by rw [HF.out.2];simp
   have hown:=(value_owes d key (c :: r) r' f (HO.out.trans HF.out.1)).2
   have hlen:=HA.out.len
   have hnp:=HN.out
   have hpos:0<f.flat.length:=by rw [HF.out.2];simp
   have hx0:=HPx.out.R.ne HPx.out.P au1
   have hbg2:b≠g:=by
    intro e
    exact hx0 (by rw [e];simp [Value.ownBlock])
   generalize hL:((xs++[h'])++ys).length=L at hln hi4 k2
   have HL:=Lib.hid hL
   have HLN:=Lib.hid hln
   have hL1:L<70000:=by omega
   have hL2:xs.length≤L:=by omega
   have p1:(0:Int)≤(xs.length:Int):=by omega
   have p2:(L:Int)<70000:=by omega
   have p3:(xs.length:Int)<70000:=by omega
   have HBG2:=Lib.hid hbg2
   clear hx4 hf4 hi3 hc4 hlt4 hown hlen hnp hpos hln hL hx0 k0 k1 x2 hb4 hbg2
   go_wp2_with fail
   go_region
   go_wp2_with fail
   go_end0
   rw [HO.out,HF.out.1]
   have hi3:xs.length<((xs++[h'])++ys).length:=by simp
   have ps:=HPx2.out.put hi3 1 au0 (.int .i64 ((L:Int) - (xs.length:Int))) { h' with f1:=(L:Int) - (xs.length:Int) } (by rw [at_mid.1];rfl)
   rw [at_mid.2] at ps
   have hLL:(L:Int) - (xs.length:Int)=((ys.length+1:Nat):Int):=by
    have:=HL.out
    simp at this
    omega
   have hfl:(xs++[{ h' with f1:=(L:Int) - (xs.length:Int) }])++ys=xs++f.flat:=by
    rw [HF.out.2,hLL]
    simp
   rw [hfl] at ps
   have hch:=((HCx.out.setRow (xs.length*5+1) (.int .i64 ((L:Int) - (xs.length:Int)))).trans (Ch.of_drawn (drawn_drew _ _ (Drawn0.refl _)))).len_ (xs++f.flat).length
   exact ⟨rfl,q,_,HAq.out,ps.drawn (drawn_drew _ _ (Drawn0.refl _)),hch⟩
theorem value_ok:∀(d deep:Nat),deep+d=32→ValOk d deep
 | 0,deep,hd=>value_step 0 deep hd (fun d' h=>by omega)
 | d+1,deep,hd=>value_step (d+1) deep hd (fun d' h=>by
   obtain rfl:d=d':=by omega
   exact value_ok d (deep+1) au0)
structure Res3 (w:World) (B:Nat) (v:Value) (a e:Int):Prop where
 V:w.heap[B]?=some (.cells #[v] 22 (0,0))
 A:w.heap[B+1]?=some (.cells #[.int .i64 a] 3 (0,0))
 E:w.heap[B+2]?=some (.cells #[.int .i64 e] 33 (0,0))
set_option maxHeartbeats 1000000 in
set_option maxRecDepth 100000 in
theorem catch_panicking (B:Nat) (v:Value) (a0 e0 p x:Int) (older:List PanicEntry) (w:World) (h:Res3 w B v a0 e0) :
  CallsD Tryd.prog 68 #[.pointer (some ⟨B,0,none⟩),.pointer (some ⟨B+1,0,none⟩),.pointer (some ⟨B+2,0,none⟩)] (.panicking ({ v:=.iface 113 (.agg #[.int .i64 p,.int .i64 x]),recovered:=false } :: older)) w fun e u' w' =>
   e=.returned (.tuple #[])∧u'=.panicking ({ v:=.iface 113 (.agg #[.int .i64 p,.int .i64 x]),recovered:=true } :: older)∧Res3 w' B (.slice none 0 0) p x∧(∀ k,k<B→w'.heap[k]?=w.heap[k]?)∧w.heap.size≤w'.heap.size∧w'.os=w.os∧w'.tape=w.tape∧w'.output=w.output:=by
 have c0:w.cell? ⟨B,0,none⟩=some v:=(blk_cell h.V 0).trans rfl
 have c1:w.cell? ⟨B+1,0,none⟩=some (.int .i64 a0):=(blk_cell h.A 0).trans rfl
 have c2:w.cell? ⟨B+2,0,none⟩=some (.int .i64 e0):=(blk_cell h.E 0).trans rfl
 have g0:=blk_frozen h.V 0
 have g1:=blk_frozen h.A 0
 have g2:=blk_frozen h.E 0
 have ta:∀ W,(Instr.typeAssert (.iface 113 (.agg #[.int .i64 p,.int .i64 x])) 20 113 true).run Tryd.prog W=.ok (.tuple #[.agg #[.int .i64 p,.int .i64 x],.bool true]) W:=fun _=>by kernel_rfl
 refine callsD_of_wpS Tryd.func68 rfl fun c₀ cs hu=>?_
 apply wpS_seq
 apply wpS_region
 simp [wpOpsS,go_sem,recoverD,hu,Tryd.ntmps68,Exit.thenS,ta,Array.replicate]
 have cz0:(w.alloc (.cells #[.int .i64 p,.int .i64 x] 113 (0,0))).cell? ⟨w.heap.size,0,none⟩=some (.int .i64 p):=by simp [World.cell?_alloc_new]
 have hb0:B<w.heap.size:=blk_lt h.V
 have hb1:B+1<w.heap.size:=blk_lt h.A
 have hb2:B+2<w.heap.size:=blk_lt h.E
 clear ta
 apply wpS_seq
 apply wpS_region
 simp [wpOpsS,go_sem,Exit.thenS]
 refine wpS_cond (t:=true) (by simp [Act.eval]) ?_
 simp only [if_true]
 refine wpS_of_wp ?_
 go_region
 have hres:Res3 ((((w.setCell ⟨B,0,none⟩ (.slice none 0 0)).setCell ⟨B+1,0,none⟩ (.int .i64 p)).setCell ⟨B+2,0,none⟩ (.int .i64 x)).alloc (.cells #[.int .i64 p,.int .i64 x] 113 (0,0))).drew B (.slice none 0 0) p x:=by
  have a1:(w.setCell ⟨B,0,none⟩ (.slice none 0 0)).heap[B]?=some (.cells #[.slice none 0 0] 22 (0,0)):=by simpa using blk_set h.V 0 (.slice none 0 0)
  have a2:(w.setCell ⟨B,0,none⟩ (.slice none 0 0)).heap[B+1]?=some (.cells #[.int .i64 a0] 3 (0,0)):=blk_far h.A au5 _
  have a3:(w.setCell ⟨B,0,none⟩ (.slice none 0 0)).heap[B+2]?=some (.cells #[.int .i64 e0] 33 (0,0)):=blk_far h.E au5 _
  have b1:=blk_far a1 (p:=⟨B+1,0,none⟩) au5 (.int .i64 p)
  have b2:((w.setCell ⟨B,0,none⟩ (.slice none 0 0)).setCell ⟨B+1,0,none⟩ (.int .i64 p)).heap[B+1]?=some (.cells #[.int .i64 p] 3 (0,0)):=by simpa using blk_set a2 0 (.int .i64 p)
  have b3:=blk_far a3 (p:=⟨B+1,0,none⟩) au5 (.int .i64 p)
  have d1:=blk_far b1 (p:=⟨B+2,0,none⟩) au5 (.int .i64 x)
  have d2:=blk_far b2 (p:=⟨B+2,0,none⟩) au5 (.int .i64 x)
  have d3:(((w.setCell ⟨B,0,none⟩ (.slice none 0 0)).setCell ⟨B+1,0,none⟩ (.int .i64 p)).setCell ⟨B+2,0,none⟩ (.int .i64 x)).heap[B+2]?=some (.cells #[.int .i64 x] 33 (0,0)):=by simpa using blk_set b3 0 (.int .i64 x)
  exact ⟨(Lib.alloc_old _ _ _ (blk_lt d1)).trans d1,(Lib.alloc_old _ _ _ (blk_lt d2)).trans d2,(Lib.alloc_old _ _ _ (blk_lt d3)).trans d3⟩
 have hold:∀ k,k<B→((((w.setCell ⟨B,0,none⟩ (.slice none 0 0)).setCell ⟨B+1,0,none⟩ (.int .i64 p)).setCell ⟨B+2,0,none⟩ (.int .i64 x)).alloc (.cells #[.int .i64 p,.int .i64 x] 113 (0,0))).drew.heap[k]?=w.heap[k]?:=by
  intro k hk
  have e1:=Below.heap_setCell w ⟨B,0,none⟩ (.slice none 0 0) k (by simp only;omega)
  have e2:=Below.heap_setCell (w.setCell ⟨B,0,none⟩ (.slice none 0 0)) ⟨B+1,0,none⟩ (.int .i64 p) k (by simp only;omega)
  have e3:=Below.heap_setCell ((w.setCell ⟨B,0,none⟩ (.slice none 0 0)).setCell ⟨B+1,0,none⟩ (.int .i64 p)) ⟨B+2,0,none⟩ (.int .i64 x) k (by simp only;omega)
  exact(Lib.alloc_old _ _ _ (by simp [World.setCell];omega)).trans (e3.trans (e2.trans e1))
 have hsz:w.heap.size≤((((w.setCell ⟨B,0,none⟩ (.slice none 0 0)).setCell ⟨B+1,0,none⟩ (.int .i64 p)).setCell ⟨B+2,0,none⟩ (.int .i64 x)).alloc (.cells #[.int .i64 p,.int .i64 x] 113 (0,0))).drew.heap.size:=by
  show w.heap.size≤(World.alloc _ _).heap.size
  rw [World.size_alloc]
  simp [World.setCell]
 have hot:(((((w.setCell ⟨B,0,none⟩ (.slice none 0 0)).setCell ⟨B+1,0,none⟩ (.int .i64 p)).setCell ⟨B+2,0,none⟩ (.int .i64 x)).alloc (.cells #[.int .i64 p,.int .i64 x] 113 (0,0))).drew).os=w.os∧(((((w.setCell ⟨B,0,none⟩ (.slice none 0 0)).setCell ⟨B+1,0,none⟩ (.int .i64 p)).setCell ⟨B+2,0,none⟩ (.int .i64 x)).alloc (.cells #[.int .i64 p,.int .i64 x] 113 (0,0))).drew).tape=w.tape∧(((((w.setCell ⟨B,0,none⟩ (.slice none 0 0)).setCell ⟨B+1,0,none⟩ (.int .i64 p)).setCell ⟨B+2,0,none⟩ (.int .i64 x)).alloc (.cells #[.int .i64 p,.int .i64 x] 113 (0,0))).drew).output=w.output:=⟨rfl,rfl,rfl⟩
 clear g0 g1 g2 c0 c1 c2 cz0
 generalize ((((w.setCell ⟨B,0,none⟩ (.slice none 0 0)).setCell ⟨B+1,0,none⟩ (.int .i64 p)).setCell ⟨B+2,0,none⟩ (.int .i64 x)).alloc (.cells #[.int .i64 p,.int .i64 x] 113 (0,0))).drew=W at hres hold hsz hot
 have hp:∀(e:Ending) (u':FrameMode),(e=.returned (.tuple #[])∧u'=.panicking ({ v:=.iface 113 (.agg #[.int .i64 p,.int .i64 x]),recovered:=true } :: older))→(e=.returned (.tuple #[])∧u'=.panicking ({ v:=.iface 113 (.agg #[.int .i64 p,.int .i64 x]),recovered:=true } :: older)∧Res3 W B (.slice none 0 0) p x∧(∀ k,k<B→W.heap[k]?=w.heap[k]?)∧w.heap.size≤W.heap.size∧W.os=w.os∧W.tape=w.tape∧W.output=w.output) :=
  fun e u' h=>⟨h.1,h.2,hres,hold,hsz,hot⟩
 clear hres hold hsz hot hb0 hb1 hb2 h
 exact ⟨rfl,_,rfl,.tuple #[],results_none rfl _ _ _,hp _ _ ⟨rfl,rfl⟩⟩
set_option maxHeartbeats 1000000 in
set_option maxRecDepth 100000 in
theorem catch_idle (B:Nat) (v:Value) (a0 e0:Int) (w:World) (h:Res3 w B v a0 e0) :
  CallsD Tryd.prog 68 #[.pointer (some ⟨B,0,none⟩),.pointer (some ⟨B+1,0,none⟩),.pointer (some ⟨B+2,0,none⟩)] .returning w fun e u' w'=>e=.returned (.tuple #[])∧u'=.returning∧Below w.heap.size w w':=by
 have ta:∀ W,(Instr.typeAssert .nilIface 20 113 true).run Tryd.prog W=.ok (.tuple #[.agg #[.int .i64 0,.int .i64 0],.bool false]) W:=fun _=>by kernel_rfl
 refine callsD_of_wpS Tryd.func68 rfl fun c₀ cs hu=>?_
 apply wpS_seq
 apply wpS_region
 simp [wpOpsS,go_sem,recoverD,hu,Tryd.ntmps68,Exit.thenS,ta,Array.replicate]
 clear ta
 apply wpS_seq
 apply wpS_region
 simp [wpOpsS,go_sem,Exit.thenS]
 refine wpS_cond (t:=false) (by simp [Act.eval]) ?_
 simp only [Bool.false_eq_true,if_false]
 refine wpS_of_wp (wp_skip ?_)
 have hb:Below w.heap.size w (w.alloc (.cells #[.int .i64 0,.int .i64 0] 113 (0,0))):=(Below.refl _ _).alloc (Nat.le_refl _) _
 exact ⟨rfl,.returning,by cases c₀;simp_all,.tuple #[],results_none rfl _ _ _,rfl,rfl,hb⟩
end Go.Proofs.YtjehflambbjoaaaDoor.X
