/-
  What the claim's law rests on, part 4 of 8: printed walks, externals, plain lemmas; conditions: none of its own.
-/
import Derived.Lib.Replace
import Derived.Lib.SplitLaws
import Derived.Test.YtjehflambbjoaaaDoorMa3
namespace Go.Proofs.YtjehflambbjoaaaDoor.X
open Go.RowKit Go.Proofs.YtjehflambbjoaaaDoorW.PrintWords
set_option linter.unusedVariables false
set_option linter.unusedSimpArgs false
theorem node_at2 {w0 w : World} {ad : Addr} {N : Nat} {l pre post : List Nd} {x : Nd} (h : Kd.C kN w0 (some ad) N l) (hN : N = l.length) (hl : l = pre ++ x :: post) (hb : Below w0.heap.size w0 w) :
  w.cell? (ad.add (pre.length * 5)) = some (.int .i64 x.f0) ∧ w.cell? ⟨(ad.add (pre.length * 5)).block,(ad.add (pre.length * 5)).off + 1,none⟩ = some (.int .i64 x.f1) ∧ w.cell? ⟨(ad.add (pre.length * 5)).block,(ad.add (pre.length * 5)).off + 2,none⟩ = some (.int .i64 x.f2) ∧ w.cell? ⟨(ad.add (pre.length * 5)).block,(ad.add (pre.length * 5)).off + 3,none⟩ = some (.string x.f3) ∧ w.cell? ⟨(ad.add (pre.length * 5)).block,(ad.add (pre.length * 5)).off + 4,none⟩ = some (.string x.f4):=by
 subst hN hl
 obtain ⟨ad',e,h0,h1,h2,h3,h4⟩:=node_at h hb
 cases e
 exact ⟨h0,h1,h2,h3,h4⟩
theorem F.part (f : F) : f = .nil ∨ ∃ (t r : F) (key : Bs) (x : Nd) (tl : List Nd),t ∈ f.trees ∧ (∀ u ∈ r.trees,u ∈ f.trees) ∧ f.flat = t.flat ++ r.flat ∧ t.flat = x :: tl ∧ x.f3 = str key ∧ f.count = r.count + 1 ∧
  ∀ ob first,f.out ob first = (if first then [] else [44]) ++ (if ob then quote key ++ [58] else []) ++ t.out false true ++ r.out ob false:=by
 cases f with
 | nil => exact .inl rfl
 | leaf k d t r =>
  refine .inr ⟨.leaf k d t .nil,r,k,_,_,by simp [F.trees],fun u hu => by simp [F.trees,hu],by simp [F.flat],rfl,rfl,rfl,fun ob first => ?_⟩
  simp [F.out]
 | node k d ks r =>
  refine .inr ⟨.node k d ks .nil,r,k,_,_,by simp [F.trees],fun u hu => by simp [F.trees,hu],by simp [F.flat],rfl,rfl,rfl,fun ob first => ?_⟩
  simp [F.out]
theorem F.cnt_le : ∀ f : F,f.count ≤ f.flat.length
 | .nil => Nat.le_refl _
 | .leaf k d t r => by simp only [F.count,F.flat,List.length_cons];have:=F.cnt_le r;omega
 | .node k d ks r => by simp only [F.count,F.flat,List.length_cons,List.length_append];have:=F.cnt_le r;omega
theorem wb (B b : Nat) (l : List UInt8) (c : UInt8) (C : Int) (hC : (c.toNat : Int) = C) (w : World) (h : Bld B b l w) (hlen : l.length + 1 ≤ 140737488355328) (hBw : B ≤ w.heap.size) :
  Calls Tryd.prog 45 #[.pointer (some ⟨b,0,none⟩),.int .u8 C] w fun e w' => (∃ x,e = .returned x) ∧ Bld B b (l ++ [c]) w' ∧ Below B w w' ∧ Spare b w w':=by
 subst hC
 exact writeByte_spare B b l c w h hlen hBw
theorem WriteOk.use {t : F} (h : WriteOk t) (B b : Nat) (ad : Addr) (cp N : Nat) (l pre post : List Nd) (acc : Bs) (w0 w : World) (hN : N = l.length) (hl : l = pre ++ t.flat ++ post) (hcp : N ≤ cp) (hlen : N ≤ 1099511627776) (hbig : acc.length + (t.out false true).length ≤ big)
  (hC : Kd.C kN w0 (some ad) N l) (hB : w0.heap.size ≤ B) (hbel : Below w0.heap.size w0 w) (hbld : Bld B b acc w) :
  Calls Tryd.prog 37 #[.pointer (some ⟨b,0,none⟩),.slice (some ad) N cp,.int .i64 (pre.length : Int)] w fun e w' => e = .returned (.int .i64 ((pre.length + t.flat.length : Nat) : Int)) ∧ Bld B b (acc ++ t.out false true) w' ∧ Below B w w' ∧ Spare b w w':=by
 subst hN hl
 exact h B b (some ad) cp pre post acc w0 w hcp hlen hbig hC hB hbel hbld
set_option maxHeartbeats 1000000 in
set_option maxRecDepth 100000 in
theorem many_list (k : Bs) (ks : F) (hks : ∀ t ∈ ks.trees,WriteOk t) (B b : Nat) (ad : Addr) (cp N : Nat) (pre post : List Nd) (acc : Bs) (w0 w : World) (hN : N = (pre ++ (F.node k 6 ks .nil).flat ++ post).length) (hcp : N ≤ cp) (hlen : N ≤ 1099511627776) (hbig : acc.length + (ks.out false true).length + 2 ≤ big)
  (hC : Kd.C kN w0 (some ad) N (pre ++ (F.node k 6 ks .nil).flat ++ post)) (hB : w0.heap.size ≤ B) (hbel : Below w0.heap.size w0 w) (hbld : Bld B b acc w) :
  Calls Tryd.prog 53 #[.pointer (some ⟨b,0,none⟩),.slice (some ad) N cp,.int .i64 (pre.length : Int)] w fun e w' => e = .returned (.tuple #[]) ∧ Bld B b (acc ++ (91 :: (ks.out false true ++ [93]))) w' ∧ Below B w w' ∧ Spare b w w':=by
 generalize hl : pre ++ (F.node k 6 ks .nil).flat ++ post = l at hN hC
 have hls : l = pre ++ (⟨6,((ks.flat.length + 1 : Nat) : Int),(ks.count : Nat),str k,str []⟩ : Nd) :: (ks.flat ++ post):=by rw [← hl];simp [F.flat]
 have HC:=Lib.hid hC
 have HNL:=Lib.hid hN
 have HLS:=Lib.hid hls
 have hp : pre.length < N:=by rw [hN,hls];simp
 have HBEL:=Lib.hid hbel
 have HBLD:=Lib.hid hbld
 have HBIG:=Lib.hid hbig
 have HL:=Lib.hid hlen
 have HKS:=Lib.hid hks
 have HBB:=Lib.hid hB
 clear hks hl hls hN hC hbel hbld hbig hB
 obtain ⟨k0,k1,k2,k3,k4⟩:=node_at2 HC.out HNL.out HLS.out HBEL.out
 simp only at k0 k2
 clear k1 k3 k4
 have p1 : (0 ≤ (pre.length : Int)) = True:=eq_true (by omega)
 have p2 : ((pre.length : Int) < (N : Int)) = True:=eq_true (by omega)
 have n1 : wrap64 ((pre.length : Int) + 1) = ((pre.length + 1 : Nat) : Int):=by have:=HL.out;unfold wrap64;omega
 have HW1:=Lib.hid n1
 clear n1 hlen
 have E0 : ∀ h : 0 < ByteArray.size ⟨#[91,93]⟩,(((⟨#[91,93]⟩ : ByteArray)[0]'h).toNat : Int) = ((91 : UInt8).toNat : Int):=fun _ => rfl
 have E1 : ∀ h : 1 < ByteArray.size ⟨#[91,93]⟩,(((⟨#[91,93]⟩ : ByteArray)[1]'h).toNat : Int) = ((93 : UInt8).toNat : Int):=fun _ => rfl
 go_enter Tryd.func53,Tryd.ntmps53
 go_wp2_with (go_at_call 45;refine (writeByte_spare B b acc 91 _ HBLD.out (by have:=HBIG.out;unfold big at this;omega) HBLD.out.lt).mono ?_;rintro e w1 ⟨⟨x,rfl⟩,hb1,hbel1,hs1⟩;have HB1 : Hid (Bld B b (acc ++ [91]) w1):=Lib.hid hb1;have HBL1:=Lib.hid hbel1;have HS1:=Lib.hid hs1;have HBE1 : Hid (Below w0.heap.size w0 w1):=Lib.hid (HBEL.out.trans (hbel1.mono HBB.out));clear hb1 hbel1 hs1;obtain ⟨k0,k1,k2,k3,k4⟩:=node_at2 HC.out HNL.out HLS.out HBE1.out;clear k1 k3 k4)
 rw [HW1.out]
 go_loopg [7,26] ks.count (fun n x7 x26 wr => ∃ (i p : Nat) (f : F) (mid : List Nd) (o : Bs),x7 = .int .i64 (p : Int) ∧ x26 = .int .i64 (i : Int) ∧ Hid (ks.flat = mid ++ f.flat ∧ p = pre.length + 1 + mid.length ∧ i + f.count = ks.count ∧ f.count ≤ n ∧ o ++ f.out false (decide (i = 0)) = ks.out false true ∧ ∀ t ∈ f.trees,WriteOk t) ∧ Hid (Bld B b (acc ++ [91] ++ o) wr) ∧ Hid (Below B w wr ∧ Spare b w wr))
 case atStart => exact ⟨0,pre.length + 1,ks,[],[],rfl,rfl,Lib.hid ⟨rfl,rfl,by simp,Nat.le_refl _,by simp,HKS.out⟩,Lib.hid (by simpa using HB1.out),Lib.hid ⟨HBL1.out,HS1.out⟩⟩
 case round =>
  obtain ⟨i,p,f,mid,o,rfl,rfl,HM,HBR,HBL⟩:=hrel
  have HBE : Hid (Below w0.heap.size w0 wr):=Lib.hid (HBEL.out.trans (HBL.out.1.mono HBB.out))
  rcases F.part f with hf|⟨t,r,key,x,tl,hin,hrest,hfl,htl,hkey,hcnt,hout⟩
  ·have HM0:=HM.out
   rw [hf] at HM0
   have HM2:=Lib.hid HM0
   have d1 : decide (i < ks.count) = false:=decide_eq_false (by have:=HM0.2.2.1;simp [F.count] at this;omega)
   clear HM0 hf
   go_wp2_with (go_at_call 45;refine (writeByte_spare B b (acc ++ [91] ++ o) 93 _ HBR.out (by have h1:=HBIG.out;have h2:=congrArg List.length HM2.out.2.2.2.2.1;unfold big at h1;simp only [List.length_append,List.length_cons,List.length_nil,F.out] at h1 h2 ⊢;omega) HBR.out.lt).mono ?_;rintro e w2 ⟨⟨x,rfl⟩,hb2,hbel2,hs2⟩;have HB2 : Hid (Bld B b (acc ++ [91] ++ o ++ [93]) w2):=Lib.hid hb2;have HBL2:=Lib.hid hbel2;have HS2:=Lib.hid hs2;clear hb2 hbel2 hs2)
   go_end0
   refine ⟨rfl,?_,HBL.out.1.trans HBL2.out,HBL.out.2.trans HS2.out⟩
   have he:=HM2.out.2.2.2.2.1
   simp only [F.out,List.append_nil] at he
   rw [← he]
   simpa using HB2.out
  ·have d1 : decide (i < ks.count) = true:=decide_eq_true (by have:=HM.out.2.2.1;omega)
   obtain ⟨k0,k1,k2,k3,k4⟩:=node_at2 HC.out HNL.out HLS.out HBE.out
   simp only at k0
   clear k1 k2 k3 k4
   have HT : Hid (WriteOk t):=Lib.hid (HM.out.2.2.2.2.2 t hin)
   have hl2 : l = (pre ++ [(⟨6,((ks.flat.length + 1 : Nat) : Int),(ks.count : Nat),str k,str []⟩ : Nd)] ++ mid) ++ t.flat ++ (r.flat ++ post):=by
    rw [HLS.out,HM.out.1,hfl]
    simp
   have hp2 : (pre ++ [(⟨6,((ks.flat.length + 1 : Nat) : Int),(ks.count : Nat),str k,str []⟩ : Nd)] ++ mid).length = p:=by rw [HM.out.2.1];simp;omega
   generalize hpre2 : pre ++ [(⟨6,((ks.flat.length + 1 : Nat) : Int),(ks.count : Nat),str k,str []⟩ : Nd)] ++ mid = pre2 at hl2 hp2
   have hpN : p + t.flat.length ≤ N:=by rw [HNL.out,hl2,← hp2];simp
   have hpN1 : p < N:=by rw [htl] at hpN;simp at hpN;omega
   subst hp2
   have HL2:=Lib.hid hl2
   have HRES:=Lib.hid hrest
   have HFL:=Lib.hid hfl
   have HCNT:=Lib.hid hcnt
   have HOUT:=Lib.hid (hout false (decide (i = 0)))
   have hl3 : l = pre2 ++ x :: (tl ++ (r.flat ++ post)):=by rw [hl2,htl];simp
   have HL3:=Lib.hid hl3
   have HKEY:=Lib.hid hkey
   have v1 : (0 ≤ (pre2.length : Int)) = True:=eq_true (by omega)
   have v2 : ((pre2.length : Int) < (N : Int)) = True:=eq_true (by omega)
   have HSZ : Hid (acc.length + 1 + (o ++ f.out false (decide (i = 0))).length + 1 ≤ big):=Lib.hid (by rw [HM.out.2.2.2.2.1];have:=HBIG.out;omega)
   have HNEXT : Hid (∀ (wx : World) (j : Bs),j = (if decide (i = 0) = true then [] else [44]) ++ (if false = true then quote key ++ [58] else []) ++ t.out false true → Bld B b (acc ++ [91] ++ o ++ j) wx → (Below B w wx ∧ Spare b w wx) → ∃ (i' p' : Nat) (f' : F) (mid' : List Nd) (o' : Bs),Value.int .i64 ((pre2.length + t.flat.length : Nat) : Int) = .int .i64 (p' : Int) ∧ Value.int .i64 (wrap64 ((i : Int) + 1)) = .int .i64 (i' : Int) ∧ Hid (ks.flat = mid' ++ f'.flat ∧ p' = pre.length + 1 + mid'.length ∧ i' + f'.count = ks.count ∧ f'.count ≤ r.count ∧ o' ++ f'.out false (decide (i' = 0)) = ks.out false true ∧ ∀ t ∈ f'.trees,WriteOk t) ∧ Hid (Bld B b (acc ++ [91] ++ o') wx) ∧ Hid (Below B w wx ∧ Spare b w wx)):=Lib.hid (by
    intro wx j hj hbx hlx
    have hM:=HM.out
    refine ⟨i + 1,pre2.length + t.flat.length,r,mid ++ t.flat,o ++ j,rfl,?_,Lib.hid ⟨?_,?_,?_,Nat.le_refl _,?_,fun u hu => hM.2.2.2.2.2 u (hrest u hu)⟩,Lib.hid (by simpa using hbx),Lib.hid hlx⟩
    ·have h1:=hM.2.2.1
     have h2:=HNL.out
     have h3:=F.cnt_le ks
     have h4:=congrArg List.length HLS.out
     simp at h4
     rw [show wrap64 ((i : Int) + 1) = (i : Int) + 1 by have:=HL.out;unfold wrap64;omega]
     simp
    ·rw [hM.1,hfl]
     simp
    ·rw [hM.2.1]
     simp
     omega
    ·have:=hM.2.2.1
     omega
    ·have h5:=hM.2.2.2.2.1
     rw [hout false (decide (i = 0))] at h5
     rw [← h5,hj]
     simp)
   clear hin hrest hfl htl hkey hcnt hout hl2 hpre2 hl3 hpN
   by_cases hi : i = 0
   ·have d2 : decide (0 < i) = false:=decide_eq_false (by omega)
    have HI:=Lib.hid hi
    have HTXT : Hid (f.out false (decide (i = 0)) = (t.out false true) ++ r.out false false):=Lib.hid (by rw [HOUT.out];simp [hi])
    have HSZ2 : Hid (acc.length + 1 + o.length + (t.out false true).length + 2 ≤ big + 1):=Lib.hid (by have h1:=HSZ.out;rw [HTXT.out] at h1;simp only [List.length_append,List.length_cons,List.length_nil] at h1;omega)
    clear hi
    go_wp2_with (first
     | (go_at_call 37;refine (HT.out.use B b ad cp N l pre2 (r.flat ++ post) (acc ++ [91] ++ o) w0 _ HNL.out HL2.out hcp HL.out (by have h1:=HSZ2.out;simp only [List.length_append,List.length_cons,List.length_nil] at h1 ⊢;omega) HC.out HBB.out HBE.out HBR.out).mono ?_;rintro e w4 ⟨rfl,hb4,hbel4,hs4⟩;have HB4 : Hid (Bld B b (acc ++ [91] ++ o ++ t.out false true) w4):=Lib.hid hb4;have HBL4 : Hid (Below B w w4):=Lib.hid (HBL.out.1.trans hbel4);have HS4 : Hid (Spare b w w4):=Lib.hid (HBL.out.2.trans hs4);have HBE4 : Hid (Below w0.heap.size w0 w4):=Lib.hid (HBEL.out.trans (HBL4.out.mono HBB.out));clear hb4 hbel4 hs4))
    go_roundg r.count
    case measure => have h1:=HM.out.2.2.2.1;have h2:=HCNT.out;omega
    case rel => exact HNEXT.out _ (t.out false true) (by simp [HI.out]) (by simpa using HB4.out) ⟨HBL4.out,HS4.out⟩
   ·have d2 : decide (0 < i) = true:=decide_eq_true (by omega)
    have HI:=Lib.hid hi
    have HTXT : Hid (f.out false (decide (i = 0)) = [44] ++ (t.out false true) ++ r.out false false):=Lib.hid (by rw [HOUT.out];simp [hi])
    have HSZ2 : Hid (acc.length + 1 + o.length + 1 + (t.out false true).length + 2 ≤ big + 1):=Lib.hid (by have h1:=HSZ.out;rw [HTXT.out] at h1;simp only [List.length_append,List.length_cons,List.length_nil] at h1;omega)
    clear hi
    go_wp2_with (first
     | (go_at_call 45;refine (wb B b (acc ++ [91] ++ o) 44 44 rfl _ HBR.out (by have h1:=HSZ2.out;unfold big at h1;simp only [List.length_append,List.length_cons,List.length_nil] at h1 ⊢;omega) HBR.out.lt).mono ?_;rintro e w4 ⟨⟨y4,rfl⟩,hb4,hbel4,hs4⟩;have HB4 : Hid (Bld B b (acc ++ [91] ++ o ++ [44]) w4):=Lib.hid hb4;have HBL4 : Hid (Below B w w4):=Lib.hid (HBL.out.1.trans hbel4);have HS4 : Hid (Spare b w w4):=Lib.hid (HBL.out.2.trans hs4);have HBE4 : Hid (Below w0.heap.size w0 w4):=Lib.hid (HBEL.out.trans (HBL4.out.mono HBB.out));clear hb4 hbel4 hs4;obtain ⟨k0,k1,k2,k3,k4⟩:=node_at2 HC.out HNL.out HLS.out HBE4.out;clear k1 k2 k3 k4)
     | (go_at_call 37;refine (HT.out.use B b ad cp N l pre2 (r.flat ++ post) (acc ++ [91] ++ o ++ [44]) w0 _ HNL.out HL2.out hcp HL.out (by have h1:=HSZ2.out;simp only [List.length_append,List.length_cons,List.length_nil] at h1 ⊢;omega) HC.out HBB.out HBE4.out HB4.out).mono ?_;rintro e w5 ⟨rfl,hb5,hbel5,hs5⟩;have HB5 : Hid (Bld B b (acc ++ [91] ++ o ++ [44] ++ t.out false true) w5):=Lib.hid hb5;have HBL5 : Hid (Below B w w5):=Lib.hid (HBL4.out.trans hbel5);have HS5 : Hid (Spare b w w5):=Lib.hid (HS4.out.trans hs5);have HBE5 : Hid (Below w0.heap.size w0 w5):=Lib.hid (HBEL.out.trans (HBL5.out.mono HBB.out));clear hb5 hbel5 hs5))
    go_roundg r.count
    case measure => have h1:=HM.out.2.2.2.1;have h2:=HCNT.out;omega
    case rel => exact HNEXT.out _ ([44] ++ t.out false true) (by simp [HI.out]) (by simpa using HB5.out) ⟨HBL5.out,HS5.out⟩
set_option maxHeartbeats 1000000 in
set_option maxRecDepth 100000 in
theorem many_obj (k : Bs) (ks : F) (hks : ∀ t ∈ ks.trees,WriteOk t) (B b : Nat) (ad : Addr) (cp N : Nat) (pre post : List Nd) (acc : Bs) (w0 w : World) (hN : N = (pre ++ (F.node k 7 ks .nil).flat ++ post).length) (hcp : N ≤ cp) (hlen : N ≤ 1099511627776) (hbig : acc.length + (ks.out true true).length + 2 ≤ big)
  (hC : Kd.C kN w0 (some ad) N (pre ++ (F.node k 7 ks .nil).flat ++ post)) (hB : w0.heap.size ≤ B) (hbel : Below w0.heap.size w0 w) (hbld : Bld B b acc w) :
  Calls Tryd.prog 53 #[.pointer (some ⟨b,0,none⟩),.slice (some ad) N cp,.int .i64 (pre.length : Int)] w fun e w' => e = .returned (.tuple #[]) ∧ Bld B b (acc ++ (123 :: (ks.out true true ++ [125]))) w' ∧ Below B w w' ∧ Spare b w w':=by
 generalize hl : pre ++ (F.node k 7 ks .nil).flat ++ post = l at hN hC
 have hls : l = pre ++ (⟨7,((ks.flat.length + 1 : Nat) : Int),(ks.count : Nat),str k,str []⟩ : Nd) :: (ks.flat ++ post):=by rw [← hl];simp [F.flat]
 have HC:=Lib.hid hC
 have HNL:=Lib.hid hN
 have HLS:=Lib.hid hls
 have hp : pre.length < N:=by rw [hN,hls];simp
 have HBEL:=Lib.hid hbel
 have HBLD:=Lib.hid hbld
 have HBIG:=Lib.hid hbig
 have HL:=Lib.hid hlen
 have HKS:=Lib.hid hks
 have HBB:=Lib.hid hB
 clear hks hl hls hN hC hbel hbld hbig hB
 obtain ⟨k0,k1,k2,k3,k4⟩:=node_at2 HC.out HNL.out HLS.out HBEL.out
 simp only at k0 k2
 clear k1 k3 k4
 have p1 : (0 ≤ (pre.length : Int)) = True:=eq_true (by omega)
 have p2 : ((pre.length : Int) < (N : Int)) = True:=eq_true (by omega)
 have n1 : wrap64 ((pre.length : Int) + 1) = ((pre.length + 1 : Nat) : Int):=by have:=HL.out;unfold wrap64;omega
 have HW1:=Lib.hid n1
 clear n1 hlen
 have E0 : ∀ h : 0 < ByteArray.size ⟨#[123,125]⟩,(((⟨#[123,125]⟩ : ByteArray)[0]'h).toNat : Int) = ((123 : UInt8).toNat : Int):=fun _ => rfl
 have E1 : ∀ h : 1 < ByteArray.size ⟨#[123,125]⟩,(((⟨#[123,125]⟩ : ByteArray)[1]'h).toNat : Int) = ((125 : UInt8).toNat : Int):=fun _ => rfl
 go_enter Tryd.func53,Tryd.ntmps53
 go_wp2_with (go_at_call 45;refine (writeByte_spare B b acc 123 _ HBLD.out (by have:=HBIG.out;unfold big at this;omega) HBLD.out.lt).mono ?_;rintro e w1 ⟨⟨x,rfl⟩,hb1,hbel1,hs1⟩;have HB1 : Hid (Bld B b (acc ++ [123]) w1):=Lib.hid hb1;have HBL1:=Lib.hid hbel1;have HS1:=Lib.hid hs1;have HBE1 : Hid (Below w0.heap.size w0 w1):=Lib.hid (HBEL.out.trans (hbel1.mono HBB.out));clear hb1 hbel1 hs1;obtain ⟨k0,k1,k2,k3,k4⟩:=node_at2 HC.out HNL.out HLS.out HBE1.out;clear k1 k3 k4)
 rw [HW1.out]
 go_loopg [7,26] ks.count (fun n x7 x26 wr => ∃ (i p : Nat) (f : F) (mid : List Nd) (o : Bs),x7 = .int .i64 (p : Int) ∧ x26 = .int .i64 (i : Int) ∧ Hid (ks.flat = mid ++ f.flat ∧ p = pre.length + 1 + mid.length ∧ i + f.count = ks.count ∧ f.count ≤ n ∧ o ++ f.out true (decide (i = 0)) = ks.out true true ∧ ∀ t ∈ f.trees,WriteOk t) ∧ Hid (Bld B b (acc ++ [123] ++ o) wr) ∧ Hid (Below B w wr ∧ Spare b w wr))
 case atStart => exact ⟨0,pre.length + 1,ks,[],[],rfl,rfl,Lib.hid ⟨rfl,rfl,by simp,Nat.le_refl _,by simp,HKS.out⟩,Lib.hid (by simpa using HB1.out),Lib.hid ⟨HBL1.out,HS1.out⟩⟩
 case round =>
  obtain ⟨i,p,f,mid,o,rfl,rfl,HM,HBR,HBL⟩:=hrel
  have HBE : Hid (Below w0.heap.size w0 wr):=Lib.hid (HBEL.out.trans (HBL.out.1.mono HBB.out))
  rcases F.part f with hf|⟨t,r,key,x,tl,hin,hrest,hfl,htl,hkey,hcnt,hout⟩
  ·have HM0:=HM.out
   rw [hf] at HM0
   have HM2:=Lib.hid HM0
   have d1 : decide (i < ks.count) = false:=decide_eq_false (by have:=HM0.2.2.1;simp [F.count] at this;omega)
   clear HM0 hf
   go_wp2_with (go_at_call 45;refine (writeByte_spare B b (acc ++ [123] ++ o) 125 _ HBR.out (by have h1:=HBIG.out;have h2:=congrArg List.length HM2.out.2.2.2.2.1;unfold big at h1;simp only [List.length_append,List.length_cons,List.length_nil,F.out] at h1 h2 ⊢;omega) HBR.out.lt).mono ?_;rintro e w2 ⟨⟨x,rfl⟩,hb2,hbel2,hs2⟩;have HB2 : Hid (Bld B b (acc ++ [123] ++ o ++ [125]) w2):=Lib.hid hb2;have HBL2:=Lib.hid hbel2;have HS2:=Lib.hid hs2;clear hb2 hbel2 hs2)
   go_end0
   refine ⟨rfl,?_,HBL.out.1.trans HBL2.out,HBL.out.2.trans HS2.out⟩
   have he:=HM2.out.2.2.2.2.1
   simp only [F.out,List.append_nil] at he
   rw [← he]
   simpa using HB2.out
  ·have d1 : decide (i < ks.count) = true:=decide_eq_true (by have:=HM.out.2.2.1;omega)
   obtain ⟨k0,k1,k2,k3,k4⟩:=node_at2 HC.out HNL.out HLS.out HBE.out
   simp only at k0
   clear k1 k2 k3 k4
   have HT : Hid (WriteOk t):=Lib.hid (HM.out.2.2.2.2.2 t hin)
   have hl2 : l = (pre ++ [(⟨7,((ks.flat.length + 1 : Nat) : Int),(ks.count : Nat),str k,str []⟩ : Nd)] ++ mid) ++ t.flat ++ (r.flat ++ post):=by
    rw [HLS.out,HM.out.1,hfl]
    simp
   have hp2 : (pre ++ [(⟨7,((ks.flat.length + 1 : Nat) : Int),(ks.count : Nat),str k,str []⟩ : Nd)] ++ mid).length = p:=by rw [HM.out.2.1];simp;omega
   generalize hpre2 : pre ++ [(⟨7,((ks.flat.length + 1 : Nat) : Int),(ks.count : Nat),str k,str []⟩ : Nd)] ++ mid = pre2 at hl2 hp2
   have hpN : p + t.flat.length ≤ N:=by rw [HNL.out,hl2,← hp2];simp
   have hpN1 : p < N:=by rw [htl] at hpN;simp at hpN;omega
   subst hp2
   have HL2:=Lib.hid hl2
   have HRES:=Lib.hid hrest
   have HFL:=Lib.hid hfl
   have HCNT:=Lib.hid hcnt
   have HOUT:=Lib.hid (hout true (decide (i = 0)))
   have hl3 : l = pre2 ++ x :: (tl ++ (r.flat ++ post)):=by rw [hl2,htl];simp
   have HL3:=Lib.hid hl3
   have HKEY:=Lib.hid hkey
   have v1 : (0 ≤ (pre2.length : Int)) = True:=eq_true (by omega)
   have v2 : ((pre2.length : Int) < (N : Int)) = True:=eq_true (by omega)
   have HSZ : Hid (acc.length + 1 + (o ++ f.out true (decide (i = 0))).length + 1 ≤ big):=Lib.hid (by rw [HM.out.2.2.2.2.1];have:=HBIG.out;omega)
   have HNEXT : Hid (∀ (wx : World) (j : Bs),j = (if decide (i = 0) = true then [] else [44]) ++ (if true = true then quote key ++ [58] else []) ++ t.out false true → Bld B b (acc ++ [123] ++ o ++ j) wx → (Below B w wx ∧ Spare b w wx) → ∃ (i' p' : Nat) (f' : F) (mid' : List Nd) (o' : Bs),Value.int .i64 ((pre2.length + t.flat.length : Nat) : Int) = .int .i64 (p' : Int) ∧ Value.int .i64 (wrap64 ((i : Int) + 1)) = .int .i64 (i' : Int) ∧ Hid (ks.flat = mid' ++ f'.flat ∧ p' = pre.length + 1 + mid'.length ∧ i' + f'.count = ks.count ∧ f'.count ≤ r.count ∧ o' ++ f'.out true (decide (i' = 0)) = ks.out true true ∧ ∀ t ∈ f'.trees,WriteOk t) ∧ Hid (Bld B b (acc ++ [123] ++ o') wx) ∧ Hid (Below B w wx ∧ Spare b w wx)):=Lib.hid (by
    intro wx j hj hbx hlx
    have hM:=HM.out
    refine ⟨i + 1,pre2.length + t.flat.length,r,mid ++ t.flat,o ++ j,rfl,?_,Lib.hid ⟨?_,?_,?_,Nat.le_refl _,?_,fun u hu => hM.2.2.2.2.2 u (hrest u hu)⟩,Lib.hid (by simpa using hbx),Lib.hid hlx⟩
    ·have h1:=hM.2.2.1
     have h2:=HNL.out
     have h3:=F.cnt_le ks
     have h4:=congrArg List.length HLS.out
     simp at h4
     rw [show wrap64 ((i : Int) + 1) = (i : Int) + 1 by have:=HL.out;unfold wrap64;omega]
     simp
    ·rw [hM.1,hfl]
     simp
    ·rw [hM.2.1]
     simp
     omega
    ·have:=hM.2.2.1
     omega
    ·have h5:=hM.2.2.2.2.1
     rw [hout true (decide (i = 0))] at h5
     rw [← h5,hj]
     simp)
   clear hin hrest hfl htl hkey hcnt hout hl2 hpre2 hl3 hpN
   by_cases hi : i = 0
   ·have d2 : decide (0 < i) = false:=decide_eq_false (by omega)
    have HI:=Lib.hid hi
    have HTXT : Hid (f.out true (decide (i = 0)) = (quote key ++ [58] ++ t.out false true) ++ r.out true false):=Lib.hid (by rw [HOUT.out];simp [hi])
    have HSZ2 : Hid (acc.length + 1 + o.length + (quote key).length + 1 + (t.out false true).length + 2 ≤ big + 1):=Lib.hid (by have h1:=HSZ.out;rw [HTXT.out] at h1;simp only [List.length_append,List.length_cons,List.length_nil] at h1;omega)
    clear hi
    obtain ⟨q0,q1,q2,q3,q4⟩:=node_at2 HC.out HNL.out HL3.out HBE.out
    rw [HKEY.out] at q3
    clear q0 q1 q2 q4
    go_wp2_with (first
     | (go_at_call 52;refine (quote_calls B b (str key) (acc ++ [123] ++ o) _ (by rw [str_size];have h1:=HSZ2.out;have h2:=quote_ge key;unfold big at h1;simp only [List.length_append,List.length_cons,List.length_nil] at h1 ⊢;omega) HBR.out).mono ?_;rintro e w4 ⟨rfl,hb4,hbel4,hs4⟩;have HB4 : Hid (Bld B b (acc ++ [123] ++ o ++ quote key) w4):=Lib.hid hb4;have HBL4 : Hid (Below B w w4):=Lib.hid (HBL.out.1.trans hbel4);have HS4 : Hid (Spare b w w4):=Lib.hid (HBL.out.2.trans hs4);have HBE4 : Hid (Below w0.heap.size w0 w4):=Lib.hid (HBEL.out.trans (HBL4.out.mono HBB.out));clear hb4 hbel4 hs4)
     | (go_at_call 45;refine (wb B b (acc ++ [123] ++ o ++ quote key) 58 58 rfl _ HB4.out (by have h1:=HSZ2.out;unfold big at h1;simp only [List.length_append,List.length_cons,List.length_nil] at h1 ⊢;omega) HB4.out.lt).mono ?_;rintro e w5 ⟨⟨y5,rfl⟩,hb5,hbel5,hs5⟩;have HB5 : Hid (Bld B b (acc ++ [123] ++ o ++ quote key ++ [58]) w5):=Lib.hid hb5;have HBL5 : Hid (Below B w w5):=Lib.hid (HBL4.out.trans hbel5);have HS5 : Hid (Spare b w w5):=Lib.hid (HS4.out.trans hs5);have HBE5 : Hid (Below w0.heap.size w0 w5):=Lib.hid (HBEL.out.trans (HBL5.out.mono HBB.out));clear hb5 hbel5 hs5)
     | (go_at_call 37;refine (HT.out.use B b ad cp N l pre2 (r.flat ++ post) (acc ++ [123] ++ o ++ quote key ++ [58]) w0 _ HNL.out HL2.out hcp HL.out (by have h1:=HSZ2.out;simp only [List.length_append,List.length_cons,List.length_nil] at h1 ⊢;omega) HC.out HBB.out HBE5.out HB5.out).mono ?_;rintro e w6 ⟨rfl,hb6,hbel6,hs6⟩;have HB6 : Hid (Bld B b (acc ++ [123] ++ o ++ quote key ++ [58] ++ t.out false true) w6):=Lib.hid hb6;have HBL6 : Hid (Below B w w6):=Lib.hid (HBL5.out.trans hbel6);have HS6 : Hid (Spare b w w6):=Lib.hid (HS5.out.trans hs6);have HBE6 : Hid (Below w0.heap.size w0 w6):=Lib.hid (HBEL.out.trans (HBL6.out.mono HBB.out));clear hb6 hbel6 hs6))
    go_roundg r.count
    case measure => have h1:=HM.out.2.2.2.1;have h2:=HCNT.out;omega
    case rel => exact HNEXT.out _ ((quote key ++ [58]) ++ t.out false true) (by simp [HI.out]) (by simpa using HB6.out) ⟨HBL6.out,HS6.out⟩
   ·have d2 : decide (0 < i) = true:=decide_eq_true (by omega)
    have HI:=Lib.hid hi
    have HTXT : Hid (f.out true (decide (i = 0)) = [44] ++ (quote key ++ [58] ++ t.out false true) ++ r.out true false):=Lib.hid (by rw [HOUT.out];simp [hi])
    have HSZ2 : Hid (acc.length + 1 + o.length + 1 + (quote key).length + 1 + (t.out false true).length + 2 ≤ big + 1):=Lib.hid (by have h1:=HSZ.out;rw [HTXT.out] at h1;simp only [List.length_append,List.length_cons,List.length_nil] at h1;omega)
    clear hi
    obtain ⟨q0,q1,q2,q3,q4⟩:=node_at2 HC.out HNL.out HL3.out HBE.out
    rw [HKEY.out] at q3
    clear q0 q1 q2 q4
    go_wp2_with (go_at_call 45;refine (wb B b (acc ++ [123] ++ o) 44 44 rfl _ HBR.out (by have h1:=HSZ2.out;unfold big at h1;simp only [List.length_append,List.length_cons,List.length_nil] at h1 ⊢;omega) HBR.out.lt).mono ?_;rintro e w4 ⟨⟨y4,rfl⟩,hb4,hbel4,hs4⟩;have HB4 : Hid (Bld B b (acc ++ [123] ++ o ++ [44]) w4):=Lib.hid hb4;have HBL4 : Hid (Below B w w4):=Lib.hid (HBL.out.1.trans hbel4);have HS4 : Hid (Spare b w w4):=Lib.hid (HBL.out.2.trans hs4);have HBE4 : Hid (Below w0.heap.size w0 w4):=Lib.hid (HBEL.out.trans (HBL4.out.mono HBB.out));clear hb4 hbel4 hs4;obtain ⟨k0,k1,k2,k3,k4⟩:=node_at2 HC.out HNL.out HLS.out HBE4.out;clear k1 k2 k3 k4;obtain ⟨q0,q1,q2,q3,q4⟩:=node_at2 HC.out HNL.out HL3.out HBE4.out;rw [HKEY.out] at q3;clear q0 q1 q2 q4)
    go_wp2_with (first
     | (go_at_call 52;refine (quote_calls B b (str key) (acc ++ [123] ++ o ++ [44]) _ (by rw [str_size];have h1:=HSZ2.out;have h2:=quote_ge key;unfold big at h1;simp only [List.length_append,List.length_cons,List.length_nil] at h1 ⊢;omega) HB4.out).mono ?_;rintro e w5 ⟨rfl,hb5,hbel5,hs5⟩;have HB5 : Hid (Bld B b (acc ++ [123] ++ o ++ [44] ++ quote key) w5):=Lib.hid hb5;have HBL5 : Hid (Below B w w5):=Lib.hid (HBL4.out.trans hbel5);have HS5 : Hid (Spare b w w5):=Lib.hid (HS4.out.trans hs5);have HBE5 : Hid (Below w0.heap.size w0 w5):=Lib.hid (HBEL.out.trans (HBL5.out.mono HBB.out));clear hb5 hbel5 hs5)
     | (go_at_call 45;refine (wb B b (acc ++ [123] ++ o ++ [44] ++ quote key) 58 58 rfl _ HB5.out (by have h1:=HSZ2.out;unfold big at h1;simp only [List.length_append,List.length_cons,List.length_nil] at h1 ⊢;omega) HB5.out.lt).mono ?_;rintro e w6 ⟨⟨y6,rfl⟩,hb6,hbel6,hs6⟩;have HB6 : Hid (Bld B b (acc ++ [123] ++ o ++ [44] ++ quote key ++ [58]) w6):=Lib.hid hb6;have HBL6 : Hid (Below B w w6):=Lib.hid (HBL5.out.trans hbel6);have HS6 : Hid (Spare b w w6):=Lib.hid (HS5.out.trans hs6);have HBE6 : Hid (Below w0.heap.size w0 w6):=Lib.hid (HBEL.out.trans (HBL6.out.mono HBB.out));clear hb6 hbel6 hs6)
     | (go_at_call 37;refine (HT.out.use B b ad cp N l pre2 (r.flat ++ post) (acc ++ [123] ++ o ++ [44] ++ quote key ++ [58]) w0 _ HNL.out HL2.out hcp HL.out (by have h1:=HSZ2.out;simp only [List.length_append,List.length_cons,List.length_nil] at h1 ⊢;omega) HC.out HBB.out HBE6.out HB6.out).mono ?_;rintro e w7 ⟨rfl,hb7,hbel7,hs7⟩;have HB7 : Hid (Bld B b (acc ++ [123] ++ o ++ [44] ++ quote key ++ [58] ++ t.out false true) w7):=Lib.hid hb7;have HBL7 : Hid (Below B w w7):=Lib.hid (HBL6.out.trans hbel7);have HS7 : Hid (Spare b w w7):=Lib.hid (HS6.out.trans hs7);have HBE7 : Hid (Below w0.heap.size w0 w7):=Lib.hid (HBEL.out.trans (HBL7.out.mono HBB.out));clear hb7 hbel7 hs7))
    go_roundg r.count
    case measure => have h1:=HM.out.2.2.2.1;have h2:=HCNT.out;omega
    case rel => exact HNEXT.out _ ([44] ++ (quote key ++ [58]) ++ t.out false true) (by simp [HI.out]) (by simpa using HB7.out) ⟨HBL7.out,HS7.out⟩
end Go.Proofs.YtjehflambbjoaaaDoor.X
namespace Go.Proofs.YtjehflambbjoaaaDoor.X
open Go.RowKit Go.Proofs.YtjehflambbjoaaaDoorW.PrintWords
set_option linter.unusedVariables false
set_option linter.unusedSimpArgs false
theorem many_calls2 (k : Bs) (d : Int) (hd : d = 6 ∨ d = 7) (ks : F) (hks : ∀ t ∈ ks.trees,WriteOk t) (B b : Nat) (ad : Addr) (cp N : Nat) (pre post : List Nd) (acc : Bs) (w0 w : World) (hN : N = (pre ++ (F.node k d ks .nil).flat ++ post).length) (hcp : N ≤ cp) (hlen : N ≤ 1099511627776) (hbig : acc.length + ((F.node k d ks .nil).out false true).length ≤ big)
  (hC : Kd.C kN w0 (some ad) N (pre ++ (F.node k d ks .nil).flat ++ post)) (hB : w0.heap.size ≤ B) (hbel : Below w0.heap.size w0 w) (hbld : Bld B b acc w) :
  Calls Tryd.prog 53 #[.pointer (some ⟨b,0,none⟩),.slice (some ad) N cp,.int .i64 (pre.length : Int)] w fun e w' => e = .returned (.tuple #[]) ∧ Bld B b (acc ++ (F.node k d ks .nil).out false true) w' ∧ Below B w w' ∧ Spare b w w':=by
 rcases hd with rfl|rfl
 ·have h:=many_list k ks hks B b ad cp N pre post acc w0 w hN hcp hlen (by simp [F.out] at hbig;omega) hC hB hbel hbld
  simpa [F.out] using h
 ·have h:=many_obj k ks hks B b ad cp N pre post acc w0 w hN hcp hlen (by simp [F.out] at hbig;omega) hC hB hbel hbld
  simpa [F.out] using h
set_option maxHeartbeats 4000000 in
set_option maxRecDepth 100000 in
theorem write_node (k : Bs) (d : Int) (hd : d = 6 ∨ d = 7) (ks : F) (hks : ∀ t ∈ ks.trees,WriteOk t) : WriteOk (.node k d ks .nil):=by
 intro B b A cp pre post acc w0 w hcp hlen hbig hC hB hbel hbld
 generalize hl : pre ++ (F.node k d ks .nil).flat ++ post = l at hcp hlen hC ⊢
 have hls : l = pre ++ (⟨d,((ks.flat.length + 1 : Nat) : Int),(ks.count : Nat),str k,str []⟩ : Nd) :: (ks.flat ++ post):=by rw [← hl];simp [F.flat]
 have HLS:=Lib.hid hls
 have HLL:=Lib.hid hl
 obtain ⟨ad,rfl,_⟩:=node_at (x:=⟨d,((ks.flat.length + 1 : Nat) : Int),(ks.count : Nat),str k,str []⟩) (pre:=pre) (post:=ks.flat ++ post) (by rw [← hls];exact hC) hbel
 generalize hN : l.length = N at hcp hlen hC ⊢
 have hp : pre.length < N:=by rw [← hN,hls];simp
 have HNL:=Lib.hid hN.symm
 obtain ⟨k0,k1,k2,k3,k4⟩:=node_at2 hC HNL.out hls hbel
 simp only at k0 k1 k2 k3 k4
 have p1 : (0 ≤ (pre.length : Int)) = True:=eq_true (by omega)
 have p2 : ((pre.length : Int) < (N : Int)) = True:=eq_true (by omega)
 have hfl : (F.node k d ks .nil).flat.length = ks.flat.length + 1:=by simp [F.flat]
 have hsz : pre.length + (ks.flat.length + 1) ≤ N:=by rw [← hN,hls];simp
 rw [hfl]
 obtain ⟨Z,hZ⟩ : ∃ Z : Int,Z = ((ks.flat.length + 1 : Nat) : Int):=⟨_,rfl⟩
 have HRES : Hid ((((pre.length + (ks.flat.length + 1) : Nat)) : Int) = (pre.length : Int) + Z):=Lib.hid (by omega)
 have n1 : wrap64 ((pre.length : Int) + Z) = (pre.length : Int) + Z:=by unfold wrap64;omega
 rw [← hZ] at k1
 have HW1:=Lib.hid n1
 have HBIG:=Lib.hid hbig
 have HBLD:=Lib.hid hbld
 have HL:=Lib.hid hlen
 have HC:=Lib.hid hC
 have HBB:=Lib.hid hB
 have HBE:=Lib.hid hbel
 have HKS:=Lib.hid hks
 have HD:=Lib.hid hd
 clear hbig hbld hC hbel hN hlen hl hls hfl hsz hZ n1 hks hB
 have hal:=heap_alloc_new w (.cells #[.int .i64 d,.int .i64 Z,.int .i64 (ks.count : Nat),.string (str k),.string (str [])] 24 (0,0))
 have hbw : Below w.heap.size w (w.alloc (.cells #[.int .i64 d,.int .i64 Z,.int .i64 (ks.count : Nat),.string (str k),.string (str [])] 24 (0,0))):=(Below.refl _ _).alloc (Nat.le_refl _) _
 have x0:=(blk_cell hal 0).trans (rfl : _ = some (Value.int .i64 d))
 have x1:=(blk_cell hal 1).trans (rfl : _ = some (Value.int .i64 Z))
 have HBN : Hid (Bld B b acc (w.alloc (.cells #[.int .i64 d,.int .i64 Z,.int .i64 (ks.count : Nat),.string (str k),.string (str [])] 24 (0,0)))):=Lib.hid (HBLD.out.below hbw)
 have HBW:=Lib.hid (hbw.mono HBLD.out.lt)
 have HBA:=Lib.hid hbw
 have HLT:=Lib.hid (blk_lt hal)
 have HXX:=Lib.hid hal
 have HNE : Hid (w.heap.size ≠ b):=Lib.hid (by have:=HBLD.out.blt;omega)
 clear hal hbw
 rcases hd with rfl|rfl
 all_goals
  go_enter Tryd.func37,Tryd.ntmps37
  go_wp2_with (go_at_call 53;refine (many_calls2 k _ HD.out ks HKS.out B b ad cp N pre post acc w0 _ (by rw [HLL.out];exact HNL.out) hcp HL.out HBIG.out (by rw [HLL.out];exact HC.out) HBB.out (HBE.out.trans (HBW.out.mono HBB.out)) HBN.out).mono ?_;rintro e w3 ⟨rfl,hb3,hbel3,hs3⟩;have HB3:=Lib.hid hb3;have HBEL3:=Lib.hid hbel3;have HS3:=Lib.hid hs3;have y1 : w3.cell? ⟨w.heap.size,1,none⟩ = some (.int .i64 Z):=(blk_cell (hs3.cells HXX.out (by decide) HNE.out) 1).trans rfl;clear hb3 hbel3 hs3)
  go_ret
  rw [HRES.out,HW1.out]
  exact ⟨rfl,HB3.out,HBW.out.trans HBEL3.out,(Spare.of_below (HBA.out)).trans HS3.out⟩
def F.kinds : F → Bool
 | .nil => true
 | .leaf _ d _ r => decide (1 ≤ d) && decide (d ≤ 5) && r.kinds
 | .node _ d ks r => (d == 6 || d == 7) && ks.kinds && r.kinds
theorem write_all : ∀ f : F,f.kinds = true → ∀ t ∈ f.trees,WriteOk t
 | .nil,_,t,ht => by simp [F.trees] at ht
 | .leaf k d t r,h,u,hu => by
  simp only [F.kinds,Bool.and_eq_true,decide_eq_true_eq] at h
  simp only [F.trees,List.mem_cons] at hu
  rcases hu with rfl|hu
  ·exact write_leaf k d t h.1 
  ·exact write_all r h.2 u hu
 | .node k d ks r,h,u,hu => by
  simp only [F.kinds,Bool.and_eq_true,Bool.or_eq_true,beq_iff_eq] at h
  simp only [F.trees,List.mem_cons] at hu
  rcases hu with rfl|hu
  ·exact write_node k d h.1.1 ks (write_all ks h.1.2)
  ·exact write_all r h.2 u hu
end Go.Proofs.YtjehflambbjoaaaDoor.X
namespace Go.Proofs.YtjehflambbjoaaaDoor.X
open Go.RowKit Go.Proofs.YtjehflambbjoaaaDoorW.PrintWords
set_option linter.unusedVariables false
set_option linter.unusedSimpArgs false
def isNum (t : Bs) : Bool:=match num t with
 | .ok [] _ => true
 | _ => false
def okN (x : Nd) (keyed : Bool) : Bool :=
 decide (1 ≤ x.f0) && decide (x.f0 ≤ 7) && decide (0 ≤ x.f2) && (decide (x.f2 ≤ 0) || decide (6 ≤ x.f0)) && (x.f3.data.toList.isEmpty || keyed) && Lib.validD x.f3.data.toList &&
 (if x.f0 = 4 then decide (x.f4.size ≤ 65536) && isNum x.f4.data.toList else if x.f0 = 5 then Lib.validD x.f4.data.toList else x.f4.data.toList.isEmpty)
def kids (one : List Nd → Option (F × List Nd)) : Nat → List Nd → Option (F × List Nd)
 | 0,l => some (.nil,l)
 | n + 1,l => match one l with
  | none => none
  | some (t,r) => match kids one n r with
   | none => none
   | some (f,r') => some (t.app f,r')
def dec : Nat → Bool → List Nd → Option (F × List Nd)
 | 0,_,_ => none
 | d + 1,keyed,l => match l with
  | [] => none
  | x :: r => if okN x keyed then match kids (dec d (x.f0 == 7)) x.f2.toNat r with
    | none => none
    | some (ks,r') => if x.f1 = ((r.length - r'.length + 1 : Nat) : Int) then some (if x.f0 < 6 then .leaf x.f3.data.toList x.f0 x.f4.data.toList .nil else .node x.f3.data.toList x.f0 ks .nil,r') else none
   else none
def tree? (l : List Nd) : Option F:=match dec 32 false l with
 | some (t,[]) => some t
 | _ => none
def F.one : F → Prop
 | .leaf _ _ _ .nil => True
 | .node _ _ _ .nil => True
 | _ => False
theorem F.one_count {t : F} (h : t.one) : t.count = 1:=by
 match t,h with
 | .leaf _ _ _ .nil,_ => rfl
 | .node _ _ _ .nil,_ => rfl
theorem str_back (s : ByteArray) : str s.data.toList = s:=by
 cases s
 rfl
def DecOk (one : List Nd → Option (F × List Nd)) : Prop:=∀ l t r,one l = some (t,r) → l = t.flat ++ r ∧ t.one ∧ t.kinds = true
theorem kinds_app : ∀ f g : F,(f.app g).kinds = (f.kinds && g.kinds)
 | .nil,g => by simp [F.app,F.kinds]
 | .leaf k d t r,g => by simp [F.app,F.kinds,kinds_app r g,Bool.and_assoc]
 | .node k d ks r,g => by simp [F.app,F.kinds,kinds_app r g,Bool.and_assoc]
theorem kids_ok {one : List Nd → Option (F × List Nd)} (h : DecOk one) : ∀ (n : Nat) (l : List Nd) (f : F) (r : List Nd),kids one n l = some (f,r) → l = f.flat ++ r ∧ f.count = n ∧ f.kinds = true
 | 0,l,f,r,e => by
  simp only [kids,Option.some.injEq,Prod.mk.injEq] at e
  obtain ⟨rfl,rfl⟩:=e
  exact ⟨rfl,rfl,rfl⟩
 | n + 1,l,f,r,e => by
  simp only [kids] at e
  split at e
  ·cases e
  ·rename_i t r1 h1
   split at e
   ·cases e
   ·rename_i f2 r2 h2
    simp only [Option.some.injEq,Prod.mk.injEq] at e
    obtain ⟨rfl,rfl⟩:=e
    obtain ⟨e1,e2,e3⟩:=h _ _ _ h1
    obtain ⟨e4,e5,e6⟩:=kids_ok h n _ _ _ h2
    refine ⟨?_,?_,?_⟩
    ·rw [F.flat_app,e1,e4,List.append_assoc]
    ·rw [F.count_app,F.one_count e2,e5]
     omega
    ·rw [kinds_app,e3,e6]
     rfl
theorem dec_ok : ∀ (d : Nat) (keyed : Bool),DecOk (dec d keyed)
 | 0,keyed,l,t,r,e => by cases e
 | d + 1,keyed,l,t,r,e => by
  simp only [dec] at e
  split at e
  ·cases e
  ·rename_i x r0
   split at e
   ·rename_i hok
    split at e
    ·cases e
    ·rename_i ks r' hk
     split at e
     ·rename_i hs
      simp only [Option.some.injEq,Prod.mk.injEq] at e
      obtain ⟨e1,rfl⟩:=e
      obtain ⟨k1,k2,k3⟩:=kids_ok (dec_ok d (x.f0 == 7)) _ _ _ _ hk
      simp only [okN,Bool.and_eq_true,decide_eq_true_eq,Bool.or_eq_true] at hok
      obtain ⟨⟨⟨⟨⟨⟨o1,o2⟩,o3⟩,o4⟩,o5⟩,o6⟩,o7⟩:=hok
      obtain ⟨f0,f1,f2,f3,f4⟩:=x
      simp only at *
      split at e1
      ·rename_i h6
       subst e1
       have hn : f2 = 0:=by omega
       subst hn
       have : ks = .nil:=by
        simp only [Int.toNat_zero,kids,Option.some.injEq,Prod.mk.injEq] at hk
        exact hk.1.symm
       subst this
       have hr : r0 = r':=by simpa [F.flat] using k1
       subst hr
       refine ⟨?_,trivial,?_⟩
       ·simp only [F.flat,str_back,List.nil_append,List.cons_append,List.cons.injEq,and_true]
        rw [hs]
        simp
       ·simp only [F.kinds,Bool.and_true,Bool.and_eq_true,decide_eq_true_eq]
        omega
      ·rename_i h6
       subst e1
       have hnil : f4.data.toList = []:=by
        rw [if_neg (by omega),if_neg (by omega)] at o7
        simpa using o7
       have hf4 : f4 = str []:=by rw [← hnil,str_back]
       refine ⟨?_,trivial,?_⟩
       ·simp only [F.flat,str_back,List.append_nil,List.cons_append,List.cons.injEq]
        refine ⟨?_,k1⟩
        rw [hs,k1,k2,hf4]
        simp only [List.length_append]
        congr 1
        ·omega
        ·omega
       ·simp only [F.kinds,Bool.and_true,Bool.and_eq_true,Bool.or_eq_true,beq_iff_eq]
        exact ⟨by omega,k3⟩
     ·cases e
   ·cases e
theorem tree_flat {l : List Nd} {t : F} (h : tree? l = some t) : l = t.flat ∧ t.one ∧ t.kinds = true:=by
 unfold tree? at h
 split at h
 ·rename_i t' h1
  injection h with h
  subst h
  obtain ⟨a,b,c⟩:=dec_ok 32 false _ _ _ h1
  exact ⟨by simpa using a,b,c⟩
 ·cases h
theorem one_pos {t : F} (h : t.one) : 1 ≤ t.flat.length:=by
 match t,h with
 | .leaf _ _ _ .nil,_ => simp [F.flat]
 | .node _ _ _ .nil,_ => simp [F.flat]
end Go.Proofs.YtjehflambbjoaaaDoor.X
namespace Go.Proofs.YtjehflambbjoaaaDoor.X
open Go.RowKit Go.Proofs.YtjehflambbjoaaaDoorW.PrintWords
set_option linter.unusedVariables false
set_option linter.unusedSimpArgs false
theorem tl (a : ByteArray) : a.toList = a.data.toList:=ByteArray.toList_eq a
theorem w64' {x : Int} (h0 : -9223372036854775808 ≤ x) (h1 : x ≤ 9223372036854775807) : wrap64 x = x:=by unfold wrap64;omega
theorem idx_num (c : UInt8) : (Lib.indexByte [45,48,49,50,51,52,53,54,55,56,57] c < 0) = (¬ (c = 45 ∨ isDig c = true)):=by
 have:=all_bytes (p:=fun c => decide (Lib.indexByte [45,48,49,50,51,52,53,54,55,56,57] c < 0) == !(decide (c = 45) || isDig c)) (by decide +kernel) c
 simp only [beq_iff_eq] at this
 by_cases h1 : c = 45 <;> by_cases h2 : isDig c = true <;> simp_all
theorem dig_begins (c : UInt8) (h : c = 45 ∨ isDig c = true) : begins c = true ∧ isBlank c = false ∧ c ≠ 123 ∧ c ≠ 91 ∧ c ≠ 34 ∧ c ≠ 116 ∧ c ≠ 102 ∧ c ≠ 110:=by
 have:=all_bytes (p:=fun c => !(decide (c = 45) || isDig c) || (begins c && !isBlank c && decide (c ≠ 123) && decide (c ≠ 91) && decide (c ≠ 34) && decide (c ≠ 116) && decide (c ≠ 102) && decide (c ≠ 110))) (by decide +kernel) c
 rcases h with h|h
 ·subst h
  decide
 ·simp only [h,Bool.or_true,Bool.not_true,Bool.false_or,Bool.and_eq_true,decide_eq_true_eq,Bool.not_eq_true'] at this
  obtain ⟨⟨⟨⟨⟨⟨⟨a,b⟩,c⟩,d⟩,e⟩,f⟩,g⟩,i⟩:=this
  exact ⟨a,b,c,d,e,f,g,i⟩
theorem num_no (c : UInt8) (r : Bs) (h : ¬ (c = 45 ∨ isDig c = true)) : ∃ l e,num (c :: r) = .bad l e:=by
 have h1 : c ≠ 45:=fun e => h (.inl e)
 have h2 : isDig c = false:=by
  cases hh : isDig c with
  | false => rfl
  | true => exact absurd (.inr hh) h
 have h3 : (c == 48) = false:=by
  simp only [beq_eq_false_iff_ne,ne_eq]
  rintro rfl
  exact absurd h2 (by decide)
 refine ⟨c :: r,5,?_⟩
 have e1 : isC 45 (c :: r) = false:=by simpa [isC] using h1
 have e2 : isC 48 (c :: r) = false:=h3
 rw [num,e1]
 simp only [Bool.false_eq_true,if_false]
 rw [num1,e2]
 simp [digits,h2]
theorem digits_five (l r : Bs) (e : Int) (h : digits l = .bad r e) : e = 5:=by
 cases l with
 | nil => injection h with _ h;exact h.symm
 | cons c l =>
  simp only [digits] at h
  split at h
  ·cases h
  ·injection h with _ h;exact h.symm
theorem num_five (l r : Bs) (e : Int) (h : num l = .bad r e) : e = 5:=by
 unfold num at h
 have h1 : ∀ l r e,num1 l = .bad r e → e = 5:=by
  intro l r e h
  unfold num1 at h
  split at h
  ·cases h
  ·exact digits_five _ _ _ h
 have h2 : ∀ l r e,num2 l = .bad r e → e = 5:=by
  intro l r e h
  unfold num2 at h
  split at h
  ·exact digits_five _ _ _ h
  ·cases h
 have h3 : ∀ l r e,num3 l = .bad r e → e = 5:=by
  intro l r e h
  unfold num3 at h
  split at h
  ·split at h <;> exact digits_five _ _ _ h
  ·cases h
 split at h
 ·rename_i r1 e1 hh
  injection h with _ h
  subst h
  exact h1 _ _ _ hh
 ·split at h
  ·rename_i r1 e1 hh
   injection h with _ h
   subst h
   exact h2 _ _ _ hh
  ·exact h3 _ _ _ h
theorem number_law (a : ByteArray) (h : a.size ≤ 65536) : jsontext_number.f a = some (isNum a.data.toList):=by
 unfold jsontext_number.f
 rw [tl]
 have hs : a.data.toList.length = a.size:=by simp
 have hbk : str a.data.toList = a:=str_back a
 generalize hl : a.data.toList = l at hs hbk
 cases l with
 | nil => rw [if_pos rfl];rfl
 | cons c r =>
  rw [if_neg (by simp),if_pos (by simp at hs;omega)]
  have hb : bt a 0 = (c.toNat : Int):=by
   have h0 : 0 < a.size:=by simp at hs;omega
   unfold bt
   rw [dif_pos (by simpa using h0)]
   have : a[(0 : Int).toNat]'(by simpa using h0) = a.data.toList[0]'(by simp [hl]):=rfl
   rw [this]
   congr 2
   simp [hl]
  rw [strings_IndexByte.f,hb]
  have hc : ((c.toNat : Int)).toNat.toUInt8 = c:=by simp
  rw [hc]
  simp only [Option.bind_some]
  have hx:=idx_num c
  by_cases hd : c = 45 ∨ isDig c = true
  ·rw [if_neg (by rw [hx];exact fun hn => hn hd)]
   obtain ⟨b1,b2,b3,b4,b5,b6,b7,b8⟩:=dig_begins c hd
   have hp : parse (c :: r) = match num (c :: r) with
     | .bad r5 e => (.nil,(((c :: r).length - r5.length : Nat) : Int),e)
     | .ok r5 _ => match blanks r5 with
      | [] => (.leaf [] 4 ((c :: r).take ((c :: r).length - r5.length)) .nil,0,0)
      | c' :: r' => (.nil,(((c :: r).length - (r'.length + 1) : Nat) : Int),5):=by
    unfold parse
    rw [if_neg (by omega)]
    have e1 : blanks (c :: r) = c :: r:=by rw [blanks,b2];rfl
    rw [e1,value]
    rw [if_neg (by rw [b1];simp),if_neg b3,if_neg b4,if_neg b5,if_neg b6,if_neg b7,if_neg b8,number]
    cases num (c :: r) with
    | bad r5 e => rfl
    | ok r5 u => rfl
   have hpf : ∀ (f : F) (p e : Int),parse (c :: r) = (f,p,e) → jsontext_Parse.f a = some (f.flat,p,e):=by
    intro f p e h
    rw [jsontext_Parse.f,hl,h]
   cases hn : num (c :: r) with
   | bad r5 e =>
    obtain rfl:=num_five _ _ _ hn
    rw [hpf .nil _ 5 (by rw [hp,hn]),Option.bind_some,if_neg (show ¬ ((5 : Int) = 0) by decide),isNum,hn]
   | ok r5 u =>
    have hlt:=num_len _ _ _ hn
    cases hb5 : blanks r5 with
    | cons c' r' =>
     rw [hpf .nil (((c :: r).length - (r'.length + 1) : Nat) : Int) 5 (by rw [hp,hn];simp only;rw [hb5]),Option.bind_some,if_neg (show ¬ ((5 : Int) = 0) by decide)]
     have : r5 ≠ []:=by rintro rfl;simp [blanks] at hb5
     rw [isNum,hn]
     cases r5 with
     | nil => exact absurd rfl this
     | cons _ _ => rfl
    | nil =>
     rw [hpf (.leaf [] 4 ((c :: r).take ((c :: r).length - r5.length)) .nil) 0 0 (by rw [hp,hn];simp only;rw [hb5]),Option.bind_some,if_pos rfl]
     show (if (0 : Int) < ((1 : Nat) : Int) then (if (rd_T24 [(⟨4,1,0,str [],str (List.take ((c :: r).length - r5.length) (c :: r))⟩ : Nd)] 0).f0 = 4 then some ((rd_T24 [(⟨4,1,0,str [],str (List.take ((c :: r).length - r5.length) (c :: r))⟩ : Nd)] 0).f4.toList == c :: r) else some false) else none) = _
     rw [if_pos (by decide)]
     have e4 : ∀ t : Bs,(rd_T24 [(⟨4,1,0,str [],str t⟩ : Nd)] 0) = ⟨4,1,0,str [],str t⟩:=fun _ => rfl
     rw [e4,if_pos rfl,tl]
     congr 1
     rw [isNum,hn]
     show (List.take ((c :: r).length - r5.length) (c :: r) == c :: r) = _
     cases r5 with
     | nil => simp
     | cons c5 r6 =>
      simp only [beq_eq_false_iff_ne,ne_eq]
      intro he
      have:=congrArg List.length he
      rw [List.length_take] at this
      simp at this hlt
      omega
  ·rw [if_pos (by rw [hx];exact hd)]
   obtain ⟨l5,e5,h5⟩:=num_no c r hd
   rw [isNum,h5]
theorem wrong_law (k : Nat) (x : Nd) (keyed : Bool) (deep : Int) (hk : 3 ≤ k) (h3 : x.f3.size ≤ 9223372036854775807) (h4 : x.f4.size ≤ 9223372036854775807) :
  jsontext_wrong.f k x.f0 x.f1 x.f2 x.f3 x.f4 keyed deep = some (!(okN x keyed && decide (1 ≤ x.f1) && decide (deep < 32))):=by
 obtain ⟨k,rfl⟩ : ∃ k',k = k' + 3:=⟨k - 3,by omega⟩
 obtain ⟨f0,f1,f2,f3,f4⟩:=x
 simp only at h3 h4 ⊢
 have hv3 : utf8_ValidString.f f3 = some (Lib.validD f3.data.toList):=by rw [utf8_ValidString.f,if_pos h3]
 have hv4 : utf8_ValidString.f f4 = some (Lib.validD f4.data.toList):=by rw [utf8_ValidString.f,if_pos h4]
 have hj2 : ∀ (k : Nat) (b : Bool),jsontext_wrong.j2 (k + 1) b f0 f1 f2 f3 f4 = some (b || !(if f0 = 4 then decide (f4.size ≤ 65536) && isNum f4.data.toList else if f0 = 5 then Lib.validD f4.data.toList else f4.data.toList.isEmpty)):=by
  intro k b
  rw [jsontext_wrong.j2,hv4,tl]
  cases b with
  | true => rfl
  | false =>
   rw [if_neg (by decide)]
   by_cases c4 : f0 = 4
   ·rw [if_pos c4,if_pos c4]
    by_cases c5 : (f4.size : Int) > 65536
    ·rw [if_pos c5]
     have : ¬ f4.size ≤ 65536:=by omega
     simp [this]
    ·rw [if_neg c5,number_law f4 (by omega)]
     have : f4.size ≤ 65536:=by omega
     simp [this]
   ·rw [if_neg c4,if_neg c4]
    by_cases c5 : f0 = 5
    ·rw [if_pos c5,if_pos c5]
     rfl
    ·rw [if_neg c5,if_neg c5]
     cases f4.data.toList <;> rfl
 have hj1 : ∀ (k : Nat) (b : Bool),jsontext_wrong.j1 (k + 2) keyed b f0 f1 f2 f3 f4 = some (b || !(f3.data.toList.isEmpty || keyed) || !Lib.validD f3.data.toList || !(if f0 = 4 then decide (f4.size ≤ 65536) && isNum f4.data.toList else if f0 = 5 then Lib.validD f4.data.toList else f4.data.toList.isEmpty)):=by
  intro k b
  rw [jsontext_wrong.j1,hv3,tl]
  simp only [Option.bind_some,hj2]
  cases b <;> cases keyed <;> cases hl : f3.data.toList <;> simp
 have hj0 : ∀ (k : Nat) (b : Bool),jsontext_wrong.j0 (k + 3) keyed b f0 f1 f2 f3 f4 = some (b || (decide (0 < f2) && decide (f0 < 6)) || !(f3.data.toList.isEmpty || keyed) || !Lib.validD f3.data.toList || !(if f0 = 4 then decide (f4.size ≤ 65536) && isNum f4.data.toList else if f0 = 5 then Lib.validD f4.data.toList else f4.data.toList.isEmpty)):=by
  intro k b
  rw [jsontext_wrong.j0,hj1,hj1]
  cases b with
  | true => simp
  | false =>
   by_cases c : f2 > 0
   ·rw [if_neg (by decide),if_pos c]
    simp [c]
   ·rw [if_neg (by decide),if_neg c]
    have : ¬ 0 < f2:=by omega
    simp [this]
 rw [jsontext_wrong.f,hj0,hj0,okN]
 generalize (if f0 = 4 then decide (f4.size ≤ 65536) && isNum f4.data.toList else if f0 = 5 then Lib.validD f4.data.toList else f4.data.toList.isEmpty) = T
 generalize (f3.data.toList.isEmpty || keyed) = K
 generalize Lib.validD f3.data.toList = V
 by_cases a1 : f0 < 1
 ·have : ¬ 1 ≤ f0:=by omega
  simp [a1,this]
 ·by_cases a2 : f0 > 7
  ·have : ¬ f0 ≤ 7:=by omega
   simp [a2,this]
  ·by_cases a3 : f1 < 1
   ·have : ¬ 1 ≤ f1:=by omega
    simp [a3,this]
   ·by_cases a4 : f2 < 0
    ·have : ¬ 0 ≤ f2:=by omega
     simp [a4,this]
    ·rw [if_neg a1,if_neg a2,if_neg a3,if_neg a4]
     have b1 : 1 ≤ f0:=by omega
     have b2 : f0 ≤ 7:=by omega
     have b3 : 1 ≤ f1:=by omega
     have b4 : 0 ≤ f2:=by omega
     by_cases a5 : deep ≥ 32
     ·have : ¬ deep < 32:=by omega
      simp [a5,this]
     ·have c5 : deep < 32:=by omega
      by_cases a6 : 0 < f2 <;> by_cases a7 : f0 < 6
      ·have : ¬ f2 ≤ 0:=by omega
       have : ¬ 6 ≤ f0:=by omega
       simp [*]
      ·have : 6 ≤ f0:=by omega
       simp [*]
      ·have : f2 ≤ 0:=by omega
       simp [*]
      ·have : f2 ≤ 0:=by omega
       simp [*]
end Go.Proofs.YtjehflambbjoaaaDoor.X
namespace Go.Proofs.YtjehflambbjoaaaDoor.X
open Go.RowKit Go.Proofs.YtjehflambbjoaaaDoorW.PrintWords
set_option linter.unusedVariables false
set_option linter.unusedSimpArgs false
def fit (l : List Nd) : Bool:=decide (l.length ≤ 1099511627776) && l.all fun x => decide (x.f3.size ≤ 1000000) && decide (x.f4.size ≤ 1000000) && decide (x.f2 ≤ 9223372036854775807) && decide (-9223372036854775808 ≤ x.f1) && decide (x.f1 ≤ 9223372036854775807)
theorem fit_len {l : List Nd} (h : fit l = true) : l.length ≤ 1099511627776:=by
 unfold fit at h
 simp only [Bool.and_eq_true,decide_eq_true_eq] at h
 exact h.1
theorem fit_at {l : List Nd} (h : fit l = true) {x : Nd} (hx : x ∈ l) : x.f3.size ≤ 1000000 ∧ x.f4.size ≤ 1000000 ∧ x.f2 ≤ 9223372036854775807 ∧ -9223372036854775808 ≤ x.f1 ∧ x.f1 ≤ 9223372036854775807:=by
 unfold fit at h
 simp only [Bool.and_eq_true,decide_eq_true_eq,List.all_eq_true] at h
 obtain ⟨⟨⟨⟨a,b⟩,c⟩,d⟩,e⟩:=h.2 x hx
 exact ⟨a,b,c,d,e⟩
theorem rd_cast (l : List Nd) (p : Nat) (x : Nd) (r : List Nd) (h : l.drop p = x :: r) : rd_T24 l (p : Int) = x ∧ p < l.length ∧ l.drop (p + 1) = r ∧ x ∈ l:=by
 have hp : p < l.length:=by
  have:=congrArg List.length h
  simp at this
  omega
 have e:=List.drop_eq_getElem_cons hp
 rw [h] at e
 injection e with e1 e2
 refine ⟨?_,hp,e2.symm,?_⟩
 ·unfold rd_T24
  rw [Int.toNat_natCast,List.getD_eq_getElem?_getD,List.getElem?_eq_getElem hp]
  exact e1.symm
 ·rw [e1]
  exact List.getElem_mem hp
def chk (o : Option (F × List Nd)) (p en : Nat) : Bool:=match o with
 | some (t,_) => decide (p + t.flat.length ≤ en)
 | none => false
def chks (o : Option (F × List Nd)) (p en : Nat) : Bool:=match o with
 | some (t,_) => decide (p + t.flat.length = en)
 | none => false
def ChkOk (l : List Nd) (d : Nat) : Prop:=∀ (deep : Nat) (keyed : Bool) (p en k : Nat),d + deep = 32 → p < en → en ≤ l.length → 3 * (l.length - p) + 4 ≤ k → jsontext_check.f k l (p : Int) (en : Int) keyed (deep : Int) = some (chk (dec d keyed (l.drop p)) p en)
theorem loop_law (l : List Nd) (hl : l.length ≤ 1099511627776) (d : Nat) (hd : ChkOk l d) (deep : Nat) (hdd : d + 1 + deep = 32) (f0 f1 f2 : Int) (f3 f4 : ByteArray) (at_ en : Nat) (hen : en ≤ l.length) (he1 : (en : Int) = (at_ : Int) + f1) (hN : f2 ≤ 9223372036854775807) :
  ∀ (n p : Nat) (i : Int) (k : Nat),0 ≤ i → i + n = f2 → p ≤ l.length → 3 * (l.length - p) + 5 ≤ k →
   jsontext_check.l0 k l (at_ : Int) (deep : Int) (p : Int) f2 i f0 f1 f2 f3 f4 = some (chks (kids (dec d (f0 == 7)) n (l.drop p)) p en)
 | 0,p,i,k,h0,hi,hp,hk => by
  obtain ⟨k,rfl⟩ : ∃ k',k = k' + 1:=⟨k - 1,by omega⟩
  rw [jsontext_check.l0,if_neg (by omega)]
  simp only [kids,chks,F.flat,List.length_nil,Nat.add_zero]
  rw [w64' (by omega) (by omega),← he1]
  congr 1
  by_cases h : p = en
  ·subst h
   simp
  ·refine (beq_false_of_ne (show (p : Int) ≠ (en : Int) by omega)).trans (Eq.symm ?_)
   exact decide_eq_false h
 | n + 1,p,i,k,h0,hi,hp,hk => by
  obtain ⟨k,rfl⟩ : ∃ k',k = k' + 1:=⟨k - 1,by omega⟩
  rw [jsontext_check.l0,if_pos (by omega),w64' (x:=(at_ : Int) + f1) (by omega) (by omega),← he1]
  by_cases hpe : (p : Int) ≥ (en : Int)
  ·rw [if_pos hpe]
   congr 1
   simp only [kids,chks]
   cases h1 : dec d (f0 == 7) (l.drop p) with
   | none => rfl
   | some x =>
    obtain ⟨t,r⟩:=x
    obtain ⟨a1,a2,a3⟩:=dec_ok _ _ _ _ _ h1
    have:=one_pos a2
    simp only
    cases h2 : kids (dec d (f0 == 7)) n r with
    | none => rfl
    | some y =>
     simp only [F.flat_app,List.length_append]
     exact (decide_eq_false (by omega)).symm
  ·rw [if_neg hpe,w64' (x:=(deep : Int) + 1) (by omega) (by omega)]
   have hc:=hd (deep + 1) (f0 == 7) p en k (by omega) (by omega) hen (by omega)
   rw [show ((deep : Int) + 1) = ((deep + 1 : Nat) : Int) by omega,hc]
   simp only [Option.bind_some,kids,chks,chk]
   cases h1 : dec d (f0 == 7) (l.drop p) with
   | none => simp
   | some x =>
    obtain ⟨t,r⟩:=x
    obtain ⟨a1,a2,a3⟩:=dec_ok _ _ _ _ _ h1
    have hpos:=one_pos a2
    obtain ⟨x0,tl0,hx0⟩ : ∃ x0 tl0,t.flat = x0 :: tl0:=by
     cases hf : t.flat with
     | nil => rw [hf] at hpos;simp at hpos
     | cons a b => exact ⟨a,b,rfl⟩
    obtain ⟨e1,e2,e3,e4⟩:=rd_cast l p x0 (tl0 ++ r) (by rw [a1,hx0];rfl)
    have hsz : x0.f1 = (t.flat.length : Nat):=by
     match t,a2,hx0 with
     | .leaf k1 d1 t1 .nil,_,hx0 =>
      simp only [F.flat,List.cons.injEq] at hx0
      rw [← hx0.1]
      rfl
     | .node k1 d1 ks1 .nil,_,hx0 =>
      simp only [F.flat,List.cons.injEq] at hx0
      rw [← hx0.1]
      simp [F.flat]
    simp only
    by_cases hle : p + t.flat.length ≤ en
    ·rw [if_pos (decide_eq_true hle),if_pos (by omega),if_pos (by omega),e1,hsz]
     have hlen : p + t.flat.length ≤ l.length:=by omega
     rw [w64' (by omega) (by omega),w64' (x:=i + 1) (by omega) (by omega)]
     have hr : r = l.drop (p + t.flat.length):=by
      rw [← List.drop_drop,a1]
      simp
     have:=loop_law l hl d hd deep hdd f0 f1 f2 f3 f4 at_ en hen he1 hN n (p + t.flat.length) (i + 1) k (by omega) (by omega) hlen (by omega)
     rw [show ((p : Int) + (t.flat.length : Nat)) = ((p + t.flat.length : Nat) : Int) by omega,this,← hr]
     simp only [chks]
     cases h2 : kids (dec d (f0 == 7)) n r with
     | none => rfl
     | some y =>
      simp only [F.flat_app,List.length_append,Nat.add_assoc]
    ·rw [if_neg (by simp;omega)]
     congr 1
     cases h2 : kids (dec d (f0 == 7)) n r with
     | none => rfl
     | some y =>
      simp only [F.flat_app,List.length_append]
      exact (decide_eq_false (by omega)).symm
theorem check_law (l : List Nd) (hl : fit l = true) : ∀ d,ChkOk l d
 | d,deep,keyed,p,en,k,hdd,hp,hen,hk => by
  have hlen:=fit_len hl
  obtain ⟨k,rfl⟩ : ∃ k',k = k' + 1:=⟨k - 1,by omega⟩
  obtain ⟨x,r,hx⟩ : ∃ x r,l.drop p = x :: r:=⟨_,_,List.drop_eq_getElem_cons (show p < l.length by omega)⟩
  obtain ⟨e1,e2,e3,e4⟩:=rd_cast l p x r hx
  obtain ⟨s3,s4,hn2,hs0,hs1⟩:=fit_at hl e4
  rw [jsontext_check.f,if_pos (by omega),if_pos (by omega),e1,wrong_law k x keyed deep (by omega) (by omega) (by omega)]
  simp only [Option.bind_some]
  match d,hdd with
  | 0,hdd =>
   obtain ⟨k,rfl⟩ : ∃ k',k = k' + 1:=⟨k - 1,by omega⟩
   rw [if_pos (by rw [decide_eq_false (by omega : ¬ (deep : Int) < 32)];simp),jsontext_check.j0,if_pos rfl]
   rfl
  | d + 1,hdd =>
   obtain ⟨k,rfl⟩ : ∃ k',k = k' + 1:=⟨k - 1,by omega⟩
   have hdec : dec (d + 1) keyed (x :: r) = if okN x keyed then match kids (dec d (x.f0 == 7)) x.f2.toNat r with
    | none => none
    | some (ks,r') => if x.f1 = ((r.length - r'.length + 1 : Nat) : Int) then some (if x.f0 < 6 then .leaf x.f3.data.toList x.f0 x.f4.data.toList .nil else .node x.f3.data.toList x.f0 ks .nil,r') else none
    else none:=rfl
   rw [hx,decide_eq_true (by omega : (deep : Int) < 32),Bool.and_true]
   by_cases hok : okN x keyed = true
   ·by_cases hs : 1 ≤ x.f1
    ·rw [hok,decide_eq_true hs,if_neg (by simp),jsontext_check.j0,w64' (x:=(en : Int) - (p : Int)) (by omega) (by omega)]
     by_cases hov : x.f1 > (en : Int) - (p : Int)
     ·rw [if_pos (decide_eq_true hov),hdec,if_pos hok]
      congr 1
      cases hk2 : kids (dec d (x.f0 == 7)) x.f2.toNat r with
      | none => rfl
      | some y =>
       obtain ⟨ks,r'⟩:=y
       simp only
       split
       ·rename_i hsz
        have hfl:=(dec_ok (d + 1) keyed (x :: r) _ r' (by rw [hdec,if_pos hok,hk2];simp only;rw [if_pos hsz])).1
        simp only [chk]
        have:=congrArg List.length hfl
        simp at this
        have h6:=(kids_ok (dec_ok d (x.f0 == 7)) _ _ _ _ hk2).1
        have h7:=congrArg List.length h6
        simp at h7
        exact (decide_eq_false (by omega)).symm
       ·rfl
     ·rw [if_neg (by simp;omega),w64' (x:=(p : Int) + 1) (by omega) (by omega)]
      obtain ⟨S,hS⟩ : ∃ S : Nat,x.f1 = (S : Int):=⟨x.f1.toNat,by omega⟩
      have h0 : 0 ≤ x.f2:=by
       simp only [okN,Bool.and_eq_true,decide_eq_true_eq] at hok
       omega
      have hll:=loop_law l hlen d (check_law l hl d) deep (by omega) x.f0 x.f1 x.f2 x.f3 x.f4 p (p + S) (by omega) (by omega) hn2 x.f2.toNat (p + 1) 0 k (by omega) (by omega) (by omega) (by omega)
      rw [show ((p : Int) + 1) = ((p + 1 : Nat) : Int) by omega,hll,e3,hdec,if_pos hok]
      congr 1
      cases hk2 : kids (dec d (x.f0 == 7)) x.f2.toNat r with
      | none => rfl
      | some y =>
       obtain ⟨ks,r'⟩:=y
       have h6:=(kids_ok (dec_ok d (x.f0 == 7)) _ _ _ _ hk2).1
       have h7:=congrArg List.length h6
       simp at h7
       simp only [chks]
       by_cases hsz : x.f1 = ((r.length - r'.length + 1 : Nat) : Int)
       ·rw [if_pos hsz]
        have hfl:=(dec_ok (d + 1) keyed (x :: r) _ r' (by rw [hdec,if_pos hok,hk2];simp only;rw [if_pos hsz])).1
        simp only [chk]
        have h8:=congrArg List.length hfl
        simp at h8
        rw [decide_eq_true (by omega),decide_eq_true (by omega)]
       ·rw [if_neg hsz]
        exact decide_eq_false (by omega)
    ·have hs2 : decide (1 ≤ x.f1) = false:=decide_eq_false hs
     rw [hs2,if_pos (by simp),jsontext_check.j0,if_pos rfl,hdec,if_pos hok]
     congr 1
     cases hk2 : kids (dec d (x.f0 == 7)) x.f2.toNat r with
     | none => rfl
     | some y =>
      simp only
      rw [if_neg (by omega)]
      rfl
   ·have hf : okN x keyed = false:=by simpa using hok
    rw [hf,if_pos (by simp),jsontext_check.j0,if_pos rfl,hdec,if_neg hok]
    rfl
theorem dec_size (d : Nat) (keyed : Bool) (x : Nd) (r : List Nd) (t : F) (r' : List Nd) (h : dec d keyed (x :: r) = some (t,r')) : x.f1 = (t.flat.length : Nat):=by
 obtain ⟨a1,a2,a3⟩:=dec_ok _ _ _ _ _ h
 match t,a2,a1 with
 | .leaf k1 d1 t1 .nil,_,hx0 =>
  simp only [F.flat,List.cons_append,List.cons.injEq] at hx0
  rw [hx0.1]
  rfl
 | .node k1 d1 ks1 .nil,_,hx0 =>
  simp only [F.flat,List.cons_append,List.cons.injEq] at hx0
  rw [hx0.1]
  simp [F.flat]
theorem Check_law (l : List Nd) (hl : fit l = true) (k : Nat) (hk : 3 * l.length + 4 ≤ k) : jsontext_Check.f k l = some (if (tree? l).isSome then 0 else 2):=by
 rw [jsontext_Check.f]
 cases l with
 | nil => rfl
 | cons x r =>
  have hl2:=fit_len hl
  rw [if_neg (by simp;omega),if_pos (by simp)]
  have e0 : rd_T24 (x :: r) 0 = x:=rfl
  rw [e0]
  have hc:=check_law (x :: r) hl 32 0 false 0 (x :: r).length k rfl (by simp) (Nat.le_refl _) (by omega)
  rw [show jsontext_check.f k (x :: r) 0 ((x :: r).length : Int) false 0 = _ from hc]
  simp only [List.drop_zero,Option.bind_some]
  cases hd : dec 32 false (x :: r) with
  | none =>
   have ht : tree? (x :: r) = none:=by unfold tree?;rw [hd]
   rw [ht]
   simp [chk]
  | some y =>
   obtain ⟨t,r'⟩:=y
   have hs:=dec_size _ _ _ _ _ _ hd
   have hf:=congrArg List.length (dec_ok _ _ _ _ _ hd).1
   simp only [List.length_append] at hf
   have hch : chk (some (t,r')) 0 (x :: r).length = true:=decide_eq_true (by omega)
   rw [hch]
   cases r' with
   | nil =>
    have ht : tree? (x :: r) = some t:=by unfold tree?;rw [hd]
    rw [if_pos (by simp at hf ⊢;omega),if_pos rfl,ht]
    rfl
   | cons a b =>
    have ht : tree? (x :: r) = none:=by unfold tree?;rw [hd]
    rw [if_neg (by simp at hf ⊢;omega),ht]
    rfl
end Go.Proofs.YtjehflambbjoaaaDoor.X
namespace Go.Proofs.YtjehflambbjoaaaDoor.X
open Go.RowKit Go.Proofs.YtjehflambbjoaaaDoorW.PrintWords
set_option linter.unusedVariables false
set_option linter.unusedSimpArgs false
def jsontext_Print.f (l : List (S24)) : Option (ByteArray × Int) :=
 if fit l then match tree? l with
  | some t => if t.txt.length ≤ 17592186044416 then some (str t.txt,0) else none
  | none => some (⟨#[]⟩,2)
 else none
theorem write_root {t : F} (h : WriteOk t) (B b : Nat) (ad : Addr) (cp N : Nat) (l : List Nd) (w0 w : World) (hN : N = l.length) (hl : l = t.flat) (hcp : N ≤ cp) (hlen : N ≤ 1099511627776) (hbig : t.txt.length ≤ 17592186044416)
  (hC : Kd.C kN w0 (some ad) N l) (hB : w0.heap.size ≤ B) (hbel : Below w0.heap.size w0 w) (hbld : Bld B b [] w) :
  Calls Tryd.prog 37 #[.pointer (some ⟨b,0,none⟩),.slice (some ad) N cp,.int .i64 0] w fun e w' => (∃ x,e = .returned x) ∧ Bld B b t.txt w' ∧ Below B w w':=by
 have:=h.use B b ad cp N l [] [] [] w0 w hN (by rw [hl];simp) hcp hlen (by simpa [F.txt] using hbig) hC hB hbel hbld
 refine Calls.mono this ?_
 rintro e w' ⟨rfl,h2,h3,_⟩
 exact ⟨⟨_,rfl⟩,by simpa [F.txt] using h2,h3⟩
set_option maxHeartbeats 1000000 in
set_option maxRecDepth 100000 in
theorem jsontext_Print.calls (A0 : Option Addr) (c0 : Nat) (l0 : List (S24)) (r1 : ByteArray) (r2 : Int) (w : World) (hGU8 : GlobU8 w) (hr0 : Kd.C k24 w A0 l0.length l0) (hc0 : l0.length ≤ c0) (h : jsontext_Print.f l0 = some (r1,r2)) :
  Calls Tryd.prog 20 #[.slice A0 l0.length c0] w fun e w' => e = .returned (.tuple #[.string r1,.int .i64 r2]) ∧ Below w.heap.size w w':=by
 unfold jsontext_Print.f at h
 split at h
 ·rename_i hfit
  have hck:=Check_law l0 hfit (3 * l0.length + 4) (Nat.le_refl _)
  have HG:=Lib.hid hGU8
  have HR:=Lib.hid hr0
  have HC:=Lib.hid hc0
  cases ht : tree? l0 with
  | none =>
   rw [ht] at h hck
   simp only [Option.some.injEq,Prod.mk.injEq] at h
   obtain ⟨rfl,rfl⟩:=h
   have HCK : Hid (jsontext_Check.f (3 * l0.length + 4) l0 = some 2):=Lib.hid hck
   clear hck hfit ht hGU8 hr0 hc0
   go_enter Tryd.func20,Tryd.ntmps20
   go_wp2_with (go_at_call 16;refine (jsontext_Check.calls _ A0 c0 l0 2 _ HG.out HR.out HC.out HCK.out).mono ?_;rintro e w1 ⟨rfl,hb1⟩;have HB1:=Lib.hid hb1;clear hb1)
   go_ret2
   exact ⟨rfl,HB1.out⟩
  | some t =>
   rw [ht] at h hck
   simp only at h
   split at h
   ·rename_i hbig
    simp only [Option.some.injEq,Prod.mk.injEq] at h
    obtain ⟨rfl,rfl⟩:=h
    obtain ⟨e1,e2,e3⟩:=tree_flat ht
    have hlen:=fit_len hfit
    have hw:=write_all t e3 t (by
     match t,e2 with
     | .leaf _ _ _ .nil,_ => simp [F.trees]
     | .node _ _ _ .nil,_ => simp [F.trees])
    have HCK : Hid (jsontext_Check.f (3 * l0.length + 4) l0 = some 0):=Lib.hid hck
    have HW:=Lib.hid hw
    have HE:=Lib.hid e1
    have HLEN:=Lib.hid hlen
    have HBIG:=Lib.hid hbig
    obtain ⟨ad,rfl⟩ : ∃ ad,A0 = some ad:=by
     have hp:=one_pos e2
     obtain ⟨ad,e,_⟩:=at_T24 hr0 0 (Int.le_refl _) (by rw [e1];omega)
     exact ⟨ad,e⟩
    clear hck hfit ht hGU8 hr0 hc0 hw e1 e2 e3 hlen hbig
    generalize hN : l0.length = N
    have HN:=Lib.hid hN.symm
    have HR2 : Hid (Kd.C kN w (some ad) N l0):=Lib.hid (hN ▸ HR.out)
    have HC2 : Hid (N ≤ c0):=Lib.hid (hN ▸ HC.out)
    clear hN
    have hcall:=jsontext_Check.calls _ (some ad) c0 l0 0 w HG.out HR.out HC.out HCK.out
    rw [← HN.out] at hcall
    have HCALL:=Lib.hid hcall
    clear hcall
    go_enter Tryd.func20,Tryd.ntmps20
    go_upto_region 5 with (go_at_call 16;refine HCALL.out.mono ?_;rintro e w1 ⟨rfl,hb1⟩;have HB1:=Lib.hid hb1;clear hb1)
    have HBN : Hid (Bld w1.heap.size w1.heap.size [] (w1.alloc (.cells #[.pointer none,.slice none 0 0] 64 (0,0)))):=Lib.hid (bld_new w1 _ rfl)
    have HBA : Hid (Below w1.heap.size w1 (w1.alloc (.cells #[.pointer none,.slice none 0 0] 64 (0,0)))):=Lib.hid ((Below.refl _ _).alloc (Nat.le_refl _) _)
    have HLN : Hid (N ≤ 1099511627776):=Lib.hid (by rw [HN.out];exact HLEN.out)
    have HBW : Hid (Below w.heap.size w (w1.alloc (.cells #[.pointer none,.slice none 0 0] 64 (0,0)))):=Lib.hid (HB1.out.trans (HBA.out.mono HB1.out.size))
    go_wp2_with (first
     | (go_at_call 37;refine (write_root HW.out w1.heap.size w1.heap.size ad c0 N l0 w _ HN.out HE.out HC2.out HLN.out HBIG.out HR2.out HB1.out.size HBW.out HBN.out).mono ?_;rintro e w2 ⟨⟨x,rfl⟩,hb2,hbel2⟩;have HB2 : Hid (Bld w1.heap.size w1.heap.size t.txt w2):=Lib.hid hb2;have HBEL2:=Lib.hid hbel2;clear hb2 hbel2)
     | (go_at_call 38;refine (Tryd.Builder_String_any w1.heap.size w1.heap.size t.txt _ HB2.out HB2.out.lt).mono ?_;rintro e w4 ⟨rfl,hb4⟩;have HB4:=Lib.hid hb4;clear hb4))
    go_ret2
    exact ⟨rfl,HB1.out.trans ((HBA.out.trans (HBEL2.out.trans HB4.out)).mono HB1.out.size)⟩
   ·cases h
 ·cases h
end Go.Proofs.YtjehflambbjoaaaDoor.X
namespace Go.Proofs.YtjehflambbjoaaaDoor.X
open Go.RowKit Go.Proofs.YtjehflambbjoaaaDoorW.PrintWords
set_option linter.unusedVariables false
set_option linter.unusedSimpArgs false
def strings_Replace.f (s old new : ByteArray) (n : Int) : Option ByteArray :=
 if s.size < 4294967281 ∧ 1 ≤ old.size ∧ new.size ≤ 16 then some ⟨(Lib.replace s.data.toList old.data.toList new.data.toList n).toArray⟩ else none
theorem strings_Replace.calls (a0 a1 a2 : ByteArray) (a3 : Int) (r : ByteArray) (w : World) (hGMax : GlobMax w) (h : strings_Replace.f a0 a1 a2 a3 = some r) :
  Calls Tryd.prog 66 #[.string a0,.string a1,.string a2,.int .i64 a3] w fun e w' => e = .returned (.string r) ∧ Below w.heap.size w w':=by
 unfold strings_Replace.f at h
 split at h
 ·rename_i hh
  obtain rfl:=Option.some.inj h
  obtain ⟨_,m,hm⟩:=hGMax
  have hc:=Lib.countB_le a1 hh.2.1 _ a0 (Nat.le_refl _)
  have hm2:=Nat.mul_le_mul hc hh.2.2
  exact Tryd.strings_Replace a0 a1 a2 a3 m w hh.1 hm hh.2.1 (by omega)
 ·exact absurd h (by simp)
end Go.Proofs.YtjehflambbjoaaaDoor.X
namespace Go.Proofs.YtjehflambbjoaaaDoor.X
open Go.RowKit Go.Proofs.YtjehflambbjoaaaDoorW.PrintWords Go.Proofs.YtjehflambbjoaaaDoorW.PrintLast Go.Proofs.YtjehflambbjoaaaDoorW.PrintMore
attribute [local go_sem] max2_int min2_int max_two min_two max_three min_three max_four min_four
set_option linter.unusedVariables false
set_option linter.unusedSimpArgs false
def strings_ReplaceAll.f (a0 : ByteArray) (a1 : ByteArray) (a2 : ByteArray) : Option (ByteArray):=(strings_Replace.f a0 a1 a2 (-1)).bind fun t311 => (some t311)
set_option maxHeartbeats 8000000 in
set_option maxRecDepth 100000 in
theorem strings_ReplaceAll.calls (a0 : ByteArray) (a1 : ByteArray) (a2 : ByteArray) (r : ByteArray) (w : World) (hGMax : GlobMax w) (h : strings_ReplaceAll.f a0 a1 a2 = some r) :
  Calls Tryd.prog 59 #[.string a0,.string a1,.string a2] w fun e w' => e = .returned (.string r) ∧ Below w.heap.size w w':=by
 have HGMax:=Aside0.mk hGMax
 clear hGMax
 have HB:=Aside0.mk (Below.refl w.heap.size w)
 have H : ((strings_Replace.f a0 a1 a2 (-1)).bind fun t311 => (some t311)) = some r:=h
 clear h
 replace H:=Option.bind_eq_some_iff.mp H
 obtain ⟨t311,A40,H⟩:=H
 replace H : (some t311) = some r:=H
 have A4:=Aside0.mk A40
 clear A40
 obtain rfl:=Option.some.inj H
 go_enter Tryd.func59,Tryd.ntmps59
 go_wp2_with (first|((with_reducible refine gate_callee (f:=66) rfl ?_);refine goesL_ (some 10) rfl rfl Tryd.func66 (by kernel_rfl) rfl #[.string a0,.string a1,.string a2,.int .i64 (-1)] rfl (by (try simp only [List.map_toArray,List.map_cons,List.map_nil]);first|done|rfl|(simp only [List.length_drop,List.length_take];rfl)) ?_;(with_reducible refine (strings_Replace.calls a0 a1 a2 (-1) t311 _ ?side1 A4.out).mono ?_);(case side1 => first|exact HGMax.out|exact GlobMax.below HGMax.out (by repeat (first|(with_reducible first|exact HB.out|apply below_alloc|apply pw_below_drewN|apply below_drew1)|exact HB.out))|exact GlobMax.drawn HGMax.out (by repeat (first|exact Drawn0.refl _|apply Drawn0.step)));rintro e w5 ⟨rfl,hb⟩;refine ⟨_,rfl,?_⟩;have n0_:=Aside0.mk (below_step (by repeat (first|(with_reducible first|exact HB.out|apply below_alloc|apply pw_below_drewN|apply below_drew1)|exact HB.out)) hb);clear HB;have HB:=n0_;clear n0_;(try clear hb);(try clear hb2);(try clear hk);(try clear hi)))
 go_ret
 exact ⟨by first|rfl|(simp [errW_none,errW_some] <;> rfl)|(simp [*,errW_none,errW_some] <;> rfl),by repeat (first|(with_reducible first|exact HB.out|apply below_alloc|apply pw_below_drewN|apply below_drew1)|exact HB.out)⟩
end Go.Proofs.YtjehflambbjoaaaDoor.X
namespace Go.Proofs.YtjehflambbjoaaaDoor.X
open Go.RowKit Go.Proofs.YtjehflambbjoaaaDoorW.PrintWords Go.Proofs.YtjehflambbjoaaaDoorW.PrintLast Go.Proofs.YtjehflambbjoaaaDoorW.PrintMore
attribute [local go_sem] max2_int min2_int max_two min_two max_three min_three max_four min_four
set_option linter.unusedVariables false
set_option linter.unusedSimpArgs false
def response_safe.l0 : Nat → ByteArray → List (S100) → Int → Int → Option (ByteArray)
 | 0,_,_,_,_ => none
 | k + 1,x0,x9,x10,x11 => if x11 < x10 then (if 0 ≤ x11 then (if x11 < (x9.length : Int) then ((strings_ReplaceAll.f x0 ((rd_T100 x9 x11).f0) ((rd_T100 x9 x11).f1)).bind fun t317 => (response_safe.l0 k t317 x9 x10 (wrap64 (x11 + 1)))) else (none)) else (none)) else (some x0)
def response_safe.f (k : Nat) (a0 : ByteArray) : Option (ByteArray):=(some (([(⟨(⟨#[38]⟩ : ByteArray),(⟨#[38,97,109,112,59]⟩ : ByteArray)⟩ : S100),(⟨(⟨#[60]⟩ : ByteArray),(⟨#[38,108,116,59]⟩ : ByteArray)⟩ : S100),(⟨(⟨#[62]⟩ : ByteArray),(⟨#[38,103,116,59]⟩ : ByteArray)⟩ : S100),(⟨(⟨#[34]⟩ : ByteArray),(⟨#[38,113,117,111,116,59]⟩ : ByteArray)⟩ : S100)] : List (S100)) : List (S100))).bind fun y312 => (response_safe.l0 k a0 y312 (y312.length : Int) 0)
set_option maxHeartbeats 8000000 in
set_option maxRecDepth 100000 in
theorem response_safe.calls (k : Nat) (a0 : ByteArray) (r : ByteArray) (w : World) (hGMax : GlobMax w) (h : response_safe.f k a0 = some r) :
  Calls Tryd.prog 48 #[.string a0] w fun e w' => e = .returned (.string r) ∧ Below w.heap.size w w':=by
 have hu100:=Tryd.underlying100
 have HGMax:=Aside0.mk hGMax
 clear hGMax
 have HB:=Aside0.mk (Below.refl w.heap.size w)
 have H : ((some (([(⟨(⟨#[38]⟩ : ByteArray),(⟨#[38,97,109,112,59]⟩ : ByteArray)⟩ : S100),(⟨(⟨#[60]⟩ : ByteArray),(⟨#[38,108,116,59]⟩ : ByteArray)⟩ : S100),(⟨(⟨#[62]⟩ : ByteArray),(⟨#[38,103,116,59]⟩ : ByteArray)⟩ : S100),(⟨(⟨#[34]⟩ : ByteArray),(⟨#[38,113,117,111,116,59]⟩ : ByteArray)⟩ : S100)] : List (S100)) : List (S100))).bind fun y312 => (response_safe.l0 k a0 y312 (y312.length : Int) 0)) = some r:=h
 clear h
 obtain ⟨y312,hy312⟩ : ∃ y_ : List (S100),y_ = (([(⟨(⟨#[38]⟩ : ByteArray),(⟨#[38,97,109,112,59]⟩ : ByteArray)⟩ : S100),(⟨(⟨#[60]⟩ : ByteArray),(⟨#[38,108,116,59]⟩ : ByteArray)⟩ : S100),(⟨(⟨#[62]⟩ : ByteArray),(⟨#[38,103,116,59]⟩ : ByteArray)⟩ : S100),(⟨(⟨#[34]⟩ : ByteArray),(⟨#[38,113,117,111,116,59]⟩ : ByteArray)⟩ : S100)] : List (S100))):=⟨_,rfl⟩
 replace H : (response_safe.l0 k a0 y312 (y312.length : Int) 0) = some r:=by first|(rw [hy312];with_reducible exact H)|(have H2_:=(Option.bind_some _ _).symm.trans H;rw [hy312];with_reducible exact H2_)|(have H2_:=(Option.bind_some _ _).symm.trans H;with_reducible exact H2_)|with_reducible exact H|(rw [hy312];exact H)|exact H
 have Ny312:=Aside0.mk hy312
 clear hy312
 have H':=Aside0.mk H
 clear H
 go_enter Tryd.func48,Tryd.ntmps48
 go_wp2_with (first|((with_reducible refine gate_dst (N:=9) rfl ?_);refine Kd.R_lit k100 _ 100 ?hg (N:=9) ?hd (xs:=([(⟨(⟨#[38]⟩ : ByteArray),(⟨#[38,97,109,112,59]⟩ : ByteArray)⟩ : S100),(⟨(⟨#[60]⟩ : ByteArray),(⟨#[38,108,116,59]⟩ : ByteArray)⟩ : S100),(⟨(⟨#[62]⟩ : ByteArray),(⟨#[38,103,116,59]⟩ : ByteArray)⟩ : S100),(⟨(⟨#[34]⟩ : ByteArray),(⟨#[38,113,117,111,116,59]⟩ : ByteArray)⟩ : S100)] : List (S100))) (inner:=[.string (⟨#[38]⟩ : ByteArray),.string (⟨#[38,97,109,112,59]⟩ : ByteArray),.string (⟨#[60]⟩ : ByteArray),.string (⟨#[38,108,116,59]⟩ : ByteArray),.string (⟨#[62]⟩ : ByteArray),.string (⟨#[38,103,116,59]⟩ : ByteArray),.string (⟨#[34]⟩ : ByteArray),.string (⟨#[38,113,117,111,116,59]⟩ : ByteArray)]) (ok:=fun _ => True) (okp:=fun _ => True) ?hr ?hp (fun _ hk => hk) trivial (Below.refl _ _) (Nat.le_refl _) (by simp) ?_;(case hd => rfl);(case hg => rfl);(case hr => first|(go_simp;done)|(go_simp;rfl));(case hp => exact (Reps.c2 (show Kd.M k100 _ _ _ (⟨(⟨#[38]⟩ : ByteArray),(⟨#[38,97,109,112,59]⟩ : ByteArray)⟩ : S100) [.string (⟨#[38]⟩ : ByteArray),.string (⟨#[38,97,109,112,59]⟩ : ByteArray)] from (k100_mkM _ _ _ (⟨(⟨#[38]⟩ : ByteArray),(⟨#[38,97,109,112,59]⟩ : ByteArray)⟩ : S100) )) (Reps.c2 (show Kd.M k100 _ _ _ (⟨(⟨#[60]⟩ : ByteArray),(⟨#[38,108,116,59]⟩ : ByteArray)⟩ : S100) [.string (⟨#[60]⟩ : ByteArray),.string (⟨#[38,108,116,59]⟩ : ByteArray)] from (k100_mkM _ _ _ (⟨(⟨#[60]⟩ : ByteArray),(⟨#[38,108,116,59]⟩ : ByteArray)⟩ : S100) )) (Reps.c2 (show Kd.M k100 _ _ _ (⟨(⟨#[62]⟩ : ByteArray),(⟨#[38,103,116,59]⟩ : ByteArray)⟩ : S100) [.string (⟨#[62]⟩ : ByteArray),.string (⟨#[38,103,116,59]⟩ : ByteArray)] from (k100_mkM _ _ _ (⟨(⟨#[62]⟩ : ByteArray),(⟨#[38,103,116,59]⟩ : ByteArray)⟩ : S100) )) (Reps.c2 (show Kd.M k100 _ _ _ (⟨(⟨#[34]⟩ : ByteArray),(⟨#[38,113,117,111,116,59]⟩ : ByteArray)⟩ : S100) [.string (⟨#[34]⟩ : ByteArray),.string (⟨#[38,113,117,111,116,59]⟩ : ByteArray)] from (k100_mkM _ _ _ (⟨(⟨#[34]⟩ : ByteArray),(⟨#[38,113,117,111,116,59]⟩ : ByteArray)⟩ : S100) )) (Reps.none _ _))))));intro v313 w2 ho3 hb hg_ hnew_;clear hg_ hnew_;(first|rw [← Ny312.out] at ho3|(simp only [Int.reduceToNat] at ho3;rw [← Ny312.out] at ho3));have n0_:=Aside0.mk (Kd.R_lower ho3 (below_size (by repeat (first|(with_reducible first|exact HB.out|apply below_alloc|apply pw_below_drewN|apply below_drew1)|exact HB.out))));have n1_:=Aside0.mk (below_step (by repeat (first|(with_reducible first|exact HB.out|apply below_alloc|apply pw_below_drewN|apply below_drew1)|exact HB.out)) hb);clear HB;have HO314:=n0_;have HB:=n1_;clear n0_ n1_;clear hb ho3;obtain ⟨Ao4,co4,eo4⟩:=Kd.R_slice HO314.out;subst eo4))
 go_loopg [0,11] k (fun kq v0 v11 w' => ∃ (x0_1 : ByteArray) (x11_1 : Int),v0 = .string x0_1 ∧ v11 = .int .i64 x11_1 ∧ Aside0 (response_safe.l0 kq x0_1 y312 (y312.length : Int) x11_1 = some r) ∧ Aside0 (kq ≤ k) ∧ Aside0 (Kd.R k100 100 w' w.heap.size (fun _ => True) (.slice Ao4 y312.length co4) y312) ∧ Aside0 (Below w.heap.size w w'))
 case atStart => exact ⟨(a0),(0),(by first|rfl|(simp;done)|(simp;decide +kernel)|(simp [*];done)),(by first|rfl|(simp;done)|(simp;decide +kernel)|(simp [*];done)),(by first|exact H'|(subst_vars;exact H')),⟨Nat.le_refl _⟩,⟨by (with_reducible repeat (first|apply Kd.R_alloc|apply Kd.R_drewN|apply Kd.R_drew));exact HO314.out⟩,⟨by repeat (first|(with_reducible first|exact HB.out|apply below_alloc|apply pw_below_drewN|apply below_drew1)|exact HB.out)⟩⟩
 case round =>
  clear H'
  try clear c2
  try clear p2
  try clear c4
  obtain ⟨x0_1,x11_1,rfl,rfl,HA,HK1,HO_9,HB⟩:=hrel
  cases gk with
  | zero => exact absurd HA.out (by simp [response_safe.l0])
  | succ k1 =>
   have H:=HA.out
   clear HA
   simp only [response_safe.l0] at H
   by_cases c5 : x11_1 < (y312.length : Int)
   ·rw [if_pos c5] at H
    have c5b0 : decide (x11_1 < (y312.length : Int)) = true:=decide_eq_true c5
    clear c5
    by_cases c6 : 0 ≤ x11_1
    ·rw [if_pos c6] at H
     have c6b0 : decide (0 ≤ x11_1) = true:=decide_eq_true c6
     clear c6
     by_cases c7 : x11_1 < (y312.length : Int)
     ·rw [if_pos c7] at H
      have c7b0 : decide (x11_1 < (y312.length : Int)) = true:=decide_eq_true c7
      clear c7
      replace H:=Option.bind_eq_some_iff.mp H
      obtain ⟨t317,A80,H⟩:=H
      replace H : (response_safe.l0 k1 t317 y312 (y312.length : Int) (wrap64 (x11_1 + 1))) = some r:=H
      have A8:=Aside0.mk A80
      clear A80
      have H':=Aside0.mk H
      clear H
      have p315 : 0 ≤ (x11_1 : Int):=of_decide_eq_true (by first|(with_reducible assumption)|assumption)
      have q315 : x11_1 < (y312.length : Int):=of_decide_eq_true (by first|(with_reducible assumption)|assumption)
      obtain ⟨ad315,e315,hx315_0,hx315_1⟩:=at_T100 (Kd.R_reads' HO_9.out).2.2 x11_1 p315 q315
      cases e315
      replace p315:=eq_true p315
      replace q315:=eq_true q315
      go_wp2_with (first|((with_reducible refine gate_dst (N:=4) rfl ?_);refine box_event ?hg (N:=4) ?hd (cs:=#[.string (⟨#[]⟩ : ByteArray),.string (⟨#[]⟩ : ByteArray)]) (t:=100) ?hr ?_;(case hd => rfl);(case hg => rfl);(case hr => first|(go_simp;done)|(go_simp;rfl));intro gb316 hg w9 hbox hb;have n0_:=Aside0.mk (Kd.R_below (Kd.R_elderB (by (with_reducible repeat (first|apply Kd.R_alloc|apply Kd.R_drewN|apply Kd.R_drew));exact HO_9.out) gb316 (Nat.le_of_eq hg.symm)) hb);have n1_:=Aside0.mk (below_step (by repeat (first|(with_reducible first|exact HB.out|apply below_alloc|apply pw_below_drewN|apply below_drew1)|exact HB.out)) hb);have n2_:=Aside0.mk (hbox);have n3_:=Aside0.mk ((by rw [hg];exact (below_size (by repeat (first|(with_reducible first|exact HB.out|apply below_alloc|apply pw_below_drewN|apply below_drew1)|exact HB.out))) : w.heap.size ≤ gb316));have n4_:=Aside0.mk ((by rw [hg];exact (below_size (by repeat (first|(with_reducible first|exact HB.out|apply below_alloc|apply pw_below_drewN|apply below_drew1)|exact HB.out))) : w.heap.size ≤ gb316));clear HO_9;clear HB;have HO_9:=n0_;have HB:=n1_;have BK316:=n2_;have GW316:=n3_;have GE316:=n4_;clear n0_ n1_ n2_ n3_ n4_;clear hb hbox hg;have hcz10_0 : w9.cell? ⟨gb316,0,none⟩ = some (.string (⟨#[]⟩ : ByteArray)):=(blk_cell BK316.out 0).trans rfl;have hcz10_1 : w9.cell? ⟨gb316,1,none⟩ = some (.string (⟨#[]⟩ : ByteArray)):=(blk_cell BK316.out 1).trans rfl;have hfz10_0:=blk_frozen BK316.out 0;have hfz10_1:=blk_frozen BK316.out 1)|((with_reducible refine gate_callee (f:=59) rfl ?_);refine goesL_ (some 20) rfl rfl Tryd.func59 (by kernel_rfl) rfl #[.string x0_1,.string ((rd_T100 y312 x11_1).f0),.string ((rd_T100 y312 x11_1).f1)] rfl (by (try simp only [List.map_toArray,List.map_cons,List.map_nil]);first|done|rfl|(simp only [List.length_drop,List.length_take];rfl)) ?_;(with_reducible refine (strings_ReplaceAll.calls x0_1 ((rd_T100 y312 x11_1).f0) ((rd_T100 y312 x11_1).f1) t317 _ ?side1 A8.out).mono ?_);(case side1 => first|exact HGMax.out|exact GlobMax.below HGMax.out (by repeat (first|(with_reducible first|exact HB.out|apply below_alloc|apply pw_below_drewN|apply below_drew1|refine below_set ?_ GE316.out)|exact HB.out))|exact GlobMax.drawn HGMax.out (by repeat (first|exact Drawn0.refl _|apply Drawn0.step)));rintro e w11 ⟨rfl,hb⟩;refine ⟨_,rfl,?_⟩;have n0_:=Aside0.mk (Kd.R_below (by (with_reducible repeat (first|apply Kd.R_alloc|apply Kd.R_drewN|apply Kd.R_drew));exact (Kd.R_mono (Kd.R_far (p:=⟨gb316,1,none⟩) (Kd.R_far (p:=⟨gb316,0,none⟩) (Kd.R_mono HO_9.out (fun k_ hk => (⟨hk,hk.2⟩ : _ ∧ k_ ≠ gb316))) (fun _ hk => hk.2) (.string ((rd_T100 y312 x11_1).f0))) (fun _ hk => hk.2) (.string ((rd_T100 y312 x11_1).f1))) (fun _ h_ => h_.1))) hb);have n1_:=Aside0.mk (blk_below (g:=gb316) (o:=.cells #[.string ((rd_T100 y312 x11_1).f0),.string ((rd_T100 y312 x11_1).f1)] 100 (0,0)) (by (with_reducible repeat (first|refine blk_drewN ?_ _|refine blk_drew ?_|refine blk_alloc ?_ _));refine blk_put (cs:=#[.string ((rd_T100 y312 x11_1).f0),.string (⟨#[]⟩ : ByteArray)]) ?_ 1 _ rfl;(with_reducible repeat (first|refine blk_drewN ?_ _|refine blk_drew ?_|refine blk_alloc ?_ _));refine blk_put (cs:=#[.string (⟨#[]⟩ : ByteArray),.string (⟨#[]⟩ : ByteArray)]) ?_ 0 _ rfl;(with_reducible repeat (first|refine blk_drewN ?_ _|refine blk_drew ?_|refine blk_alloc ?_ _));exact BK316.out) hb);have n2_:=Aside0.mk (below_step (by repeat (first|(with_reducible first|exact HB.out|apply below_alloc|apply pw_below_drewN|apply below_drew1|refine below_set ?_ GE316.out)|exact HB.out)) hb);clear HO_9;clear BK316;clear HB;have HO_9:=n0_;have BK316:=n1_;have HB:=n2_;clear n0_ n1_ n2_;(try clear hb);(try clear hb2);(try clear hk);(try clear hi)))
      go_roundg k1
      case measure => have:=HK1.out;omega
      case rel => exact ⟨(t317),(wrap64 (x11_1 + 1)),(by first|rfl|(simp;done)|(simp;decide +kernel)|(simp [*];done)),(by first|rfl|(simp;done)|(simp;decide +kernel)|(simp [*];done)),(by first|exact H'|(subst_vars;exact H')),⟨by have:=HK1.out;omega⟩,⟨by (with_reducible repeat (first|apply Kd.R_alloc|apply Kd.R_drewN|apply Kd.R_drew));exact Kd.R_mono HO_9.out (fun _ hk => trivial)⟩,⟨by repeat (first|(with_reducible first|exact HB.out|apply below_alloc|apply pw_below_drewN|apply below_drew1|refine below_set ?_ GE316.out)|exact HB.out)⟩⟩
     ·rw [if_neg c7] at H
      exact absurd H (by simp)
    ·rw [if_neg c6] at H
     exact absurd H (by simp)
   ·rw [if_neg c5] at H
    have c5b0 : decide (x11_1 < (y312.length : Int)) = false:=decide_eq_false c5
    clear c5
    obtain rfl:=Option.some.inj H
    go_wp2
    go_ret
    exact ⟨by first|rfl|(simp [errW_none,errW_some] <;> rfl)|(simp [*,errW_none,errW_some] <;> rfl),by repeat (first|(with_reducible first|exact HB.out|apply below_alloc|apply pw_below_drewN|apply below_drew1)|exact HB.out)⟩
end Go.Proofs.YtjehflambbjoaaaDoor.X
namespace Go.Proofs.YtjehflambbjoaaaDoor.X
open Go.RowKit Go.Proofs.YtjehflambbjoaaaDoorW.PrintWords Go.Proofs.YtjehflambbjoaaaDoorW.PrintLast Go.Proofs.YtjehflambbjoaaaDoorW.PrintMore
attribute [local go_sem] max2_int min2_int max_two min_two max_three min_three max_four min_four
set_option linter.unusedVariables false
set_option linter.unusedSimpArgs false
mutual
def jsontext_Kids.j0 : Nat → List (S24) → Int → Bool → Option (List Int)
 | 0,_,_,_ => none
 | k + 1,x0,x1,x19 => if x19 = true then (some ([] : List Int)) else (if 0 ≤ x1 then (if x1 < (x0.length : Int) then (jsontext_Kids.l0 k x0 ([] : List Int) (wrap64 (x1 + 1)) ((rd_T24 x0 x1).f2) 0) else (none)) else (none))
def jsontext_Kids.l0 : Nat → List (S24) → List Int → Int → Int → Int → Option (List Int)
 | 0,_,_,_,_,_ => none
 | k + 1,x0,x5,x6,x26,x27 => if x27 < x26 then (if x5.length < 17592186044416 then (if 0 ≤ x6 then (if x6 < (x0.length : Int) then (jsontext_Kids.l0 k x0 (x5 ++ [x6]) (wrap64 (x6 + ((rd_T24 x0 x6).f1))) x26 (wrap64 (x27 + 1))) else (none)) else (none)) else (none)) else (some x5)
end
def jsontext_Kids.f (k : Nat) (l0 : List (S24)) (a1 : Int) : Option (List Int):=(jsontext_Check.f k l0).bind fun t285 => (if t285 = 0 then (if a1 < 0 then (jsontext_Kids.j0 k l0 a1 true) else (jsontext_Kids.j0 k l0 a1 (decide (a1 ≥ (l0.length : Int))))) else (jsontext_Kids.j0 k l0 a1 true))
set_option maxHeartbeats 8000000 in
set_option maxRecDepth 100000 in
theorem jsontext_Kids.calls (k : Nat) (A0 : Option Addr) (c0 : Nat) (l0 : List (S24)) (a1 : Int) (r : List Int) (w : World) (hGU8 : GlobU8 w) (hr0 : Kd.C k24 w A0 l0.length l0) (hc0 : l0.length ≤ c0) (h : jsontext_Kids.f k l0 a1 = some r) :
  Calls Tryd.prog 49 #[.slice A0 l0.length c0,.int .i64 a1] w fun e w' => ∃ v0_ : Value,e = .returned (v0_) ∧ Kd.R (Kd.int .i64) 3 w' w.heap.size (fun _ => True) v0_ r ∧ Below w.heap.size w w':=by
 have HGU8:=Aside0.mk hGU8
 clear hGU8
 have HR0:=Aside0.mk hr0
 have HC0:=Aside0.mk hc0
 clear hr0 hc0
 have HB:=Aside0.mk (Below.refl w.heap.size w)
 have H : ((jsontext_Check.f k l0).bind fun t285 => (if t285 = 0 then (if a1 < 0 then (jsontext_Kids.j0 k l0 a1 true) else (jsontext_Kids.j0 k l0 a1 (decide (a1 ≥ (l0.length : Int))))) else (jsontext_Kids.j0 k l0 a1 true))) = some r:=h
 clear h
 have HC3:=Aside0.mk H
 clear H
 go_enter Tryd.func49,Tryd.ntmps49
 go_upto_region 1 with (fail)
 go_cut [19] (fun v19 wc => ∃ (kq : Nat) (x19_2 : Bool),v19 = .bool x19_2 ∧ Aside0 (jsontext_Kids.j0 kq l0 a1 x19_2 = some r) ∧ Aside0 (kq ≤ k) ∧ Aside0 (Below w.heap.size w wc))
 case first =>
  have H:=HC3.out
  clear HC3
  replace H:=Option.bind_eq_some_iff.mp H
  obtain ⟨t285,A40,H⟩:=H
  replace H : (if t285 = 0 then (if a1 < 0 then (jsontext_Kids.j0 k l0 a1 true) else (jsontext_Kids.j0 k l0 a1 (decide (a1 ≥ (l0.length : Int))))) else (jsontext_Kids.j0 k l0 a1 true)) = some r:=H
  have A4:=Aside0.mk A40
  clear A40
  by_cases c5 : t285 = 0
  ·rw [if_pos c5] at H
   have c5b0 : (t285 == 0) = true:=beq_iff_eq.mpr c5
   have c5b1 : (t285 != 0) = false:=bne_eq_false_iff_eq.mpr c5
   clear c5
   (first|rw [c5b0]|(simp only [i64_w,i32_w];rw [c5b0])|skip)
   by_cases c6 : a1 < 0
   ·rw [if_pos c6] at H
    have c6b0 : decide (a1 < 0) = true:=decide_eq_true c6
    clear c6
    have H':=Aside0.mk H
    clear H
    go_wp2_with (first|((with_reducible refine gate_callee (f:=16) rfl ?_);refine goesL_ (some 8) rfl rfl Tryd.func16 (by kernel_rfl) rfl #[.slice A0 l0.length c0] rfl (by (try simp only [List.map_toArray,List.map_cons,List.map_nil]);first|done|rfl|(simp only [List.length_drop,List.length_take];rfl)) ?_;(with_reducible refine (jsontext_Check.calls k _ _ l0 t285 _ ?side3 ?side1 ?side2 A4.out).mono ?_);(case side1 => repeat (first|exact (Kd.C_below HR0.out HB.out)|(with_reducible refine Kd.C_alloc ?_ _)|(with_reducible refine Kd.C_drewN ?_ _)|(with_reducible refine Kd.C_drew ?_)));(case side2 => exact HC0.out);(case side3 => first|exact HGU8.out|exact GlobU8.below HGU8.out (by repeat (first|(with_reducible first|exact HB.out|apply below_alloc|apply pw_below_drewN|apply below_drew1)|exact HB.out))|exact GlobU8.drawn HGU8.out (by repeat (first|exact Drawn0.refl _|apply Drawn0.step)));rintro e w7 ⟨rfl,hb⟩;refine ⟨_,rfl,?_⟩;have n0_:=Aside0.mk (below_step (by repeat (first|(with_reducible first|exact HB.out|apply below_alloc|apply pw_below_drewN|apply below_drew1)|exact HB.out)) hb);clear HB;have HB:=n0_;clear n0_;(try clear hb);(try clear hb2);(try clear hk);(try clear hi)))
    go_meet
    case rel => exact ⟨_,(true),(by first|rfl|(simp;done)|(simp;decide +kernel)|(simp [*];done)),(by first|exact H'|(subst_vars;exact H')),⟨by first|omega|exact Nat.le_refl _⟩,⟨by repeat (first|(with_reducible first|exact HB.out|apply below_alloc|apply pw_below_drewN|apply below_drew1)|exact HB.out)⟩⟩
   ·rw [if_neg c6] at H
    have c6b0 : decide (a1 < 0) = false:=decide_eq_false c6
    clear c6
    have H':=Aside0.mk H
    clear H
    go_wp2_with (first|((with_reducible refine gate_callee (f:=16) rfl ?_);refine goesL_ (some 8) rfl rfl Tryd.func16 (by kernel_rfl) rfl #[.slice A0 l0.length c0] rfl (by (try simp only [List.map_toArray,List.map_cons,List.map_nil]);first|done|rfl|(simp only [List.length_drop,List.length_take];rfl)) ?_;(with_reducible refine (jsontext_Check.calls k _ _ l0 t285 _ ?side3 ?side1 ?side2 A4.out).mono ?_);(case side1 => repeat (first|exact (Kd.C_below HR0.out HB.out)|(with_reducible refine Kd.C_alloc ?_ _)|(with_reducible refine Kd.C_drewN ?_ _)|(with_reducible refine Kd.C_drew ?_)));(case side2 => exact HC0.out);(case side3 => first|exact HGU8.out|exact GlobU8.below HGU8.out (by repeat (first|(with_reducible first|exact HB.out|apply below_alloc|apply pw_below_drewN|apply below_drew1)|exact HB.out))|exact GlobU8.drawn HGU8.out (by repeat (first|exact Drawn0.refl _|apply Drawn0.step)));rintro e w8 ⟨rfl,hb⟩;refine ⟨_,rfl,?_⟩;have n0_:=Aside0.mk (below_step (by repeat (first|(with_reducible first|exact HB.out|apply below_alloc|apply pw_below_drewN|apply below_drew1)|exact HB.out)) hb);clear HB;have HB:=n0_;clear n0_;(try clear hb);(try clear hb2);(try clear hk);(try clear hi)))
    go_meet
    case rel => exact ⟨_,(decide (a1 ≥ (l0.length : Int))),(by first|rfl|(simp;done)|(simp;decide +kernel)|(simp [*];done)),(by first|exact H'|(subst_vars;exact H')),⟨by first|omega|exact Nat.le_refl _⟩,⟨by repeat (first|(with_reducible first|exact HB.out|apply below_alloc|apply pw_below_drewN|apply below_drew1)|exact HB.out)⟩⟩
  ·rw [if_neg c5] at H
   have c5b0 : (t285 == 0) = false:=beq_eq_false_iff_ne.mpr c5
   have c5b1 : (t285 != 0) = true:=bne_iff_ne.mpr c5
   (first|rw [c5b0]|(simp only [i64_w,i32_w];rw [c5b0])|skip)
   have H':=Aside0.mk H
   clear H
   go_wp2_with (first|((with_reducible refine gate_callee (f:=16) rfl ?_);refine goesL_ (some 8) rfl rfl Tryd.func16 (by kernel_rfl) rfl #[.slice A0 l0.length c0] rfl (by (try simp only [List.map_toArray,List.map_cons,List.map_nil]);first|done|rfl|(simp only [List.length_drop,List.length_take];rfl)) ?_;(with_reducible refine (jsontext_Check.calls k _ _ l0 t285 _ ?side3 ?side1 ?side2 A4.out).mono ?_);(case side1 => repeat (first|exact (Kd.C_below HR0.out HB.out)|(with_reducible refine Kd.C_alloc ?_ _)|(with_reducible refine Kd.C_drewN ?_ _)|(with_reducible refine Kd.C_drew ?_)));(case side2 => exact HC0.out);(case side3 => first|exact HGU8.out|exact GlobU8.below HGU8.out (by repeat (first|(with_reducible first|exact HB.out|apply below_alloc|apply pw_below_drewN|apply below_drew1)|exact HB.out))|exact GlobU8.drawn HGU8.out (by repeat (first|exact Drawn0.refl _|apply Drawn0.step)));rintro e w9 ⟨rfl,hb⟩;refine ⟨_,rfl,?_⟩;have n0_:=Aside0.mk (below_step (by repeat (first|(with_reducible first|exact HB.out|apply below_alloc|apply pw_below_drewN|apply below_drew1)|exact HB.out)) hb);clear HB;have HB:=n0_;clear n0_;(try clear hb);(try clear hb2);(try clear hk);(try clear hi)))
   go_meet
   case rel => exact ⟨_,(true),(by first|rfl|(simp;done)|(simp;decide +kernel)|(simp [*];done)),(by first|exact H'|(subst_vars;exact H')),⟨by first|omega|exact Nat.le_refl _⟩,⟨by repeat (first|(with_reducible first|exact HB.out|apply below_alloc|apply pw_below_drewN|apply below_drew1)|exact HB.out)⟩⟩
 case rest =>
  clear HC3
  try clear c1
  try clear p2
  try clear c4
  try clear c5
  try clear c5b0
  try clear c5b1
  try clear c6
  try clear c6b0
  obtain ⟨kq,x19_2,rfl,HA,HJ2,HB⟩:=hcut
  cases kq with
  | zero => exact absurd HA.out (by simp [jsontext_Kids.j0])
  | succ kj2 =>
   have H:=HA.out
   clear HA
   simp only [jsontext_Kids.j0] at H
   by_cases c10 : x19_2 = true
   ·subst c10
    have H1 : (some ([] : List Int)) = some r:=by rw [if_pos rfl] at H;exact H
    clear H
    have H:=H1
    clear H1
    obtain rfl:=Option.some.inj H
    go_wp2
    go_ret
    exact ⟨_,by first|rfl|(simp [errW_none,errW_some] <;> rfl)|(simp [*,errW_none,errW_some] <;> rfl),by first|exact Kd.R_nil _ _ _ _ _|exact Kd.N_nil _ _ _ _ _|exact Kd.V_nil _ _ _ _ _|exact Kd.Q_nil _ _ _ _ _|exact Kd.S_nil _ _ _ _ _,by repeat (first|(with_reducible first|exact HB.out|apply below_alloc|apply pw_below_drewN|apply below_drew1)|exact HB.out)⟩
   ·replace c10:=Bool.eq_false_iff.mpr c10
    subst c10
    have H1 : (if 0 ≤ a1 then (if a1 < (l0.length : Int) then (jsontext_Kids.l0 kj2 l0 ([] : List Int) (wrap64 (a1 + 1)) ((rd_T24 l0 a1).f2) 0) else (none)) else (none)) = some r:=by rw [if_neg (show ¬ (false = true) by decide)] at H;exact H
    clear H
    have H:=H1
    clear H1
    by_cases c11 : 0 ≤ a1
    ·rw [if_pos c11] at H
     have c11b0 : decide (0 ≤ a1) = true:=decide_eq_true c11
     clear c11
     by_cases c12 : a1 < (l0.length : Int)
     ·rw [if_pos c12] at H
      have c12b0 : decide (a1 < (l0.length : Int)) = true:=decide_eq_true c12
      clear c12
      have H':=Aside0.mk H
      clear H
      have p286 : 0 ≤ (a1 : Int):=of_decide_eq_true (by first|(with_reducible assumption)|assumption)
      have q286 : a1 < (l0.length : Int):=of_decide_eq_true (by first|(with_reducible assumption)|assumption)
      obtain ⟨ad286,e286,hx286_0,hx286_1,hx286_2,hx286_3,hx286_4⟩:=at_T24 HR0.out a1 p286 q286
      cases e286
      replace hx286_0:=(HB.out.cell (World.block_lt_of_cell? w _ hx286_0)).trans hx286_0
      replace hx286_1:=(HB.out.cell (World.block_lt_of_cell? w _ hx286_1)).trans hx286_1
      replace hx286_2:=(HB.out.cell (World.block_lt_of_cell? w _ hx286_2)).trans hx286_2
      replace hx286_3:=(HB.out.cell (World.block_lt_of_cell? w _ hx286_3)).trans hx286_3
      replace hx286_4:=(HB.out.cell (World.block_lt_of_cell? w _ hx286_4)).trans hx286_4
      replace p286:=eq_true p286
      replace q286:=eq_true q286
      go_wp2
      go_loopg [5,6,27] kj2 (fun kq v5 v6 v27 w' => ∃ (x5_2 : List Int) (x6_2 : Int) (x27_2 : Int),v6 = .int .i64 x6_2 ∧ v27 = .int .i64 x27_2 ∧ Aside0 (jsontext_Kids.l0 kq l0 x5_2 x6_2 ((rd_T24 l0 a1).f2) x27_2 = some r) ∧ Aside0 (kq ≤ kj2) ∧ Aside0 (Kd.R (Kd.int .i64) 3 w' w.heap.size (fun _ => True) v5 x5_2) ∧ Aside0 (Below w.heap.size w w'))
      case atStart => exact ⟨(([] : List Int)),(wrap64 (a1 + 1)),(0),(by first|rfl|(simp;done)|(simp;decide +kernel)|(simp [*];done)),(by first|rfl|(simp;done)|(simp;decide +kernel)|(simp [*];done)),(by first|exact H'|(subst_vars;exact H')),⟨Nat.le_refl _⟩,⟨by first|exact Kd.R_nil _ _ _ _ _|exact Kd.N_nil _ _ _ _ _|exact Kd.V_nil _ _ _ _ _|exact Kd.Q_nil _ _ _ _ _|exact Kd.S_nil _ _ _ _ _⟩,⟨by repeat (first|(with_reducible first|exact HB.out|apply below_alloc|apply pw_below_drewN|apply below_drew1)|exact HB.out)⟩⟩
      case round =>
       clear H'
       try clear c1
       try clear p2
       try clear q2
       try clear hx2
       try clear c4
       try clear c5
       try clear c5b0
       try clear c5b1
       try clear c6
       try clear c6b0
       try clear p6
       try clear c10
       try clear c11
       try clear c11b0
       try clear c12
       try clear c12b0
       try clear hx286_0
       try clear hx286_1
       try clear hx286_2
       try clear hx286_3
       try clear hx286_4
       try clear p2
       try clear p286
       try clear q286
       obtain ⟨x5_2,x6_2,x27_2,rfl,rfl,HA,HK2,HO_5,HB⟩:=hrel
       cases gk with
       | zero => exact absurd HA.out (by simp [jsontext_Kids.l0])
       | succ k2 =>
        have H:=HA.out
        clear HA
        simp only [jsontext_Kids.l0] at H
        by_cases c13 : x27_2 < ((rd_T24 l0 a1).f2)
        ·rw [if_pos c13] at H
         have c13b0 : decide (x27_2 < ((rd_T24 l0 a1).f2)) = true:=decide_eq_true c13
         clear c13
         by_cases c14 : x5_2.length < 17592186044416
         ·rw [if_pos c14] at H
          have LMc14:=Aside0.mk c14
          clear c14
          obtain ⟨y287,hy287⟩ : ∃ y_ : List Int,y_ = (x5_2 ++ [x6_2]):=⟨_,rfl⟩
          replace H : (if 0 ≤ x6_2 then (if x6_2 < (l0.length : Int) then (jsontext_Kids.l0 k2 l0 y287 (wrap64 (x6_2 + ((rd_T24 l0 x6_2).f1))) ((rd_T24 l0 a1).f2) (wrap64 (x27_2 + 1))) else (none)) else (none)) = some r:=by first|(rw [hy287];with_reducible exact H)|(have H2_:=(Option.bind_some _ _).symm.trans H;rw [hy287];with_reducible exact H2_)|(have H2_:=(Option.bind_some _ _).symm.trans H;with_reducible exact H2_)|with_reducible exact H|(rw [hy287];exact H)|exact H
          have Ny287:=Aside0.mk hy287
          clear hy287
          by_cases c15 : 0 ≤ x6_2
          ·rw [if_pos c15] at H
           have c15b0 : decide (0 ≤ x6_2) = true:=decide_eq_true c15
           clear c15
           by_cases c16 : x6_2 < (l0.length : Int)
           ·rw [if_pos c16] at H
            have c16b0 : decide (x6_2 < (l0.length : Int)) = true:=decide_eq_true c16
            clear c16
            have H':=Aside0.mk H
            clear H
            go_wp2_with (first|((with_reducible refine gate_builtin (b:=.append) (xs:=#[.tmp 29,.tmp 31]) rfl ?_);(try (refine gate_guard (by rfl) ?_;dsimp only));at_builtin;refine Kd.R_append (Kd.int .i64) (w0:=w) w.heap.size rfl (.tmp 29) (.tmp 31) 86 3 (.int .i64 0) 8 rfl Tryd.underlying86 info3 rfl (by decide) (by omega) u5 x5_2 x6_2 [.int .i64 x6_2] (fun _ => True) (fun _ => False) rfl rfl ?aP (fun _ hk => hk.elim) ?aF ?aO ?aB ?aS ?aL ?_;(case aP => exact rfl);(case aB => exact (by repeat (first|(with_reducible first|exact HB.out|apply below_alloc|apply pw_below_drewN|apply below_drew1)|exact HB.out)));(case aF => exact (fun _ _ => trivial));(case aO => exact (by (with_reducible repeat (first|apply Kd.R_alloc|apply Kd.R_drewN|apply Kd.R_drew));exact HO_5.out));(case aS => exact (below_size (by repeat (first|(with_reducible first|exact HB.out|apply below_alloc|apply pw_below_drewN|apply below_drew1)|exact HB.out))));(case aL => have:=LMc14.out;omega);intro v288 w17 ho hb hg hat;rw [← Ny287.out] at ho;have n0_:=Aside0.mk (hb);have n1_:=Aside0.mk (ho);clear HB;clear HO_5;have HB:=n0_;have HO289:=n1_;clear n0_ n1_;clear ho hb hg hat;have p290 : 0 ≤ (x6_2 : Int):=of_decide_eq_true (by first|(with_reducible assumption)|assumption);have q290 : x6_2 < (l0.length : Int):=of_decide_eq_true (by first|(with_reducible assumption)|assumption);obtain ⟨ad290,e290,hx290_0,hx290_1,hx290_2,hx290_3,hx290_4⟩:=at_T24 HR0.out x6_2 p290 q290;obtain rfl : ad286 = ad290:=(by injection e290);replace hx290_0:=(HB.out.cell (World.block_lt_of_cell? w _ hx290_0)).trans hx290_0;replace hx290_1:=(HB.out.cell (World.block_lt_of_cell? w _ hx290_1)).trans hx290_1;replace hx290_2:=(HB.out.cell (World.block_lt_of_cell? w _ hx290_2)).trans hx290_2;replace hx290_3:=(HB.out.cell (World.block_lt_of_cell? w _ hx290_3)).trans hx290_3;replace hx290_4:=(HB.out.cell (World.block_lt_of_cell? w _ hx290_4)).trans hx290_4;replace p290:=eq_true p290;replace q290:=eq_true q290))
            go_roundg k2
            case measure => have:=HJ2.out;have:=HK2.out;omega
            case rel => exact ⟨(y287),(wrap64 (x6_2 + ((rd_T24 l0 x6_2).f1))),(wrap64 (x27_2 + 1)),(by first|rfl|(simp;done)|(simp;decide +kernel)|(simp [*];done)),(by first|rfl|(simp;done)|(simp;decide +kernel)|(simp [*];done)),(by first|exact H'|(subst_vars;exact H')),⟨by have:=HJ2.out;have:=HK2.out;omega⟩,⟨by (with_reducible repeat (first|apply Kd.R_alloc|apply Kd.R_drewN|apply Kd.R_drew));exact HO289.out⟩,⟨by repeat (first|(with_reducible first|exact HB.out|apply below_alloc|apply pw_below_drewN|apply below_drew1)|exact HB.out)⟩⟩
           ·rw [if_neg c16] at H
            exact absurd H (by simp)
          ·rw [if_neg c15] at H
           exact absurd H (by simp)
         ·rw [if_neg c14] at H
          exact absurd H (by simp)
        ·rw [if_neg c13] at H
         have c13b0 : decide (x27_2 < ((rd_T24 l0 a1).f2)) = false:=decide_eq_false c13
         clear c13
         obtain rfl:=Option.some.inj H
         go_wp2
         go_ret
         exact ⟨_,by first|rfl|(simp [errW_none,errW_some] <;> rfl)|(simp [*,errW_none,errW_some] <;> rfl),by (with_reducible repeat (first|apply Kd.R_alloc|apply Kd.R_drewN|apply Kd.R_drew));exact HO_5.out,by repeat (first|(with_reducible first|exact HB.out|apply below_alloc|apply pw_below_drewN|apply below_drew1)|exact HB.out)⟩
     ·rw [if_neg c12] at H
      exact absurd H (by simp)
    ·rw [if_neg c11] at H
     exact absurd H (by simp)
end Go.Proofs.YtjehflambbjoaaaDoor.X
namespace Go.Proofs.YtjehflambbjoaaaDoor.X
open Go.RowKit Go.Proofs.YtjehflambbjoaaaDoorW.PrintWords Go.Proofs.YtjehflambbjoaaaDoorW.PrintLast Go.Proofs.YtjehflambbjoaaaDoorW.PrintMore
attribute [local go_sem] max2_int min2_int max_two min_two max_three min_three max_four min_four
set_option linter.unusedVariables false
set_option linter.unusedSimpArgs false
class Recracewayref29element where
 f : Nat → ByteArray → (List (S24)) → Int → Option (ByteArray)
 mono : ∀ a0 a1 a2 k,LeO (f k a0 a1 a2) (f (k + 1) a0 a1 a2)
 calls (k : Nat) (a0 : ByteArray) (A1 : Option Addr) (c1 : Nat) (l1 : List (S24)) (a2 : Int) (r : ByteArray) (w : World) (hr1 : Kd.C k24 w A1 l1.length l1) (hc1 : l1.length ≤ c1) (h : f k a0 l1 a2 = some r) :
  Calls Tryd.prog 19 #[.string a0,.slice A1 l1.length c1,.int .i64 a2] w fun e w' => e = .returned (.string r) ∧ Below w.heap.size w w'
section
variable [Recracewayref29element]
mutual
def racewayref29_insideO.j0 : Nat → ByteArray → List (S24) → Int → ByteArray → Bool → Int → Int → Int → ByteArray → ByteArray → Option (ByteArray)
 | 0,_,_,_,_,_,_,_,_,_,_ => none
 | k + 1,x0,x1,x2,x8,x30,x103000,x103001,x103002,x103003,x103004 => if x30 = true then (racewayref29_insideO.l0 k x8 0 x103000 x103001 x103002 x103003 x103004) else (racewayref29_insideO.l1 k x0 x1 x8 (wrap64 (x2 + 1)) 0 x103000 x103001 x103002 x103003 x103004)
def racewayref29_insideO.l0 : Nat → ByteArray → Int → Int → Int → Int → ByteArray → ByteArray → Option (ByteArray)
 | 0,_,_,_,_,_,_,_ => none
 | k + 1,x8,x9,x103000,x103001,x103002,x103003,x103004 => if x9 < (x103004.size : Int) then (if 0 ≤ x9 then (if (bt x103004 x9) = 38 then (if x8.size + 5 ≤ 9223372036854775807 then (racewayref29_insideO.l0 k (x8 ++ (⟨#[38,97,109,112,59]⟩ : ByteArray)) (wrap64 (x9 + 1)) x103000 x103001 x103002 x103003 x103004) else (none)) else (if (bt x103004 x9) = 60 then (if x8.size + 4 ≤ 9223372036854775807 then (racewayref29_insideO.l0 k (x8 ++ (⟨#[38,108,116,59]⟩ : ByteArray)) (wrap64 (x9 + 1)) x103000 x103001 x103002 x103003 x103004) else (none)) else (if (bt x103004 x9) = 62 then (if x8.size + 4 ≤ 9223372036854775807 then (racewayref29_insideO.l0 k (x8 ++ (⟨#[38,103,116,59]⟩ : ByteArray)) (wrap64 (x9 + 1)) x103000 x103001 x103002 x103003 x103004) else (none)) else (if (bt x103004 x9) = 34 then (if x8.size + 6 ≤ 9223372036854775807 then (racewayref29_insideO.l0 k (x8 ++ (⟨#[38,113,117,111,116,59]⟩ : ByteArray)) (wrap64 (x9 + 1)) x103000 x103001 x103002 x103003 x103004) else (none)) else (if x9 ≤ (wrap64 (x9 + 1)) then (if (wrap64 (x9 + 1)) ≤ (x103004.size : Int) then (if x8.size + (x103004.extract (x9 : Int).toNat ((wrap64 (x9 + 1)) : Int).toNat).size ≤ 9223372036854775807 then (racewayref29_insideO.l0 k (x8 ++ (x103004.extract (x9 : Int).toNat ((wrap64 (x9 + 1)) : Int).toNat)) (wrap64 (x9 + 1)) x103000 x103001 x103002 x103003 x103004) else (none)) else (none)) else (none)))))) else (none)) else (some x8)
def racewayref29_insideO.l1 : Nat → ByteArray → List (S24) → ByteArray → Int → Int → Int → Int → Int → ByteArray → ByteArray → Option (ByteArray)
 | 0,_,_,_,_,_,_,_,_,_,_ => none
 | k + 1,x0,x1,x8,x10,x11,x103000,x103001,x103002,x103003,x103004 => if x11 < x103002 then (if x103000 = 7 then (if 0 ≤ x10 then (if x10 < (x1.length : Int) then ((Recracewayref29element.f k ((rd_T24 x1 x10).f3) x1 x10).bind fun t104 => (if x8.size + t104.size ≤ 9223372036854775807 then (racewayref29_insideO.l1 k x0 x1 (x8 ++ t104) (wrap64 (x10 + ((rd_T24 x1 x10).f1))) (wrap64 (x11 + 1)) x103000 x103001 x103002 x103003 x103004) else (none))) else (none)) else (none)) else ((Recracewayref29element.f k x0 x1 x10).bind fun t106 => (if x8.size + t106.size ≤ 9223372036854775807 then (if 0 ≤ x10 then (if x10 < (x1.length : Int) then (racewayref29_insideO.l1 k x0 x1 (x8 ++ t106) (wrap64 (x10 + ((rd_T24 x1 x10).f1))) (wrap64 (x11 + 1)) x103000 x103001 x103002 x103003 x103004) else (none)) else (none)) else (none)))) else (some x8)
end
def racewayref29_insideO.f (k : Nat) (a0 : ByteArray) (l1 : List (S24)) (a2 : Int) : Option (ByteArray):=if 0 ≤ a2 then (if a2 < (l1.length : Int) then (if ((rd_T24 l1 a2).f0) = 2 then (some (⟨#[116,114,117,101]⟩ : ByteArray)) else (if ((rd_T24 l1 a2).f0) = 3 then (some (⟨#[102,97,108,115,101]⟩ : ByteArray)) else (if ((rd_T24 l1 a2).f0) = 4 then (racewayref29_insideO.j0 k a0 l1 a2 (⟨#[]⟩ : ByteArray) true ((rd_T24 l1 a2).f0) ((rd_T24 l1 a2).f1) ((rd_T24 l1 a2).f2) ((rd_T24 l1 a2).f3) ((rd_T24 l1 a2).f4)) else (racewayref29_insideO.j0 k a0 l1 a2 (⟨#[]⟩ : ByteArray) (((rd_T24 l1 a2).f0) == 5) ((rd_T24 l1 a2).f0) ((rd_T24 l1 a2).f1) ((rd_T24 l1 a2).f2) ((rd_T24 l1 a2).f3) ((rd_T24 l1 a2).f4))))) else (none)) else (none)
theorem racewayref29_insideO.mono_l : ∀ k,(∀ y0 y1 y2 y3 y4 y5 y6 y7 y8 y9,LeO (racewayref29_insideO.j0 k y0 y1 y2 y3 y4 y5 y6 y7 y8 y9) (racewayref29_insideO.j0 (k + 1) y0 y1 y2 y3 y4 y5 y6 y7 y8 y9)) ∧ (∀ y0 y1 y2 y3 y4 y5 y6,LeO (racewayref29_insideO.l0 k y0 y1 y2 y3 y4 y5 y6) (racewayref29_insideO.l0 (k + 1) y0 y1 y2 y3 y4 y5 y6)) ∧ (∀ y0 y1 y2 y3 y4 y5 y6 y7 y8 y9,LeO (racewayref29_insideO.l1 k y0 y1 y2 y3 y4 y5 y6 y7 y8 y9) (racewayref29_insideO.l1 (k + 1) y0 y1 y2 y3 y4 y5 y6 y7 y8 y9))
 | 0 => ⟨fun _ _ _ _ _ _ _ _ _ _ r h => by simp [racewayref29_insideO.j0] at h,fun _ _ _ _ _ _ _ r h => by simp [racewayref29_insideO.l0] at h,fun _ _ _ _ _ _ _ _ _ _ r h => by simp [racewayref29_insideO.l1] at h⟩
 | k + 1 => by
  obtain ⟨ih0,ih1,ih2⟩:=racewayref29_insideO.mono_l k
  refine ⟨?_,?_,?_⟩
  ·intro y0 y1 y2 y3 y4 y5 y6 y7 y8 y9
   unfold racewayref29_insideO.j0
   repeat' first
   | (with_reducible exact ih0 _ _ _ _ _ _ _ _ _ _)
   | (with_reducible exact ih1 _ _ _ _ _ _ _)
   | (with_reducible exact ih2 _ _ _ _ _ _ _ _ _ _)
   | (with_reducible exact Recracewayref29element.mono _ _ _ _)
   | (with_reducible exact LeO.refl _)
   | (with_reducible exact LeO.none _)
   | (with_reducible refine LeO.ite ?_ ?_)
   | (with_reducible refine LeO.bind ?_ (fun _ => ?_))
   | exact ih0 _ _ _ _ _ _ _ _ _ _
   | exact ih1 _ _ _ _ _ _ _
   | exact ih2 _ _ _ _ _ _ _ _ _ _
   | exact Recracewayref29element.mono _ _ _ _
   | exact LeO.none _
   | refine LeO.ite ?_ ?_
   | refine LeO.bind ?_ (fun _ => ?_)
  ·intro y0 y1 y2 y3 y4 y5 y6
   unfold racewayref29_insideO.l0
   repeat' first
   | (with_reducible exact ih0 _ _ _ _ _ _ _ _ _ _)
   | (with_reducible exact ih1 _ _ _ _ _ _ _)
   | (with_reducible exact ih2 _ _ _ _ _ _ _ _ _ _)
   | (with_reducible exact Recracewayref29element.mono _ _ _ _)
   | (with_reducible exact LeO.refl _)
   | (with_reducible exact LeO.none _)
   | (with_reducible refine LeO.ite ?_ ?_)
   | (with_reducible refine LeO.bind ?_ (fun _ => ?_))
   | exact ih0 _ _ _ _ _ _ _ _ _ _
   | exact ih1 _ _ _ _ _ _ _
   | exact ih2 _ _ _ _ _ _ _ _ _ _
   | exact Recracewayref29element.mono _ _ _ _
   | exact LeO.none _
   | refine LeO.ite ?_ ?_
   | refine LeO.bind ?_ (fun _ => ?_)
  ·intro y0 y1 y2 y3 y4 y5 y6 y7 y8 y9
   unfold racewayref29_insideO.l1
   repeat' first
   | (with_reducible exact ih0 _ _ _ _ _ _ _ _ _ _)
   | (with_reducible exact ih1 _ _ _ _ _ _ _)
   | (with_reducible exact ih2 _ _ _ _ _ _ _ _ _ _)
   | (with_reducible exact Recracewayref29element.mono _ _ _ _)
   | (with_reducible exact LeO.refl _)
   | (with_reducible exact LeO.none _)
   | (with_reducible refine LeO.ite ?_ ?_)
   | (with_reducible refine LeO.bind ?_ (fun _ => ?_))
   | exact ih0 _ _ _ _ _ _ _ _ _ _
   | exact ih1 _ _ _ _ _ _ _
   | exact ih2 _ _ _ _ _ _ _ _ _ _
   | exact Recracewayref29element.mono _ _ _ _
   | exact LeO.none _
   | refine LeO.ite ?_ ?_
   | refine LeO.bind ?_ (fun _ => ?_)
theorem racewayref29_insideO.mono : ∀ a0 a1 a2 k,LeO (racewayref29_insideO.f k a0 a1 a2) (racewayref29_insideO.f (k + 1) a0 a1 a2):=by
 intro a0 a1 a2 k
 obtain ⟨ih0,ih1,ih2⟩:=racewayref29_insideO.mono_l k
 unfold racewayref29_insideO.f
 repeat' first
   | (with_reducible exact ih0 _ _ _ _ _ _ _ _ _ _)
   | (with_reducible exact ih1 _ _ _ _ _ _ _)
   | (with_reducible exact ih2 _ _ _ _ _ _ _ _ _ _)
   | (with_reducible exact Recracewayref29element.mono _ _ _ _)
   | (with_reducible exact LeO.refl _)
   | (with_reducible exact LeO.none _)
   | (with_reducible refine LeO.ite ?_ ?_)
   | (with_reducible refine LeO.bind ?_ (fun _ => ?_))
   | exact ih0 _ _ _ _ _ _ _ _ _ _
   | exact ih1 _ _ _ _ _ _ _
   | exact ih2 _ _ _ _ _ _ _ _ _ _
   | exact Recracewayref29element.mono _ _ _ _
   | exact LeO.none _
   | refine LeO.ite ?_ ?_
   | refine LeO.bind ?_ (fun _ => ?_)
set_option maxHeartbeats 8000000 in
set_option maxRecDepth 100000 in
theorem racewayref29_insideO.calls (k : Nat) (a0 : ByteArray) (A1 : Option Addr) (c1 : Nat) (l1 : List (S24)) (a2 : Int) (r : ByteArray) (w : World) (hr1 : Kd.C k24 w A1 l1.length l1) (hc1 : l1.length ≤ c1) (h : racewayref29_insideO.f k a0 l1 a2 = some r) :
  Calls Tryd.prog 36 #[.string a0,.slice A1 l1.length c1,.int .i64 a2] w fun e w' => e = .returned (.string r) ∧ Below w.heap.size w w':=by
 have hu24:=Tryd.underlying24
 have HR1:=Aside0.mk hr1
 have HC1:=Aside0.mk hc1
 clear hr1 hc1
 have HB:=Aside0.mk (Below.refl w.heap.size w)
 have H : (if 0 ≤ a2 then (if a2 < (l1.length : Int) then (if ((rd_T24 l1 a2).f0) = 2 then (some (⟨#[116,114,117,101]⟩ : ByteArray)) else (if ((rd_T24 l1 a2).f0) = 3 then (some (⟨#[102,97,108,115,101]⟩ : ByteArray)) else (if ((rd_T24 l1 a2).f0) = 4 then (racewayref29_insideO.j0 k a0 l1 a2 (⟨#[]⟩ : ByteArray) true ((rd_T24 l1 a2).f0) ((rd_T24 l1 a2).f1) ((rd_T24 l1 a2).f2) ((rd_T24 l1 a2).f3) ((rd_T24 l1 a2).f4)) else (racewayref29_insideO.j0 k a0 l1 a2 (⟨#[]⟩ : ByteArray) (((rd_T24 l1 a2).f0) == 5) ((rd_T24 l1 a2).f0) ((rd_T24 l1 a2).f1) ((rd_T24 l1 a2).f2) ((rd_T24 l1 a2).f3) ((rd_T24 l1 a2).f4))))) else (none)) else (none)) = some r:=h
 clear h
 by_cases c4 : 0 ≤ a2
 ·rw [if_pos c4] at H
  have c4b0 : decide (0 ≤ a2) = true:=decide_eq_true c4
  clear c4
  by_cases c5 : a2 < (l1.length : Int)
  ·rw [if_pos c5] at H
   have c5b0 : decide (a2 < (l1.length : Int)) = true:=decide_eq_true c5
   clear c5
   by_cases c6 : ((rd_T24 l1 a2).f0) = 2
   ·rw [if_pos c6] at H
    have c6b0 : (((rd_T24 l1 a2).f0) == 2) = true:=beq_iff_eq.mpr c6
    have c6b1 : (((rd_T24 l1 a2).f0) != 2) = false:=bne_eq_false_iff_eq.mpr c6
    clear c6
    obtain rfl:=Option.some.inj H
    have p101 : 0 ≤ (a2 : Int):=of_decide_eq_true (by first|(with_reducible assumption)|assumption)
    have q101 : a2 < (l1.length : Int):=of_decide_eq_true (by first|(with_reducible assumption)|assumption)
    obtain ⟨ad101,e101,hx101_0,hx101_1,hx101_2,hx101_3,hx101_4⟩:=at_T24 HR1.out a2 p101 q101
    cases e101
    replace p101:=eq_true p101
    replace q101:=eq_true q101
    go_enter Tryd.func36,Tryd.ntmps36
    go_wp2_with (first|((with_reducible refine gate_dst (N:=7) rfl ?_);refine box_event ?hg (N:=7) ?hd (cs:=#[.int .i64 0,.int .i64 0,.int .i64 0,.string (⟨#[]⟩ : ByteArray),.string (⟨#[]⟩ : ByteArray)]) (t:=24) ?hr ?_;(case hd => rfl);(case hg => rfl);(case hr => first|(go_simp;done)|(go_simp;rfl));intro gb102 hg w7 hbox hb;have n0_:=Aside0.mk (below_step (by repeat (first|(with_reducible first|exact HB.out|apply below_alloc|apply pw_below_drewN|apply below_drew1)|exact HB.out)) hb);have n1_:=Aside0.mk (hbox);have n2_:=Aside0.mk ((by rw [hg];exact (below_size (by repeat (first|(with_reducible first|exact HB.out|apply below_alloc|apply pw_below_drewN|apply below_drew1)|exact HB.out))) : w.heap.size ≤ gb102));have n3_:=Aside0.mk ((by rw [hg];exact (below_size (by repeat (first|(with_reducible first|exact HB.out|apply below_alloc|apply pw_below_drewN|apply below_drew1)|exact HB.out))) : w.heap.size ≤ gb102));clear HB;have HB:=n0_;have BK102:=n1_;have GW102:=n2_;have GE102:=n3_;clear n0_ n1_ n2_ n3_;clear hb hbox hg;have hcz8_0 : w7.cell? ⟨gb102,0,none⟩ = some (.int .i64 0):=(blk_cell BK102.out 0).trans rfl;have hcz8_1 : w7.cell? ⟨gb102,1,none⟩ = some (.int .i64 0):=(blk_cell BK102.out 1).trans rfl;have hcz8_2 : w7.cell? ⟨gb102,2,none⟩ = some (.int .i64 0):=(blk_cell BK102.out 2).trans rfl;have hcz8_3 : w7.cell? ⟨gb102,3,none⟩ = some (.string (⟨#[]⟩ : ByteArray)):=(blk_cell BK102.out 3).trans rfl;have hcz8_4 : w7.cell? ⟨gb102,4,none⟩ = some (.string (⟨#[]⟩ : ByteArray)):=(blk_cell BK102.out 4).trans rfl;have hfz8_0:=blk_frozen BK102.out 0;have hfz8_1:=blk_frozen BK102.out 1;have hfz8_2:=blk_frozen BK102.out 2;have hfz8_3:=blk_frozen BK102.out 3;have hfz8_4:=blk_frozen BK102.out 4))
    go_ret
    exact ⟨by first|rfl|(simp [errW_none,errW_some] <;> rfl)|(simp [*,errW_none,errW_some] <;> rfl),by repeat (first|(with_reducible first|exact HB.out|apply below_alloc|apply pw_below_drewN|apply below_drew1|refine below_set ?_ GE102.out)|exact HB.out)⟩
   ·rw [if_neg c6] at H
    have c6b0 : (((rd_T24 l1 a2).f0) == 2) = false:=beq_eq_false_iff_ne.mpr c6
    have c6b1 : (((rd_T24 l1 a2).f0) != 2) = true:=bne_iff_ne.mpr c6
    by_cases c9 : ((rd_T24 l1 a2).f0) = 3
    ·rw [if_pos c9] at H
     have c9b0 : (((rd_T24 l1 a2).f0) == 3) = true:=beq_iff_eq.mpr c9
     have c9b1 : (((rd_T24 l1 a2).f0) != 3) = false:=bne_eq_false_iff_eq.mpr c9
     clear c9
     obtain rfl:=Option.some.inj H
     have p101 : 0 ≤ (a2 : Int):=of_decide_eq_true (by first|(with_reducible assumption)|assumption)
     have q101 : a2 < (l1.length : Int):=of_decide_eq_true (by first|(with_reducible assumption)|assumption)
     obtain ⟨ad101,e101,hx101_0,hx101_1,hx101_2,hx101_3,hx101_4⟩:=at_T24 HR1.out a2 p101 q101
     cases e101
     replace p101:=eq_true p101
     replace q101:=eq_true q101
     go_enter Tryd.func36,Tryd.ntmps36
     go_wp2_with (first|((with_reducible refine gate_dst (N:=7) rfl ?_);refine box_event ?hg (N:=7) ?hd (cs:=#[.int .i64 0,.int .i64 0,.int .i64 0,.string (⟨#[]⟩ : ByteArray),.string (⟨#[]⟩ : ByteArray)]) (t:=24) ?hr ?_;(case hd => rfl);(case hg => rfl);(case hr => first|(go_simp;done)|(go_simp;rfl));intro gb102 hg w10 hbox hb;have n0_:=Aside0.mk (below_step (by repeat (first|(with_reducible first|exact HB.out|apply below_alloc|apply pw_below_drewN|apply below_drew1)|exact HB.out)) hb);have n1_:=Aside0.mk (hbox);have n2_:=Aside0.mk ((by rw [hg];exact (below_size (by repeat (first|(with_reducible first|exact HB.out|apply below_alloc|apply pw_below_drewN|apply below_drew1)|exact HB.out))) : w.heap.size ≤ gb102));have n3_:=Aside0.mk ((by rw [hg];exact (below_size (by repeat (first|(with_reducible first|exact HB.out|apply below_alloc|apply pw_below_drewN|apply below_drew1)|exact HB.out))) : w.heap.size ≤ gb102));clear HB;have HB:=n0_;have BK102:=n1_;have GW102:=n2_;have GE102:=n3_;clear n0_ n1_ n2_ n3_;clear hb hbox hg;have hcz11_0 : w10.cell? ⟨gb102,0,none⟩ = some (.int .i64 0):=(blk_cell BK102.out 0).trans rfl;have hcz11_1 : w10.cell? ⟨gb102,1,none⟩ = some (.int .i64 0):=(blk_cell BK102.out 1).trans rfl;have hcz11_2 : w10.cell? ⟨gb102,2,none⟩ = some (.int .i64 0):=(blk_cell BK102.out 2).trans rfl;have hcz11_3 : w10.cell? ⟨gb102,3,none⟩ = some (.string (⟨#[]⟩ : ByteArray)):=(blk_cell BK102.out 3).trans rfl;have hcz11_4 : w10.cell? ⟨gb102,4,none⟩ = some (.string (⟨#[]⟩ : ByteArray)):=(blk_cell BK102.out 4).trans rfl;have hfz11_0:=blk_frozen BK102.out 0;have hfz11_1:=blk_frozen BK102.out 1;have hfz11_2:=blk_frozen BK102.out 2;have hfz11_3:=blk_frozen BK102.out 3;have hfz11_4:=blk_frozen BK102.out 4))
     go_ret
     exact ⟨by first|rfl|(simp [errW_none,errW_some] <;> rfl)|(simp [*,errW_none,errW_some] <;> rfl),by repeat (first|(with_reducible first|exact HB.out|apply below_alloc|apply pw_below_drewN|apply below_drew1|refine below_set ?_ GE102.out)|exact HB.out)⟩
    ·rw [if_neg c9] at H
     have c9b0 : (((rd_T24 l1 a2).f0) == 3) = false:=beq_eq_false_iff_ne.mpr c9
     have c9b1 : (((rd_T24 l1 a2).f0) != 3) = true:=bne_iff_ne.mpr c9
     have HC12:=Aside0.mk H
     clear H
     have p101 : 0 ≤ (a2 : Int):=of_decide_eq_true (by first|(with_reducible assumption)|assumption)
     have q101 : a2 < (l1.length : Int):=of_decide_eq_true (by first|(with_reducible assumption)|assumption)
     obtain ⟨ad101,e101,hx101_0,hx101_1,hx101_2,hx101_3,hx101_4⟩:=at_T24 HR1.out a2 p101 q101
     cases e101
     replace p101:=eq_true p101
     replace q101:=eq_true q101
     go_enter Tryd.func36,Tryd.ntmps36
     go_upto_region 7 with (first|((with_reducible refine gate_dst (N:=7) rfl ?_);refine box_event ?hg (N:=7) ?hd (cs:=#[.int .i64 0,.int .i64 0,.int .i64 0,.string (⟨#[]⟩ : ByteArray),.string (⟨#[]⟩ : ByteArray)]) (t:=24) ?hr ?_;(case hd => rfl);(case hg => rfl);(case hr => first|(go_simp;done)|(go_simp;rfl));intro gb102 hg w13 hbox hb;have n0_:=Aside0.mk (below_step (by repeat (first|(with_reducible first|exact HB.out|apply below_alloc|apply pw_below_drewN|apply below_drew1)|exact HB.out)) hb);have n1_:=Aside0.mk (hbox);have n2_:=Aside0.mk ((by rw [hg];exact (below_size (by repeat (first|(with_reducible first|exact HB.out|apply below_alloc|apply pw_below_drewN|apply below_drew1)|exact HB.out))) : w.heap.size ≤ gb102));have n3_:=Aside0.mk ((by rw [hg];exact (below_size (by repeat (first|(with_reducible first|exact HB.out|apply below_alloc|apply pw_below_drewN|apply below_drew1)|exact HB.out))) : w.heap.size ≤ gb102));clear HB;have HB:=n0_;have BK102:=n1_;have GW102:=n2_;have GE102:=n3_;clear n0_ n1_ n2_ n3_;clear hb hbox hg;have hcz14_0 : w13.cell? ⟨gb102,0,none⟩ = some (.int .i64 0):=(blk_cell BK102.out 0).trans rfl;have hcz14_1 : w13.cell? ⟨gb102,1,none⟩ = some (.int .i64 0):=(blk_cell BK102.out 1).trans rfl;have hcz14_2 : w13.cell? ⟨gb102,2,none⟩ = some (.int .i64 0):=(blk_cell BK102.out 2).trans rfl;have hcz14_3 : w13.cell? ⟨gb102,3,none⟩ = some (.string (⟨#[]⟩ : ByteArray)):=(blk_cell BK102.out 3).trans rfl;have hcz14_4 : w13.cell? ⟨gb102,4,none⟩ = some (.string (⟨#[]⟩ : ByteArray)):=(blk_cell BK102.out 4).trans rfl;have hfz14_0:=blk_frozen BK102.out 0;have hfz14_1:=blk_frozen BK102.out 1;have hfz14_2:=blk_frozen BK102.out 2;have hfz14_3:=blk_frozen BK102.out 3;have hfz14_4:=blk_frozen BK102.out 4))
     (try simp only [Act.put,List.setIfInBounds_toArray,List.set_cons_zero,List.set_cons_succ])
     go_cut [30] (fun v30 wc => ∃ (kq : Nat) (x30_11 : Bool),v30 = .bool x30_11 ∧ Aside0 (racewayref29_insideO.j0 kq a0 l1 a2 (⟨#[]⟩ : ByteArray) x30_11 ((rd_T24 l1 a2).f0) ((rd_T24 l1 a2).f1) ((rd_T24 l1 a2).f2) ((rd_T24 l1 a2).f3) ((rd_T24 l1 a2).f4) = some r) ∧ Aside0 (kq ≤ k) ∧ Aside0 (wc.heap[gb102]? = some (.cells #[.int .i64 ((rd_T24 l1 a2).f0),.int .i64 ((rd_T24 l1 a2).f1),.int .i64 ((rd_T24 l1 a2).f2),.string ((rd_T24 l1 a2).f3),.string ((rd_T24 l1 a2).f4)] 24 (0,0))) ∧ Aside0 (Below w.heap.size w wc))
     case first =>
      have H:=HC12.out
      clear HC12
      by_cases c15 : ((rd_T24 l1 a2).f0) = 4
      ·rw [if_pos c15] at H
       have c15b0 : (((rd_T24 l1 a2).f0) == 4) = true:=beq_iff_eq.mpr c15
       have c15b1 : (((rd_T24 l1 a2).f0) != 4) = false:=bne_eq_false_iff_eq.mpr c15
       clear c15
       (first|rw [c15b0]|(simp only [i64_w,i32_w];rw [c15b0])|skip)
       have H':=Aside0.mk H
       clear H
       have hcz16_0 : w13.cell? ⟨gb102,0,none⟩ = some (.int .i64 0):=(blk_cell BK102.out 0).trans rfl
       have hcz16_1 : w13.cell? ⟨gb102,1,none⟩ = some (.int .i64 0):=(blk_cell BK102.out 1).trans rfl
       have hcz16_2 : w13.cell? ⟨gb102,2,none⟩ = some (.int .i64 0):=(blk_cell BK102.out 2).trans rfl
       have hcz16_3 : w13.cell? ⟨gb102,3,none⟩ = some (.string (⟨#[]⟩ : ByteArray)):=(blk_cell BK102.out 3).trans rfl
       have hcz16_4 : w13.cell? ⟨gb102,4,none⟩ = some (.string (⟨#[]⟩ : ByteArray)):=(blk_cell BK102.out 4).trans rfl
       have hfz16_0:=blk_frozen BK102.out 0
       have hfz16_1:=blk_frozen BK102.out 1
       have hfz16_2:=blk_frozen BK102.out 2
       have hfz16_3:=blk_frozen BK102.out 3
       have hfz16_4:=blk_frozen BK102.out 4
       go_wp2
       go_meet
       case rel => exact ⟨_,(true),(by first|rfl|(simp;done)|(simp;decide +kernel)|(simp [*];done)),(by first|exact H'|(subst_vars;exact H')),⟨by first|omega|exact Nat.le_refl _⟩,⟨by (with_reducible repeat (first|refine blk_drewN ?_ _|refine blk_drew ?_|refine blk_alloc ?_ _));refine blk_put (cs:=#[.int .i64 ((rd_T24 l1 a2).f0),.int .i64 ((rd_T24 l1 a2).f1),.int .i64 ((rd_T24 l1 a2).f2),.string ((rd_T24 l1 a2).f3),.string (⟨#[]⟩ : ByteArray)]) ?_ 4 _ rfl;(with_reducible repeat (first|refine blk_drewN ?_ _|refine blk_drew ?_|refine blk_alloc ?_ _));refine blk_put (cs:=#[.int .i64 ((rd_T24 l1 a2).f0),.int .i64 ((rd_T24 l1 a2).f1),.int .i64 ((rd_T24 l1 a2).f2),.string (⟨#[]⟩ : ByteArray),.string (⟨#[]⟩ : ByteArray)]) ?_ 3 _ rfl;(with_reducible repeat (first|refine blk_drewN ?_ _|refine blk_drew ?_|refine blk_alloc ?_ _));refine blk_put (cs:=#[.int .i64 ((rd_T24 l1 a2).f0),.int .i64 ((rd_T24 l1 a2).f1),.int .i64 0,.string (⟨#[]⟩ : ByteArray),.string (⟨#[]⟩ : ByteArray)]) ?_ 2 _ rfl;(with_reducible repeat (first|refine blk_drewN ?_ _|refine blk_drew ?_|refine blk_alloc ?_ _));refine blk_put (cs:=#[.int .i64 ((rd_T24 l1 a2).f0),.int .i64 0,.int .i64 0,.string (⟨#[]⟩ : ByteArray),.string (⟨#[]⟩ : ByteArray)]) ?_ 1 _ rfl;(with_reducible repeat (first|refine blk_drewN ?_ _|refine blk_drew ?_|refine blk_alloc ?_ _));refine blk_put (cs:=#[.int .i64 0,.int .i64 0,.int .i64 0,.string (⟨#[]⟩ : ByteArray),.string (⟨#[]⟩ : ByteArray)]) ?_ 0 _ rfl;(with_reducible repeat (first|refine blk_drewN ?_ _|refine blk_drew ?_|refine blk_alloc ?_ _));exact BK102.out⟩,⟨by repeat (first|(with_reducible first|exact HB.out|apply below_alloc|apply pw_below_drewN|apply below_drew1|refine below_set ?_ GE102.out)|exact HB.out)⟩⟩
      ·rw [if_neg c15] at H
       have c15b0 : (((rd_T24 l1 a2).f0) == 4) = false:=beq_eq_false_iff_ne.mpr c15
       have c15b1 : (((rd_T24 l1 a2).f0) != 4) = true:=bne_iff_ne.mpr c15
       (first|rw [c15b0]|(simp only [i64_w,i32_w];rw [c15b0])|skip)
       have H':=Aside0.mk H
       clear H
       have hcz17_0 : w13.cell? ⟨gb102,0,none⟩ = some (.int .i64 0):=(blk_cell BK102.out 0).trans rfl
       have hcz17_1 : w13.cell? ⟨gb102,1,none⟩ = some (.int .i64 0):=(blk_cell BK102.out 1).trans rfl
       have hcz17_2 : w13.cell? ⟨gb102,2,none⟩ = some (.int .i64 0):=(blk_cell BK102.out 2).trans rfl
       have hcz17_3 : w13.cell? ⟨gb102,3,none⟩ = some (.string (⟨#[]⟩ : ByteArray)):=(blk_cell BK102.out 3).trans rfl
       have hcz17_4 : w13.cell? ⟨gb102,4,none⟩ = some (.string (⟨#[]⟩ : ByteArray)):=(blk_cell BK102.out 4).trans rfl
       have hfz17_0:=blk_frozen BK102.out 0
       have hfz17_1:=blk_frozen BK102.out 1
       have hfz17_2:=blk_frozen BK102.out 2
       have hfz17_3:=blk_frozen BK102.out 3
       have hfz17_4:=blk_frozen BK102.out 4
       go_wp2
       go_meet
       case rel => exact ⟨_,((((rd_T24 l1 a2).f0) == 5)),(by first|rfl|(simp;done)|(simp;decide +kernel)|(simp [*];done)),(by first|exact H'|(subst_vars;exact H')),⟨by first|omega|exact Nat.le_refl _⟩,⟨by (with_reducible repeat (first|refine blk_drewN ?_ _|refine blk_drew ?_|refine blk_alloc ?_ _));refine blk_put (cs:=#[.int .i64 ((rd_T24 l1 a2).f0),.int .i64 ((rd_T24 l1 a2).f1),.int .i64 ((rd_T24 l1 a2).f2),.string ((rd_T24 l1 a2).f3),.string (⟨#[]⟩ : ByteArray)]) ?_ 4 _ rfl;(with_reducible repeat (first|refine blk_drewN ?_ _|refine blk_drew ?_|refine blk_alloc ?_ _));refine blk_put (cs:=#[.int .i64 ((rd_T24 l1 a2).f0),.int .i64 ((rd_T24 l1 a2).f1),.int .i64 ((rd_T24 l1 a2).f2),.string (⟨#[]⟩ : ByteArray),.string (⟨#[]⟩ : ByteArray)]) ?_ 3 _ rfl;(with_reducible repeat (first|refine blk_drewN ?_ _|refine blk_drew ?_|refine blk_alloc ?_ _));refine blk_put (cs:=#[.int .i64 ((rd_T24 l1 a2).f0),.int .i64 ((rd_T24 l1 a2).f1),.int .i64 0,.string (⟨#[]⟩ : ByteArray),.string (⟨#[]⟩ : ByteArray)]) ?_ 2 _ rfl;(with_reducible repeat (first|refine blk_drewN ?_ _|refine blk_drew ?_|refine blk_alloc ?_ _));refine blk_put (cs:=#[.int .i64 ((rd_T24 l1 a2).f0),.int .i64 0,.int .i64 0,.string (⟨#[]⟩ : ByteArray),.string (⟨#[]⟩ : ByteArray)]) ?_ 1 _ rfl;(with_reducible repeat (first|refine blk_drewN ?_ _|refine blk_drew ?_|refine blk_alloc ?_ _));refine blk_put (cs:=#[.int .i64 0,.int .i64 0,.int .i64 0,.string (⟨#[]⟩ : ByteArray),.string (⟨#[]⟩ : ByteArray)]) ?_ 0 _ rfl;(with_reducible repeat (first|refine blk_drewN ?_ _|refine blk_drew ?_|refine blk_alloc ?_ _));exact BK102.out⟩,⟨by repeat (first|(with_reducible first|exact HB.out|apply below_alloc|apply pw_below_drewN|apply below_drew1|refine below_set ?_ GE102.out)|exact HB.out)⟩⟩
     case rest =>
      clear HC12
      try clear c1
      try clear p1
      try clear q1
      try clear hx1
      try clear p2
      try clear c3
      try clear c4
      try clear c4b0
      try clear c5
      try clear c5b0
      try clear c6
      try clear c6b0
      try clear c6b1
      try clear c9
      try clear c9b0
      try clear c9b1
      try clear p10
      try clear q10
      try clear hx10
      try clear c15
      try clear c15b0
      try clear c15b1
      try clear hcz11_0
      try clear hcz11_1
      try clear hcz11_2
      try clear hcz11_3
      try clear hcz11_4
      try clear hcz14_0
      try clear hcz14_1
      try clear hcz14_2
      try clear hcz14_3
      try clear hcz14_4
      try clear hcz16_0
      try clear hcz16_1
      try clear hcz16_2
      try clear hcz16_3
      try clear hcz16_4
      try clear hcz17_0
      try clear hcz17_1
      try clear hcz17_2
      try clear hcz17_3
      try clear hcz17_4
      try clear hcz8_0
      try clear hcz8_1
      try clear hcz8_2
      try clear hcz8_3
      try clear hcz8_4
      try clear hfz11_0
      try clear hfz11_1
      try clear hfz11_2
      try clear hfz11_3
      try clear hfz11_4
      try clear hfz14_0
      try clear hfz14_1
      try clear hfz14_2
      try clear hfz14_3
      try clear hfz14_4
      try clear hfz16_0
      try clear hfz16_1
      try clear hfz16_2
      try clear hfz16_3
      try clear hfz16_4
      try clear hfz17_0
      try clear hfz17_1
      try clear hfz17_2
      try clear hfz17_3
      try clear hfz17_4
      try clear hfz8_0
      try clear hfz8_1
      try clear hfz8_2
      try clear hfz8_3
      try clear hfz8_4
      try clear hx101_0
      try clear hx101_1
      try clear hx101_2
      try clear hx101_3
      try clear hx101_4
      try clear p101
      try clear q101
      obtain ⟨kq,x30_11,rfl,HA,HJ11,BK102,HB⟩:=hcut
      cases kq with
      | zero => exact absurd HA.out (by simp [racewayref29_insideO.j0])
      | succ kj11 =>
       have H:=HA.out
       clear HA
       simp only [racewayref29_insideO.j0] at H
       by_cases c18 : x30_11 = true
       ·subst c18
        have H1 : (racewayref29_insideO.l0 kj11 (⟨#[]⟩ : ByteArray) 0 ((rd_T24 l1 a2).f0) ((rd_T24 l1 a2).f1) ((rd_T24 l1 a2).f2) ((rd_T24 l1 a2).f3) ((rd_T24 l1 a2).f4)) = some r:=by rw [if_pos rfl] at H;exact H
        clear H
        have H:=H1
        clear H1
        have H':=Aside0.mk H
        clear H
        go_wp2
        go_simp
        go_loopg [8,9] kj11 (fun kq v8 v9 w' => ∃ (x8_2 : ByteArray) (x9_2 : Int),v8 = .string x8_2 ∧ v9 = .int .i64 x9_2 ∧ Aside0 (racewayref29_insideO.l0 kq x8_2 x9_2 ((rd_T24 l1 a2).f0) ((rd_T24 l1 a2).f1) ((rd_T24 l1 a2).f2) ((rd_T24 l1 a2).f3) ((rd_T24 l1 a2).f4) = some r) ∧ Aside0 (kq ≤ kj11) ∧ Aside0 (w'.heap[gb102]? = some (.cells #[.int .i64 ((rd_T24 l1 a2).f0),.int .i64 ((rd_T24 l1 a2).f1),.int .i64 ((rd_T24 l1 a2).f2),.string ((rd_T24 l1 a2).f3),.string ((rd_T24 l1 a2).f4)] 24 (0,0))) ∧ Aside0 (Below w.heap.size w w'))
        case atStart => exact ⟨((⟨#[]⟩ : ByteArray)),(0),(by first|rfl|(simp;done)|(simp;decide +kernel)|(simp [*];done)),(by first|rfl|(simp;done)|(simp;decide +kernel)|(simp [*];done)),(by first|exact H'|(subst_vars;exact H')),⟨Nat.le_refl _⟩,⟨by (with_reducible repeat (first|refine blk_drewN ?_ _|refine blk_drew ?_|refine blk_alloc ?_ _));exact BK102.out⟩,⟨by repeat (first|(with_reducible first|exact HB.out|apply below_alloc|apply pw_below_drewN|apply below_drew1|refine below_set ?_ GE102.out)|exact HB.out)⟩⟩
        case round =>
         clear H'
         try clear c1
         try clear p1
         try clear q1
         try clear hx1
         try clear p2
         try clear c3
         try clear c4
         try clear c4b0
         try clear c5
         try clear c5b0
         try clear c6
         try clear c6b0
         try clear c6b1
         try clear c9
         try clear c9b0
         try clear c9b1
         try clear p10
         try clear q10
         try clear hx10
         try clear c15
         try clear c15b0
         try clear c15b1
         try clear c18
         try clear hcz11_0
         try clear hcz11_1
         try clear hcz11_2
         try clear hcz11_3
         try clear hcz11_4
         try clear hcz14_0
         try clear hcz14_1
         try clear hcz14_2
         try clear hcz14_3
         try clear hcz14_4
         try clear hcz16_0
         try clear hcz16_1
         try clear hcz16_2
         try clear hcz16_3
         try clear hcz16_4
         try clear hcz17_0
         try clear hcz17_1
         try clear hcz17_2
         try clear hcz17_3
         try clear hcz17_4
         try clear hcz8_0
         try clear hcz8_1
         try clear hcz8_2
         try clear hcz8_3
         try clear hcz8_4
         try clear hfz11_0
         try clear hfz11_1
         try clear hfz11_2
         try clear hfz11_3
         try clear hfz11_4
         try clear hfz14_0
         try clear hfz14_1
         try clear hfz14_2
         try clear hfz14_3
         try clear hfz14_4
         try clear hfz16_0
         try clear hfz16_1
         try clear hfz16_2
         try clear hfz16_3
         try clear hfz16_4
         try clear hfz17_0
         try clear hfz17_1
         try clear hfz17_2
         try clear hfz17_3
         try clear hfz17_4
         try clear hfz8_0
         try clear hfz8_1
         try clear hfz8_2
         try clear hfz8_3
         try clear hfz8_4
         try clear hx101_0
         try clear hx101_1
         try clear hx101_2
         try clear hx101_3
         try clear hx101_4
         try clear p1
         try clear p10
         try clear p101
         try clear p2
         try clear q1
         try clear q10
         try clear q101
         obtain ⟨x8_2,x9_2,rfl,rfl,HA,HK2,BK102,HB⟩:=hrel
         cases gk with
         | zero => exact absurd HA.out (by simp [racewayref29_insideO.l0])
         | succ k2 =>
          have H:=HA.out
          clear HA
          simp only [racewayref29_insideO.l0] at H
          by_cases c19 : x9_2 < (((rd_T24 l1 a2).f4).size : Int)
          ·rw [if_pos c19] at H
           have c19b0 : decide (x9_2 < (((rd_T24 l1 a2).f4).size : Int)) = true:=decide_eq_true c19
           clear c19
           by_cases c20 : 0 ≤ x9_2
           ·rw [if_pos c20] at H
            have c20b0 : decide (0 ≤ x9_2) = true:=decide_eq_true c20
            clear c20
            by_cases c22 : (bt ((rd_T24 l1 a2).f4) x9_2) = 38
            ·rw [if_pos c22] at H
             have c22b0 : ((bt ((rd_T24 l1 a2).f4) x9_2) == 38) = true:=beq_iff_eq.mpr c22
             have c22b1 : ((bt ((rd_T24 l1 a2).f4) x9_2) != 38) = false:=bne_eq_false_iff_eq.mpr c22
             clear c22
             by_cases c23 : x8_2.size + 5 ≤ 9223372036854775807
             ·rw [if_pos c23] at H
              have c23b0:=eq_true c23
              have c23b1 : decide (x8_2.size + 5 ≤ 9223372036854775807) = true:=decide_eq_true c23
              try have c23b2 : (9223372036854775807 < x8_2.size + 5) = False:=eq_false (Nat.not_lt.2 c23)
              have H':=Aside0.mk H
              clear H
              have hcz24_0 : wr.cell? ⟨gb102,0,none⟩ = some (.int .i64 ((rd_T24 l1 a2).f0)):=(blk_cell BK102.out 0).trans rfl
              have hcz24_1 : wr.cell? ⟨gb102,1,none⟩ = some (.int .i64 ((rd_T24 l1 a2).f1)):=(blk_cell BK102.out 1).trans rfl
              have hcz24_2 : wr.cell? ⟨gb102,2,none⟩ = some (.int .i64 ((rd_T24 l1 a2).f2)):=(blk_cell BK102.out 2).trans rfl
              have hcz24_3 : wr.cell? ⟨gb102,3,none⟩ = some (.string ((rd_T24 l1 a2).f3)):=(blk_cell BK102.out 3).trans rfl
              have hcz24_4 : wr.cell? ⟨gb102,4,none⟩ = some (.string ((rd_T24 l1 a2).f4)):=(blk_cell BK102.out 4).trans rfl
              have hfz24_0:=blk_frozen BK102.out 0
              have hfz24_1:=blk_frozen BK102.out 1
              have hfz24_2:=blk_frozen BK102.out 2
              have hfz24_3:=blk_frozen BK102.out 3
              have hfz24_4:=blk_frozen BK102.out 4
              have p21 : 0 ≤ (x9_2 : Int):=of_decide_eq_true (by first|(with_reducible assumption)|assumption)
              have q21 : x9_2 < (((rd_T24 l1 a2).f4).size : Int):=of_decide_eq_true (by first|(with_reducible assumption)|assumption)
              have hx21:=bt_at ((rd_T24 l1 a2).f4) x9_2
              replace p21:=eq_true p21
              replace q21:=eq_true q21
              go_wp2
              go_roundg k2
              case measure => have:=HJ11.out;have:=HK2.out;omega
              case rel => exact ⟨(x8_2 ++ (⟨#[38,97,109,112,59]⟩ : ByteArray)),(wrap64 (x9_2 + 1)),(by first|rfl|(simp;done)|(simp;decide +kernel)|(simp [*];done)),(by first|rfl|(simp;done)|(simp;decide +kernel)|(simp [*];done)),(by first|exact H'|(subst_vars;exact H')),⟨by have:=HJ11.out;have:=HK2.out;omega⟩,⟨by (with_reducible repeat (first|refine blk_drewN ?_ _|refine blk_drew ?_|refine blk_alloc ?_ _));exact BK102.out⟩,⟨by repeat (first|(with_reducible first|exact HB.out|apply below_alloc|apply pw_below_drewN|apply below_drew1|refine below_set ?_ GE102.out)|exact HB.out)⟩⟩
             ·rw [if_neg c23] at H
              exact absurd H (by simp)
            ·rw [if_neg c22] at H
             have c22b0 : ((bt ((rd_T24 l1 a2).f4) x9_2) == 38) = false:=beq_eq_false_iff_ne.mpr c22
             have c22b1 : ((bt ((rd_T24 l1 a2).f4) x9_2) != 38) = true:=bne_iff_ne.mpr c22
             by_cases c25 : (bt ((rd_T24 l1 a2).f4) x9_2) = 60
             ·rw [if_pos c25] at H
              have c25b0 : ((bt ((rd_T24 l1 a2).f4) x9_2) == 60) = true:=beq_iff_eq.mpr c25
              have c25b1 : ((bt ((rd_T24 l1 a2).f4) x9_2) != 60) = false:=bne_eq_false_iff_eq.mpr c25
              clear c25
              by_cases c26 : x8_2.size + 4 ≤ 9223372036854775807
              ·rw [if_pos c26] at H
               have c26b0:=eq_true c26
               have c26b1 : decide (x8_2.size + 4 ≤ 9223372036854775807) = true:=decide_eq_true c26
               try have c26b2 : (9223372036854775807 < x8_2.size + 4) = False:=eq_false (Nat.not_lt.2 c26)
               have H':=Aside0.mk H
               clear H
               have hcz27_0 : wr.cell? ⟨gb102,0,none⟩ = some (.int .i64 ((rd_T24 l1 a2).f0)):=(blk_cell BK102.out 0).trans rfl
               have hcz27_1 : wr.cell? ⟨gb102,1,none⟩ = some (.int .i64 ((rd_T24 l1 a2).f1)):=(blk_cell BK102.out 1).trans rfl
               have hcz27_2 : wr.cell? ⟨gb102,2,none⟩ = some (.int .i64 ((rd_T24 l1 a2).f2)):=(blk_cell BK102.out 2).trans rfl
               have hcz27_3 : wr.cell? ⟨gb102,3,none⟩ = some (.string ((rd_T24 l1 a2).f3)):=(blk_cell BK102.out 3).trans rfl
               have hcz27_4 : wr.cell? ⟨gb102,4,none⟩ = some (.string ((rd_T24 l1 a2).f4)):=(blk_cell BK102.out 4).trans rfl
               have hfz27_0:=blk_frozen BK102.out 0
               have hfz27_1:=blk_frozen BK102.out 1
               have hfz27_2:=blk_frozen BK102.out 2
               have hfz27_3:=blk_frozen BK102.out 3
               have hfz27_4:=blk_frozen BK102.out 4
               have p21 : 0 ≤ (x9_2 : Int):=of_decide_eq_true (by first|(with_reducible assumption)|assumption)
               have q21 : x9_2 < (((rd_T24 l1 a2).f4).size : Int):=of_decide_eq_true (by first|(with_reducible assumption)|assumption)
               have hx21:=bt_at ((rd_T24 l1 a2).f4) x9_2
               replace p21:=eq_true p21
               replace q21:=eq_true q21
               go_wp2
               go_roundg k2
               case measure => have:=HJ11.out;have:=HK2.out;omega
               case rel => exact ⟨(x8_2 ++ (⟨#[38,108,116,59]⟩ : ByteArray)),(wrap64 (x9_2 + 1)),(by first|rfl|(simp;done)|(simp;decide +kernel)|(simp [*];done)),(by first|rfl|(simp;done)|(simp;decide +kernel)|(simp [*];done)),(by first|exact H'|(subst_vars;exact H')),⟨by have:=HJ11.out;have:=HK2.out;omega⟩,⟨by (with_reducible repeat (first|refine blk_drewN ?_ _|refine blk_drew ?_|refine blk_alloc ?_ _));exact BK102.out⟩,⟨by repeat (first|(with_reducible first|exact HB.out|apply below_alloc|apply pw_below_drewN|apply below_drew1|refine below_set ?_ GE102.out)|exact HB.out)⟩⟩
              ·rw [if_neg c26] at H
               exact absurd H (by simp)
             ·rw [if_neg c25] at H
              have c25b0 : ((bt ((rd_T24 l1 a2).f4) x9_2) == 60) = false:=beq_eq_false_iff_ne.mpr c25
              have c25b1 : ((bt ((rd_T24 l1 a2).f4) x9_2) != 60) = true:=bne_iff_ne.mpr c25
              by_cases c28 : (bt ((rd_T24 l1 a2).f4) x9_2) = 62
              ·rw [if_pos c28] at H
               have c28b0 : ((bt ((rd_T24 l1 a2).f4) x9_2) == 62) = true:=beq_iff_eq.mpr c28
               have c28b1 : ((bt ((rd_T24 l1 a2).f4) x9_2) != 62) = false:=bne_eq_false_iff_eq.mpr c28
               clear c28
               by_cases c29 : x8_2.size + 4 ≤ 9223372036854775807
               ·rw [if_pos c29] at H
                have c29b0:=eq_true c29
                have c29b1 : decide (x8_2.size + 4 ≤ 9223372036854775807) = true:=decide_eq_true c29
                try have c29b2 : (9223372036854775807 < x8_2.size + 4) = False:=eq_false (Nat.not_lt.2 c29)
                have H':=Aside0.mk H
                clear H
                have hcz30_0 : wr.cell? ⟨gb102,0,none⟩ = some (.int .i64 ((rd_T24 l1 a2).f0)):=(blk_cell BK102.out 0).trans rfl
                have hcz30_1 : wr.cell? ⟨gb102,1,none⟩ = some (.int .i64 ((rd_T24 l1 a2).f1)):=(blk_cell BK102.out 1).trans rfl
                have hcz30_2 : wr.cell? ⟨gb102,2,none⟩ = some (.int .i64 ((rd_T24 l1 a2).f2)):=(blk_cell BK102.out 2).trans rfl
                have hcz30_3 : wr.cell? ⟨gb102,3,none⟩ = some (.string ((rd_T24 l1 a2).f3)):=(blk_cell BK102.out 3).trans rfl
                have hcz30_4 : wr.cell? ⟨gb102,4,none⟩ = some (.string ((rd_T24 l1 a2).f4)):=(blk_cell BK102.out 4).trans rfl
                have hfz30_0:=blk_frozen BK102.out 0
                have hfz30_1:=blk_frozen BK102.out 1
                have hfz30_2:=blk_frozen BK102.out 2
                have hfz30_3:=blk_frozen BK102.out 3
                have hfz30_4:=blk_frozen BK102.out 4
                have p21 : 0 ≤ (x9_2 : Int):=of_decide_eq_true (by first|(with_reducible assumption)|assumption)
                have q21 : x9_2 < (((rd_T24 l1 a2).f4).size : Int):=of_decide_eq_true (by first|(with_reducible assumption)|assumption)
                have hx21:=bt_at ((rd_T24 l1 a2).f4) x9_2
                replace p21:=eq_true p21
                replace q21:=eq_true q21
                go_wp2
                go_roundg k2
                case measure => have:=HJ11.out;have:=HK2.out;omega
                case rel => exact ⟨(x8_2 ++ (⟨#[38,103,116,59]⟩ : ByteArray)),(wrap64 (x9_2 + 1)),(by first|rfl|(simp;done)|(simp;decide +kernel)|(simp [*];done)),(by first|rfl|(simp;done)|(simp;decide +kernel)|(simp [*];done)),(by first|exact H'|(subst_vars;exact H')),⟨by have:=HJ11.out;have:=HK2.out;omega⟩,⟨by (with_reducible repeat (first|refine blk_drewN ?_ _|refine blk_drew ?_|refine blk_alloc ?_ _));exact BK102.out⟩,⟨by repeat (first|(with_reducible first|exact HB.out|apply below_alloc|apply pw_below_drewN|apply below_drew1|refine below_set ?_ GE102.out)|exact HB.out)⟩⟩
               ·rw [if_neg c29] at H
                exact absurd H (by simp)
              ·rw [if_neg c28] at H
               have c28b0 : ((bt ((rd_T24 l1 a2).f4) x9_2) == 62) = false:=beq_eq_false_iff_ne.mpr c28
               have c28b1 : ((bt ((rd_T24 l1 a2).f4) x9_2) != 62) = true:=bne_iff_ne.mpr c28
               by_cases c31 : (bt ((rd_T24 l1 a2).f4) x9_2) = 34
               ·rw [if_pos c31] at H
                have c31b0 : ((bt ((rd_T24 l1 a2).f4) x9_2) == 34) = true:=beq_iff_eq.mpr c31
                have c31b1 : ((bt ((rd_T24 l1 a2).f4) x9_2) != 34) = false:=bne_eq_false_iff_eq.mpr c31
                clear c31
                by_cases c32 : x8_2.size + 6 ≤ 9223372036854775807
                ·rw [if_pos c32] at H
                 have c32b0:=eq_true c32
                 have c32b1 : decide (x8_2.size + 6 ≤ 9223372036854775807) = true:=decide_eq_true c32
                 try have c32b2 : (9223372036854775807 < x8_2.size + 6) = False:=eq_false (Nat.not_lt.2 c32)
                 have H':=Aside0.mk H
                 clear H
                 have hcz33_0 : wr.cell? ⟨gb102,0,none⟩ = some (.int .i64 ((rd_T24 l1 a2).f0)):=(blk_cell BK102.out 0).trans rfl
                 have hcz33_1 : wr.cell? ⟨gb102,1,none⟩ = some (.int .i64 ((rd_T24 l1 a2).f1)):=(blk_cell BK102.out 1).trans rfl
                 have hcz33_2 : wr.cell? ⟨gb102,2,none⟩ = some (.int .i64 ((rd_T24 l1 a2).f2)):=(blk_cell BK102.out 2).trans rfl
                 have hcz33_3 : wr.cell? ⟨gb102,3,none⟩ = some (.string ((rd_T24 l1 a2).f3)):=(blk_cell BK102.out 3).trans rfl
                 have hcz33_4 : wr.cell? ⟨gb102,4,none⟩ = some (.string ((rd_T24 l1 a2).f4)):=(blk_cell BK102.out 4).trans rfl
                 have hfz33_0:=blk_frozen BK102.out 0
                 have hfz33_1:=blk_frozen BK102.out 1
                 have hfz33_2:=blk_frozen BK102.out 2
                 have hfz33_3:=blk_frozen BK102.out 3
                 have hfz33_4:=blk_frozen BK102.out 4
                 have p21 : 0 ≤ (x9_2 : Int):=of_decide_eq_true (by first|(with_reducible assumption)|assumption)
                 have q21 : x9_2 < (((rd_T24 l1 a2).f4).size : Int):=of_decide_eq_true (by first|(with_reducible assumption)|assumption)
                 have hx21:=bt_at ((rd_T24 l1 a2).f4) x9_2
                 replace p21:=eq_true p21
                 replace q21:=eq_true q21
                 go_wp2
                 go_roundg k2
                 case measure => have:=HJ11.out;have:=HK2.out;omega
                 case rel => exact ⟨(x8_2 ++ (⟨#[38,113,117,111,116,59]⟩ : ByteArray)),(wrap64 (x9_2 + 1)),(by first|rfl|(simp;done)|(simp;decide +kernel)|(simp [*];done)),(by first|rfl|(simp;done)|(simp;decide +kernel)|(simp [*];done)),(by first|exact H'|(subst_vars;exact H')),⟨by have:=HJ11.out;have:=HK2.out;omega⟩,⟨by (with_reducible repeat (first|refine blk_drewN ?_ _|refine blk_drew ?_|refine blk_alloc ?_ _));exact BK102.out⟩,⟨by repeat (first|(with_reducible first|exact HB.out|apply below_alloc|apply pw_below_drewN|apply below_drew1|refine below_set ?_ GE102.out)|exact HB.out)⟩⟩
                ·rw [if_neg c32] at H
                 exact absurd H (by simp)
               ·rw [if_neg c31] at H
                have c31b0 : ((bt ((rd_T24 l1 a2).f4) x9_2) == 34) = false:=beq_eq_false_iff_ne.mpr c31
                have c31b1 : ((bt ((rd_T24 l1 a2).f4) x9_2) != 34) = true:=bne_iff_ne.mpr c31
                have c34b0:=eq_true (of_decide_eq_true (by first|(with_reducible assumption)|assumption) : 0 ≤ x9_2)
                by_cases c35 : x9_2 ≤ (wrap64 (x9_2 + 1))
                ·rw [if_pos c35] at H
                 have c35b0:=eq_true c35
                 have c35b1 : decide (x9_2 ≤ (wrap64 (x9_2 + 1))) = true:=decide_eq_true c35
                 by_cases c36 : (wrap64 (x9_2 + 1)) ≤ (((rd_T24 l1 a2).f4).size : Int)
                 ·rw [if_pos c36] at H
                  have c36b0:=eq_true c36
                  have c36b1 : decide ((wrap64 (x9_2 + 1)) ≤ (((rd_T24 l1 a2).f4).size : Int)) = true:=decide_eq_true c36
                  by_cases c37 : x8_2.size + (((rd_T24 l1 a2).f4).extract (x9_2 : Int).toNat ((wrap64 (x9_2 + 1)) : Int).toNat).size ≤ 9223372036854775807
                  ·rw [if_pos c37] at H
                   have c37b0:=eq_true c37
                   have c37b1 : decide (x8_2.size + (((rd_T24 l1 a2).f4).extract (x9_2 : Int).toNat ((wrap64 (x9_2 + 1)) : Int).toNat).size ≤ 9223372036854775807) = true:=decide_eq_true c37
                   try have c37b2 : (9223372036854775807 < x8_2.size + (((rd_T24 l1 a2).f4).extract (x9_2 : Int).toNat ((wrap64 (x9_2 + 1)) : Int).toNat).size) = False:=eq_false (Nat.not_lt.2 c37)
                   have H':=Aside0.mk H
                   clear H
                   have hcz38_0 : wr.cell? ⟨gb102,0,none⟩ = some (.int .i64 ((rd_T24 l1 a2).f0)):=(blk_cell BK102.out 0).trans rfl
                   have hcz38_1 : wr.cell? ⟨gb102,1,none⟩ = some (.int .i64 ((rd_T24 l1 a2).f1)):=(blk_cell BK102.out 1).trans rfl
                   have hcz38_2 : wr.cell? ⟨gb102,2,none⟩ = some (.int .i64 ((rd_T24 l1 a2).f2)):=(blk_cell BK102.out 2).trans rfl
                   have hcz38_3 : wr.cell? ⟨gb102,3,none⟩ = some (.string ((rd_T24 l1 a2).f3)):=(blk_cell BK102.out 3).trans rfl
                   have hcz38_4 : wr.cell? ⟨gb102,4,none⟩ = some (.string ((rd_T24 l1 a2).f4)):=(blk_cell BK102.out 4).trans rfl
                   have hfz38_0:=blk_frozen BK102.out 0
                   have hfz38_1:=blk_frozen BK102.out 1
                   have hfz38_2:=blk_frozen BK102.out 2
                   have hfz38_3:=blk_frozen BK102.out 3
                   have hfz38_4:=blk_frozen BK102.out 4
                   have p21 : 0 ≤ (x9_2 : Int):=of_decide_eq_true (by first|(with_reducible assumption)|assumption)
                   have q21 : x9_2 < (((rd_T24 l1 a2).f4).size : Int):=of_decide_eq_true (by first|(with_reducible assumption)|assumption)
                   have hx21:=bt_at ((rd_T24 l1 a2).f4) x9_2
                   replace p21:=eq_true p21
                   replace q21:=eq_true q21
                   go_wp2
                   go_roundg k2
                   case measure => have:=HJ11.out;have:=HK2.out;omega
                   case rel => exact ⟨(x8_2 ++ (((rd_T24 l1 a2).f4).extract (x9_2 : Int).toNat ((wrap64 (x9_2 + 1)) : Int).toNat)),(wrap64 (x9_2 + 1)),(by first|rfl|(simp;done)|(simp;decide +kernel)|(simp [*];done)),(by first|rfl|(simp;done)|(simp;decide +kernel)|(simp [*];done)),(by first|exact H'|(subst_vars;exact H')),⟨by have:=HJ11.out;have:=HK2.out;omega⟩,⟨by (with_reducible repeat (first|refine blk_drewN ?_ _|refine blk_drew ?_|refine blk_alloc ?_ _));exact BK102.out⟩,⟨by repeat (first|(with_reducible first|exact HB.out|apply below_alloc|apply pw_below_drewN|apply below_drew1|refine below_set ?_ GE102.out)|exact HB.out)⟩⟩
                  ·rw [if_neg c37] at H
                   exact absurd H (by simp)
                 ·rw [if_neg c36] at H
                  exact absurd H (by simp)
                ·rw [if_neg c35] at H
                 exact absurd H (by simp)
           ·rw [if_neg c20] at H
            exact absurd H (by simp)
          ·rw [if_neg c19] at H
           have c19b0 : decide (x9_2 < (((rd_T24 l1 a2).f4).size : Int)) = false:=decide_eq_false c19
           clear c19
           obtain rfl:=Option.some.inj H
           have hcz39_0 : wr.cell? ⟨gb102,0,none⟩ = some (.int .i64 ((rd_T24 l1 a2).f0)):=(blk_cell BK102.out 0).trans rfl
           have hcz39_1 : wr.cell? ⟨gb102,1,none⟩ = some (.int .i64 ((rd_T24 l1 a2).f1)):=(blk_cell BK102.out 1).trans rfl
           have hcz39_2 : wr.cell? ⟨gb102,2,none⟩ = some (.int .i64 ((rd_T24 l1 a2).f2)):=(blk_cell BK102.out 2).trans rfl
           have hcz39_3 : wr.cell? ⟨gb102,3,none⟩ = some (.string ((rd_T24 l1 a2).f3)):=(blk_cell BK102.out 3).trans rfl
           have hcz39_4 : wr.cell? ⟨gb102,4,none⟩ = some (.string ((rd_T24 l1 a2).f4)):=(blk_cell BK102.out 4).trans rfl
           have hfz39_0:=blk_frozen BK102.out 0
           have hfz39_1:=blk_frozen BK102.out 1
           have hfz39_2:=blk_frozen BK102.out 2
           have hfz39_3:=blk_frozen BK102.out 3
           have hfz39_4:=blk_frozen BK102.out 4
           go_wp2
           go_ret
           exact ⟨by first|rfl|(simp [errW_none,errW_some] <;> rfl)|(simp [*,errW_none,errW_some] <;> rfl),by repeat (first|(with_reducible first|exact HB.out|apply below_alloc|apply pw_below_drewN|apply below_drew1|refine below_set ?_ GE102.out)|exact HB.out)⟩
       ·replace c18:=Bool.eq_false_iff.mpr c18
        subst c18
        have H1 : (racewayref29_insideO.l1 kj11 a0 l1 (⟨#[]⟩ : ByteArray) (wrap64 (a2 + 1)) 0 ((rd_T24 l1 a2).f0) ((rd_T24 l1 a2).f1) ((rd_T24 l1 a2).f2) ((rd_T24 l1 a2).f3) ((rd_T24 l1 a2).f4)) = some r:=by rw [if_neg (show ¬ (false = true) by decide)] at H;exact H
        clear H
        have H:=H1
        clear H1
        have H':=Aside0.mk H
        clear H
        go_wp2
        go_simp
        go_loopg [8,10,11] kj11 (fun kq v8 v10 v11 w' => ∃ (x8_2 : ByteArray) (x10_2 : Int) (x11_2 : Int),v8 = .string x8_2 ∧ v10 = .int .i64 x10_2 ∧ v11 = .int .i64 x11_2 ∧ Aside0 (racewayref29_insideO.l1 kq a0 l1 x8_2 x10_2 x11_2 ((rd_T24 l1 a2).f0) ((rd_T24 l1 a2).f1) ((rd_T24 l1 a2).f2) ((rd_T24 l1 a2).f3) ((rd_T24 l1 a2).f4) = some r) ∧ Aside0 (kq ≤ kj11) ∧ Aside0 (w'.heap[gb102]? = some (.cells #[.int .i64 ((rd_T24 l1 a2).f0),.int .i64 ((rd_T24 l1 a2).f1),.int .i64 ((rd_T24 l1 a2).f2),.string ((rd_T24 l1 a2).f3),.string ((rd_T24 l1 a2).f4)] 24 (0,0))) ∧ Aside0 (Below w.heap.size w w'))
        case atStart => exact ⟨((⟨#[]⟩ : ByteArray)),(wrap64 (a2 + 1)),(0),(by first|rfl|(simp;done)|(simp;decide +kernel)|(simp [*];done)),(by first|rfl|(simp;done)|(simp;decide +kernel)|(simp [*];done)),(by first|rfl|(simp;done)|(simp;decide +kernel)|(simp [*];done)),(by first|exact H'|(subst_vars;exact H')),⟨Nat.le_refl _⟩,⟨by (with_reducible repeat (first|refine blk_drewN ?_ _|refine blk_drew ?_|refine blk_alloc ?_ _));exact BK102.out⟩,⟨by repeat (first|(with_reducible first|exact HB.out|apply below_alloc|apply pw_below_drewN|apply below_drew1|refine below_set ?_ GE102.out)|exact HB.out)⟩⟩
        case round =>
         clear H'
         try clear c1
         try clear p1
         try clear q1
         try clear hx1
         try clear c2
         try clear p2
         try clear q2
         try clear hx2
         try clear c3
         try clear c4
         try clear c4b0
         try clear c5
         try clear c5b0
         try clear c6
         try clear c6b0
         try clear c6b1
         try clear p6
         try clear c9
         try clear c9b0
         try clear c9b1
         try clear p10
         try clear q10
         try clear hx10
         try clear c15
         try clear c15b0
         try clear c15b1
         try clear c18
         try clear c19
         try clear c19b0
         try clear c20
         try clear c20b0
         try clear p21
         try clear q21
         try clear hx21
         try clear c22
         try clear c22b0
         try clear c22b1
         try clear c23
         try clear c23b0
         try clear c23b1
         try clear c23b2
         try clear c25
         try clear c25b0
         try clear c25b1
         try clear c26
         try clear c26b0
         try clear c26b1
         try clear c26b2
         try clear c28
         try clear c28b0
         try clear c28b1
         try clear c29
         try clear c29b0
         try clear c29b1
         try clear c29b2
         try clear c31
         try clear c31b0
         try clear c31b1
         try clear c32
         try clear c32b0
         try clear c32b1
         try clear c32b2
         try clear c34
         try clear c34b0
         try clear c35
         try clear c35b0
         try clear c35b1
         try clear c36
         try clear c36b0
         try clear c36b1
         try clear c37
         try clear c37b0
         try clear c37b1
         try clear c37b2
         try clear hcz11_0
         try clear hcz11_1
         try clear hcz11_2
         try clear hcz11_3
         try clear hcz11_4
         try clear hcz14_0
         try clear hcz14_1
         try clear hcz14_2
         try clear hcz14_3
         try clear hcz14_4
         try clear hcz16_0
         try clear hcz16_1
         try clear hcz16_2
         try clear hcz16_3
         try clear hcz16_4
         try clear hcz17_0
         try clear hcz17_1
         try clear hcz17_2
         try clear hcz17_3
         try clear hcz17_4
         try clear hcz24_0
         try clear hcz24_1
         try clear hcz24_2
         try clear hcz24_3
         try clear hcz24_4
         try clear hcz27_0
         try clear hcz27_1
         try clear hcz27_2
         try clear hcz27_3
         try clear hcz27_4
         try clear hcz30_0
         try clear hcz30_1
         try clear hcz30_2
         try clear hcz30_3
         try clear hcz30_4
         try clear hcz33_0
         try clear hcz33_1
         try clear hcz33_2
         try clear hcz33_3
         try clear hcz33_4
         try clear hcz38_0
         try clear hcz38_1
         try clear hcz38_2
         try clear hcz38_3
         try clear hcz38_4
         try clear hcz39_0
         try clear hcz39_1
         try clear hcz39_2
         try clear hcz39_3
         try clear hcz39_4
         try clear hcz8_0
         try clear hcz8_1
         try clear hcz8_2
         try clear hcz8_3
         try clear hcz8_4
         try clear hfz11_0
         try clear hfz11_1
         try clear hfz11_2
         try clear hfz11_3
         try clear hfz11_4
         try clear hfz14_0
         try clear hfz14_1
         try clear hfz14_2
         try clear hfz14_3
         try clear hfz14_4
         try clear hfz16_0
         try clear hfz16_1
         try clear hfz16_2
         try clear hfz16_3
         try clear hfz16_4
         try clear hfz17_0
         try clear hfz17_1
         try clear hfz17_2
         try clear hfz17_3
         try clear hfz17_4
         try clear hfz24_0
         try clear hfz24_1
         try clear hfz24_2
         try clear hfz24_3
         try clear hfz24_4
         try clear hfz27_0
         try clear hfz27_1
         try clear hfz27_2
         try clear hfz27_3
         try clear hfz27_4
         try clear hfz30_0
         try clear hfz30_1
         try clear hfz30_2
         try clear hfz30_3
         try clear hfz30_4
         try clear hfz33_0
         try clear hfz33_1
         try clear hfz33_2
         try clear hfz33_3
         try clear hfz33_4
         try clear hfz38_0
         try clear hfz38_1
         try clear hfz38_2
         try clear hfz38_3
         try clear hfz38_4
         try clear hfz39_0
         try clear hfz39_1
         try clear hfz39_2
         try clear hfz39_3
         try clear hfz39_4
         try clear hfz8_0
         try clear hfz8_1
         try clear hfz8_2
         try clear hfz8_3
         try clear hfz8_4
         try clear hx101_0
         try clear hx101_1
         try clear hx101_2
         try clear hx101_3
         try clear hx101_4
         try clear p1
         try clear p10
         try clear p101
         try clear p2
         try clear p21
         try clear q1
         try clear q10
         try clear q101
         try clear q21
         obtain ⟨x8_2,x10_2,x11_2,rfl,rfl,rfl,HA,HK2,BK102,HB⟩:=hrel
         cases gk with
         | zero => exact absurd HA.out (by simp [racewayref29_insideO.l1])
         | succ k2 =>
          have H:=HA.out
          clear HA
          simp only [racewayref29_insideO.l1] at H
          by_cases c40 : x11_2 < ((rd_T24 l1 a2).f2)
          ·rw [if_pos c40] at H
           have c40b0 : decide (x11_2 < ((rd_T24 l1 a2).f2)) = true:=decide_eq_true c40
           clear c40
           by_cases c41 : ((rd_T24 l1 a2).f0) = 7
           ·rw [if_pos c41] at H
            have c41b0 : (((rd_T24 l1 a2).f0) == 7) = true:=beq_iff_eq.mpr c41
            have c41b1 : (((rd_T24 l1 a2).f0) != 7) = false:=bne_eq_false_iff_eq.mpr c41
            clear c41
            by_cases c42 : 0 ≤ x10_2
            ·rw [if_pos c42] at H
             have c42b0 : decide (0 ≤ x10_2) = true:=decide_eq_true c42
             clear c42
             by_cases c43 : x10_2 < (l1.length : Int)
             ·rw [if_pos c43] at H
              have c43b0 : decide (x10_2 < (l1.length : Int)) = true:=decide_eq_true c43
              clear c43
              replace H:=Option.bind_eq_some_iff.mp H
              obtain ⟨t104,A440,H⟩:=H
              replace H : (if x8_2.size + t104.size ≤ 9223372036854775807 then (racewayref29_insideO.l1 k2 a0 l1 (x8_2 ++ t104) (wrap64 (x10_2 + ((rd_T24 l1 x10_2).f1))) (wrap64 (x11_2 + 1)) ((rd_T24 l1 a2).f0) ((rd_T24 l1 a2).f1) ((rd_T24 l1 a2).f2) ((rd_T24 l1 a2).f3) ((rd_T24 l1 a2).f4)) else (none)) = some r:=H
              have A44:=Aside0.mk A440
              clear A440
              by_cases c45 : x8_2.size + t104.size ≤ 9223372036854775807
              ·rw [if_pos c45] at H
               have c45b0:=eq_true c45
               have c45b1 : decide (x8_2.size + t104.size ≤ 9223372036854775807) = true:=decide_eq_true c45
               try have c45b2 : (9223372036854775807 < x8_2.size + t104.size) = False:=eq_false (Nat.not_lt.2 c45)
               have H':=Aside0.mk H
               clear H
               have hcz46_0 : wr.cell? ⟨gb102,0,none⟩ = some (.int .i64 ((rd_T24 l1 a2).f0)):=(blk_cell BK102.out 0).trans rfl
               have hcz46_1 : wr.cell? ⟨gb102,1,none⟩ = some (.int .i64 ((rd_T24 l1 a2).f1)):=(blk_cell BK102.out 1).trans rfl
               have hcz46_2 : wr.cell? ⟨gb102,2,none⟩ = some (.int .i64 ((rd_T24 l1 a2).f2)):=(blk_cell BK102.out 2).trans rfl
               have hcz46_3 : wr.cell? ⟨gb102,3,none⟩ = some (.string ((rd_T24 l1 a2).f3)):=(blk_cell BK102.out 3).trans rfl
               have hcz46_4 : wr.cell? ⟨gb102,4,none⟩ = some (.string ((rd_T24 l1 a2).f4)):=(blk_cell BK102.out 4).trans rfl
               have hfz46_0:=blk_frozen BK102.out 0
               have hfz46_1:=blk_frozen BK102.out 1
               have hfz46_2:=blk_frozen BK102.out 2
               have hfz46_3:=blk_frozen BK102.out 3
               have hfz46_4:=blk_frozen BK102.out 4
               have p103 : 0 ≤ (x10_2 : Int):=of_decide_eq_true (by first|(with_reducible assumption)|assumption)
               have q103 : x10_2 < (l1.length : Int):=of_decide_eq_true (by first|(with_reducible assumption)|assumption)
               obtain ⟨ad103,e103,hx103_0,hx103_1,hx103_2,hx103_3,hx103_4⟩:=at_T24 HR1.out x10_2 p103 q103
               obtain rfl : ad101 = ad103:=(by injection e103)
               replace hx103_0:=(HB.out.cell (World.block_lt_of_cell? w _ hx103_0)).trans hx103_0
               replace hx103_1:=(HB.out.cell (World.block_lt_of_cell? w _ hx103_1)).trans hx103_1
               replace hx103_2:=(HB.out.cell (World.block_lt_of_cell? w _ hx103_2)).trans hx103_2
               replace hx103_3:=(HB.out.cell (World.block_lt_of_cell? w _ hx103_3)).trans hx103_3
               replace hx103_4:=(HB.out.cell (World.block_lt_of_cell? w _ hx103_4)).trans hx103_4
               replace p103:=eq_true p103
               replace q103:=eq_true q103
               go_wp2_with (first|((with_reducible refine gate_callee (f:=19) rfl ?_);refine goesL_ (some 88) rfl rfl Tryd.func19 (by kernel_rfl) rfl #[.string ((rd_T24 l1 x10_2).f3),.slice (some ad101) l1.length c1,.int .i64 x10_2] rfl (by (try simp only [List.map_toArray,List.map_cons,List.map_nil]);first|done|rfl|(simp only [List.length_drop,List.length_take];rfl)) ?_;(with_reducible refine (Recracewayref29element.calls k2 ((rd_T24 l1 x10_2).f3) _ _ l1 x10_2 t104 _ ?side1 ?side2 A44.out).mono ?_);(case side1 => repeat (first|exact (Kd.C_below HR1.out HB.out)|(with_reducible refine Kd.C_alloc ?_ _)|(with_reducible refine Kd.C_drewN ?_ _)|(with_reducible refine Kd.C_drew ?_)));(case side2 => exact HC1.out);rintro e w47 ⟨rfl,hb⟩;refine ⟨_,rfl,?_⟩;have n0_:=Aside0.mk (blk_below (g:=gb102) (o:=.cells #[.int .i64 ((rd_T24 l1 a2).f0),.int .i64 ((rd_T24 l1 a2).f1),.int .i64 ((rd_T24 l1 a2).f2),.string ((rd_T24 l1 a2).f3),.string ((rd_T24 l1 a2).f4)] 24 (0,0)) (by (with_reducible repeat (first|refine blk_drewN ?_ _|refine blk_drew ?_|refine blk_alloc ?_ _));exact BK102.out) hb);have n1_:=Aside0.mk (below_step (by repeat (first|(with_reducible first|exact HB.out|apply below_alloc|apply pw_below_drewN|apply below_drew1|refine below_set ?_ GE102.out)|exact HB.out)) hb);clear BK102;clear HB;have BK102:=n0_;have HB:=n1_;clear n0_ n1_;(try clear hb);(try clear hb2);(try clear hk);(try clear hi);have p105 : 0 ≤ (x10_2 : Int):=of_decide_eq_true (by first|(with_reducible assumption)|assumption);have q105 : x10_2 < (l1.length : Int):=of_decide_eq_true (by first|(with_reducible assumption)|assumption);obtain ⟨ad105,e105,hx105_0,hx105_1,hx105_2,hx105_3,hx105_4⟩:=at_T24 HR1.out x10_2 p105 q105;obtain rfl : ad101 = ad105:=(by injection e105);replace hx105_0:=(HB.out.cell (World.block_lt_of_cell? w _ hx105_0)).trans hx105_0;replace hx105_1:=(HB.out.cell (World.block_lt_of_cell? w _ hx105_1)).trans hx105_1;replace hx105_2:=(HB.out.cell (World.block_lt_of_cell? w _ hx105_2)).trans hx105_2;replace hx105_3:=(HB.out.cell (World.block_lt_of_cell? w _ hx105_3)).trans hx105_3;replace hx105_4:=(HB.out.cell (World.block_lt_of_cell? w _ hx105_4)).trans hx105_4;replace p105:=eq_true p105;replace q105:=eq_true q105))
               go_roundg k2
               case measure => have:=HJ11.out;have:=HK2.out;omega
               case rel => exact ⟨(x8_2 ++ t104),(wrap64 (x10_2 + ((rd_T24 l1 x10_2).f1))),(wrap64 (x11_2 + 1)),(by first|rfl|(simp;done)|(simp;decide +kernel)|(simp [*];done)),(by first|rfl|(simp;done)|(simp;decide +kernel)|(simp [*];done)),(by first|rfl|(simp;done)|(simp;decide +kernel)|(simp [*];done)),(by first|exact H'|(subst_vars;exact H')),⟨by have:=HJ11.out;have:=HK2.out;omega⟩,⟨by (with_reducible repeat (first|refine blk_drewN ?_ _|refine blk_drew ?_|refine blk_alloc ?_ _));exact BK102.out⟩,⟨by repeat (first|(with_reducible first|exact HB.out|apply below_alloc|apply pw_below_drewN|apply below_drew1|refine below_set ?_ GE102.out)|exact HB.out)⟩⟩
              ·rw [if_neg c45] at H
               exact absurd H (by simp)
             ·rw [if_neg c43] at H
              exact absurd H (by simp)
            ·rw [if_neg c42] at H
             exact absurd H (by simp)
           ·rw [if_neg c41] at H
            have c41b0 : (((rd_T24 l1 a2).f0) == 7) = false:=beq_eq_false_iff_ne.mpr c41
            have c41b1 : (((rd_T24 l1 a2).f0) != 7) = true:=bne_iff_ne.mpr c41
            replace H:=Option.bind_eq_some_iff.mp H
            obtain ⟨t106,A480,H⟩:=H
            replace H : (if x8_2.size + t106.size ≤ 9223372036854775807 then (if 0 ≤ x10_2 then (if x10_2 < (l1.length : Int) then (racewayref29_insideO.l1 k2 a0 l1 (x8_2 ++ t106) (wrap64 (x10_2 + ((rd_T24 l1 x10_2).f1))) (wrap64 (x11_2 + 1)) ((rd_T24 l1 a2).f0) ((rd_T24 l1 a2).f1) ((rd_T24 l1 a2).f2) ((rd_T24 l1 a2).f3) ((rd_T24 l1 a2).f4)) else (none)) else (none)) else (none)) = some r:=H
            have A48:=Aside0.mk A480
            clear A480
            by_cases c49 : x8_2.size + t106.size ≤ 9223372036854775807
            ·rw [if_pos c49] at H
             have c49b0:=eq_true c49
             have c49b1 : decide (x8_2.size + t106.size ≤ 9223372036854775807) = true:=decide_eq_true c49
             try have c49b2 : (9223372036854775807 < x8_2.size + t106.size) = False:=eq_false (Nat.not_lt.2 c49)
             by_cases c50 : 0 ≤ x10_2
             ·rw [if_pos c50] at H
              have c50b0 : decide (0 ≤ x10_2) = true:=decide_eq_true c50
              clear c50
              by_cases c51 : x10_2 < (l1.length : Int)
              ·rw [if_pos c51] at H
               have c51b0 : decide (x10_2 < (l1.length : Int)) = true:=decide_eq_true c51
               clear c51
               have H':=Aside0.mk H
               clear H
               have hcz52_0 : wr.cell? ⟨gb102,0,none⟩ = some (.int .i64 ((rd_T24 l1 a2).f0)):=(blk_cell BK102.out 0).trans rfl
               have hcz52_1 : wr.cell? ⟨gb102,1,none⟩ = some (.int .i64 ((rd_T24 l1 a2).f1)):=(blk_cell BK102.out 1).trans rfl
               have hcz52_2 : wr.cell? ⟨gb102,2,none⟩ = some (.int .i64 ((rd_T24 l1 a2).f2)):=(blk_cell BK102.out 2).trans rfl
               have hcz52_3 : wr.cell? ⟨gb102,3,none⟩ = some (.string ((rd_T24 l1 a2).f3)):=(blk_cell BK102.out 3).trans rfl
               have hcz52_4 : wr.cell? ⟨gb102,4,none⟩ = some (.string ((rd_T24 l1 a2).f4)):=(blk_cell BK102.out 4).trans rfl
               have hfz52_0:=blk_frozen BK102.out 0
               have hfz52_1:=blk_frozen BK102.out 1
               have hfz52_2:=blk_frozen BK102.out 2
               have hfz52_3:=blk_frozen BK102.out 3
               have hfz52_4:=blk_frozen BK102.out 4
               go_wp2_with (first|((with_reducible refine gate_callee (f:=19) rfl ?_);refine goesL_ (some 88) rfl rfl Tryd.func19 (by kernel_rfl) rfl #[.string a0,.slice (some ad101) l1.length c1,.int .i64 x10_2] rfl (by (try simp only [List.map_toArray,List.map_cons,List.map_nil]);first|done|rfl|(simp only [List.length_drop,List.length_take];rfl)) ?_;(with_reducible refine (Recracewayref29element.calls k2 a0 _ _ l1 x10_2 t106 _ ?side1 ?side2 A48.out).mono ?_);(case side1 => repeat (first|exact (Kd.C_below HR1.out HB.out)|(with_reducible refine Kd.C_alloc ?_ _)|(with_reducible refine Kd.C_drewN ?_ _)|(with_reducible refine Kd.C_drew ?_)));(case side2 => exact HC1.out);rintro e w53 ⟨rfl,hb⟩;refine ⟨_,rfl,?_⟩;have n0_:=Aside0.mk (blk_below (g:=gb102) (o:=.cells #[.int .i64 ((rd_T24 l1 a2).f0),.int .i64 ((rd_T24 l1 a2).f1),.int .i64 ((rd_T24 l1 a2).f2),.string ((rd_T24 l1 a2).f3),.string ((rd_T24 l1 a2).f4)] 24 (0,0)) (by (with_reducible repeat (first|refine blk_drewN ?_ _|refine blk_drew ?_|refine blk_alloc ?_ _));exact BK102.out) hb);have n1_:=Aside0.mk (below_step (by repeat (first|(with_reducible first|exact HB.out|apply below_alloc|apply pw_below_drewN|apply below_drew1|refine below_set ?_ GE102.out)|exact HB.out)) hb);clear BK102;clear HB;have BK102:=n0_;have HB:=n1_;clear n0_ n1_;(try clear hb);(try clear hb2);(try clear hk);(try clear hi);have p107 : 0 ≤ (x10_2 : Int):=of_decide_eq_true (by first|(with_reducible assumption)|assumption);have q107 : x10_2 < (l1.length : Int):=of_decide_eq_true (by first|(with_reducible assumption)|assumption);obtain ⟨ad107,e107,hx107_0,hx107_1,hx107_2,hx107_3,hx107_4⟩:=at_T24 HR1.out x10_2 p107 q107;obtain rfl : ad101 = ad107:=(by injection e107);replace hx107_0:=(HB.out.cell (World.block_lt_of_cell? w _ hx107_0)).trans hx107_0;replace hx107_1:=(HB.out.cell (World.block_lt_of_cell? w _ hx107_1)).trans hx107_1;replace hx107_2:=(HB.out.cell (World.block_lt_of_cell? w _ hx107_2)).trans hx107_2;replace hx107_3:=(HB.out.cell (World.block_lt_of_cell? w _ hx107_3)).trans hx107_3;replace hx107_4:=(HB.out.cell (World.block_lt_of_cell? w _ hx107_4)).trans hx107_4;replace p107:=eq_true p107;replace q107:=eq_true q107))
               go_roundg k2
               case measure => have:=HJ11.out;have:=HK2.out;omega
               case rel => exact ⟨(x8_2 ++ t106),(wrap64 (x10_2 + ((rd_T24 l1 x10_2).f1))),(wrap64 (x11_2 + 1)),(by first|rfl|(simp;done)|(simp;decide +kernel)|(simp [*];done)),(by first|rfl|(simp;done)|(simp;decide +kernel)|(simp [*];done)),(by first|rfl|(simp;done)|(simp;decide +kernel)|(simp [*];done)),(by first|exact H'|(subst_vars;exact H')),⟨by have:=HJ11.out;have:=HK2.out;omega⟩,⟨by (with_reducible repeat (first|refine blk_drewN ?_ _|refine blk_drew ?_|refine blk_alloc ?_ _));exact BK102.out⟩,⟨by repeat (first|(with_reducible first|exact HB.out|apply below_alloc|apply pw_below_drewN|apply below_drew1|refine below_set ?_ GE102.out)|exact HB.out)⟩⟩
              ·rw [if_neg c51] at H
               exact absurd H (by simp)
             ·rw [if_neg c50] at H
              exact absurd H (by simp)
            ·rw [if_neg c49] at H
             exact absurd H (by simp)
          ·rw [if_neg c40] at H
           have c40b0 : decide (x11_2 < ((rd_T24 l1 a2).f2)) = false:=decide_eq_false c40
           clear c40
           obtain rfl:=Option.some.inj H
           have hcz54_0 : wr.cell? ⟨gb102,0,none⟩ = some (.int .i64 ((rd_T24 l1 a2).f0)):=(blk_cell BK102.out 0).trans rfl
           have hcz54_1 : wr.cell? ⟨gb102,1,none⟩ = some (.int .i64 ((rd_T24 l1 a2).f1)):=(blk_cell BK102.out 1).trans rfl
           have hcz54_2 : wr.cell? ⟨gb102,2,none⟩ = some (.int .i64 ((rd_T24 l1 a2).f2)):=(blk_cell BK102.out 2).trans rfl
           have hcz54_3 : wr.cell? ⟨gb102,3,none⟩ = some (.string ((rd_T24 l1 a2).f3)):=(blk_cell BK102.out 3).trans rfl
           have hcz54_4 : wr.cell? ⟨gb102,4,none⟩ = some (.string ((rd_T24 l1 a2).f4)):=(blk_cell BK102.out 4).trans rfl
           have hfz54_0:=blk_frozen BK102.out 0
           have hfz54_1:=blk_frozen BK102.out 1
           have hfz54_2:=blk_frozen BK102.out 2
           have hfz54_3:=blk_frozen BK102.out 3
           have hfz54_4:=blk_frozen BK102.out 4
           go_wp2
           go_ret
           exact ⟨by first|rfl|(simp [errW_none,errW_some] <;> rfl)|(simp [*,errW_none,errW_some] <;> rfl),by repeat (first|(with_reducible first|exact HB.out|apply below_alloc|apply pw_below_drewN|apply below_drew1|refine below_set ?_ GE102.out)|exact HB.out)⟩
  ·rw [if_neg c5] at H
   exact absurd H (by simp)
 ·rw [if_neg c4] at H
  exact absurd H (by simp)
def racewayref29_elementO.f (k : Nat) (a0 : ByteArray) (l1 : List (S24)) (a2 : Int) : Option (ByteArray):=if 0 ≤ a2 then (if a2 < (l1.length : Int) then (if ((rd_T24 l1 a2).f0) = 6 then ((racewayref29_insideO.f k a0 l1 a2).bind fun t102 => (some t102)) else (if 1 + a0.size ≤ 9223372036854775807 then (if 1 + a0.size + 1 ≤ 9223372036854775807 then ((racewayref29_insideO.f k a0 l1 a2).bind fun t103 => (if 1 + a0.size + 1 + t103.size ≤ 9223372036854775807 then (if 1 + a0.size + 1 + t103.size + 2 ≤ 9223372036854775807 then (if 1 + a0.size + 1 + t103.size + 2 + a0.size ≤ 9223372036854775807 then (if 1 + a0.size + 1 + t103.size + 2 + a0.size + 1 ≤ 9223372036854775807 then (some (((((((⟨#[60]⟩ : ByteArray) ++ a0) ++ (⟨#[62]⟩ : ByteArray)) ++ t103) ++ (⟨#[60,47]⟩ : ByteArray)) ++ a0) ++ (⟨#[62]⟩ : ByteArray))) else (none)) else (none)) else (none)) else (none))) else (none)) else (none))) else (none)) else (none)
theorem racewayref29_elementO.mono : ∀ a0 a1 a2 k,LeO (racewayref29_elementO.f k a0 a1 a2) (racewayref29_elementO.f (k + 1) a0 a1 a2):=by
 intro a0 a1 a2 k
 unfold racewayref29_elementO.f
 repeat' first
   | (with_reducible exact racewayref29_insideO.mono _ _ _ _)
   | (with_reducible exact LeO.refl _)
   | (with_reducible exact LeO.none _)
   | (with_reducible refine LeO.ite ?_ ?_)
   | (with_reducible refine LeO.bind ?_ (fun _ => ?_))
   | exact racewayref29_insideO.mono _ _ _ _
   | exact LeO.none _
   | refine LeO.ite ?_ ?_
   | refine LeO.bind ?_ (fun _ => ?_)
set_option maxHeartbeats 8000000 in
set_option maxRecDepth 100000 in
theorem racewayref29_elementO.calls (k : Nat) (a0 : ByteArray) (A1 : Option Addr) (c1 : Nat) (l1 : List (S24)) (a2 : Int) (r : ByteArray) (w : World) (hr1 : Kd.C k24 w A1 l1.length l1) (hc1 : l1.length ≤ c1) (h : racewayref29_elementO.f k a0 l1 a2 = some r) :
  Calls Tryd.prog 19 #[.string a0,.slice A1 l1.length c1,.int .i64 a2] w fun e w' => e = .returned (.string r) ∧ Below w.heap.size w w':=by
 have HR1:=Aside0.mk hr1
 have HC1:=Aside0.mk hc1
 clear hr1 hc1
 have HB:=Aside0.mk (Below.refl w.heap.size w)
 have H : (if 0 ≤ a2 then (if a2 < (l1.length : Int) then (if ((rd_T24 l1 a2).f0) = 6 then ((racewayref29_insideO.f k a0 l1 a2).bind fun t102 => (some t102)) else (if 1 + a0.size ≤ 9223372036854775807 then (if 1 + a0.size + 1 ≤ 9223372036854775807 then ((racewayref29_insideO.f k a0 l1 a2).bind fun t103 => (if 1 + a0.size + 1 + t103.size ≤ 9223372036854775807 then (if 1 + a0.size + 1 + t103.size + 2 ≤ 9223372036854775807 then (if 1 + a0.size + 1 + t103.size + 2 + a0.size ≤ 9223372036854775807 then (if 1 + a0.size + 1 + t103.size + 2 + a0.size + 1 ≤ 9223372036854775807 then (some (((((((⟨#[60]⟩ : ByteArray) ++ a0) ++ (⟨#[62]⟩ : ByteArray)) ++ t103) ++ (⟨#[60,47]⟩ : ByteArray)) ++ a0) ++ (⟨#[62]⟩ : ByteArray))) else (none)) else (none)) else (none)) else (none))) else (none)) else (none))) else (none)) else (none)) = some r:=h
 clear h
 by_cases c4 : 0 ≤ a2
 ·rw [if_pos c4] at H
  have c4b0 : decide (0 ≤ a2) = true:=decide_eq_true c4
  clear c4
  by_cases c5 : a2 < (l1.length : Int)
  ·rw [if_pos c5] at H
   have c5b0 : decide (a2 < (l1.length : Int)) = true:=decide_eq_true c5
   clear c5
   by_cases c6 : ((rd_T24 l1 a2).f0) = 6
   ·rw [if_pos c6] at H
    have c6b0 : (((rd_T24 l1 a2).f0) == 6) = true:=beq_iff_eq.mpr c6
    have c6b1 : (((rd_T24 l1 a2).f0) != 6) = false:=bne_eq_false_iff_eq.mpr c6
    clear c6
    replace H:=Option.bind_eq_some_iff.mp H
    obtain ⟨t102,A70,H⟩:=H
    replace H : (some t102) = some r:=H
    have A7:=Aside0.mk A70
    clear A70
    obtain rfl:=Option.some.inj H
    have p101 : 0 ≤ (a2 : Int):=of_decide_eq_true (by first|(with_reducible assumption)|assumption)
    have q101 : a2 < (l1.length : Int):=of_decide_eq_true (by first|(with_reducible assumption)|assumption)
    obtain ⟨ad101,e101,hx101_0,hx101_1,hx101_2,hx101_3,hx101_4⟩:=at_T24 HR1.out a2 p101 q101
    cases e101
    replace p101:=eq_true p101
    replace q101:=eq_true q101
    go_enter Tryd.func19,Tryd.ntmps19
    go_wp2_with (first|((with_reducible refine gate_callee (f:=36) rfl ?_);refine goesL_ (some 16) rfl rfl Tryd.func36 (by kernel_rfl) rfl #[.string a0,.slice (some ad101) l1.length c1,.int .i64 a2] rfl (by (try simp only [List.map_toArray,List.map_cons,List.map_nil]);first|done|rfl|(simp only [List.length_drop,List.length_take];rfl)) ?_;(with_reducible refine (racewayref29_insideO.calls k a0 _ _ l1 a2 t102 _ ?side1 ?side2 A7.out).mono ?_);(case side1 => repeat (first|exact HR1.out|(with_reducible refine Kd.C_alloc ?_ _)|(with_reducible refine Kd.C_drewN ?_ _)|(with_reducible refine Kd.C_drew ?_)));(case side2 => exact HC1.out);rintro e w8 ⟨rfl,hb⟩;refine ⟨_,rfl,?_⟩;have n0_:=Aside0.mk (below_step (by repeat (first|(with_reducible first|exact HB.out|apply below_alloc|apply pw_below_drewN|apply below_drew1)|exact HB.out)) hb);clear HB;have HB:=n0_;clear n0_;(try clear hb);(try clear hb2);(try clear hk);(try clear hi)))
    go_ret
    exact ⟨by first|rfl|(simp [errW_none,errW_some] <;> rfl)|(simp [*,errW_none,errW_some] <;> rfl),by repeat (first|(with_reducible first|exact HB.out|apply below_alloc|apply pw_below_drewN|apply below_drew1)|exact HB.out)⟩
   ·rw [if_neg c6] at H
    have c6b0 : (((rd_T24 l1 a2).f0) == 6) = false:=beq_eq_false_iff_ne.mpr c6
    have c6b1 : (((rd_T24 l1 a2).f0) != 6) = true:=bne_iff_ne.mpr c6
    by_cases c9 : 1 + a0.size ≤ 9223372036854775807
    ·rw [if_pos c9] at H
     have c9b0:=eq_true c9
     have c9b1 : decide (1 + a0.size ≤ 9223372036854775807) = true:=decide_eq_true c9
     try have c9b2 : (9223372036854775807 < 1 + a0.size) = False:=eq_false (Nat.not_lt.2 c9)
     by_cases c10 : 1 + a0.size + 1 ≤ 9223372036854775807
     ·rw [if_pos c10] at H
      have c10b0:=eq_true c10
      have c10b1 : decide (1 + a0.size + 1 ≤ 9223372036854775807) = true:=decide_eq_true c10
      try have c10b2 : (9223372036854775807 < 1 + a0.size + 1) = False:=eq_false (Nat.not_lt.2 c10)
      replace H:=Option.bind_eq_some_iff.mp H
      obtain ⟨t103,A110,H⟩:=H
      replace H : (if 1 + a0.size + 1 + t103.size ≤ 9223372036854775807 then (if 1 + a0.size + 1 + t103.size + 2 ≤ 9223372036854775807 then (if 1 + a0.size + 1 + t103.size + 2 + a0.size ≤ 9223372036854775807 then (if 1 + a0.size + 1 + t103.size + 2 + a0.size + 1 ≤ 9223372036854775807 then (some (((((((⟨#[60]⟩ : ByteArray) ++ a0) ++ (⟨#[62]⟩ : ByteArray)) ++ t103) ++ (⟨#[60,47]⟩ : ByteArray)) ++ a0) ++ (⟨#[62]⟩ : ByteArray))) else (none)) else (none)) else (none)) else (none)) = some r:=H
      have A11:=Aside0.mk A110
      clear A110
      by_cases c12 : 1 + a0.size + 1 + t103.size ≤ 9223372036854775807
      ·rw [if_pos c12] at H
       have c12b0:=eq_true c12
       have c12b1 : decide (1 + a0.size + 1 + t103.size ≤ 9223372036854775807) = true:=decide_eq_true c12
       try have c12b2 : (9223372036854775807 < 1 + a0.size + 1 + t103.size) = False:=eq_false (Nat.not_lt.2 c12)
       by_cases c13 : 1 + a0.size + 1 + t103.size + 2 ≤ 9223372036854775807
       ·rw [if_pos c13] at H
        have c13b0:=eq_true c13
        have c13b1 : decide (1 + a0.size + 1 + t103.size + 2 ≤ 9223372036854775807) = true:=decide_eq_true c13
        try have c13b2 : (9223372036854775807 < 1 + a0.size + 1 + t103.size + 2) = False:=eq_false (Nat.not_lt.2 c13)
        by_cases c14 : 1 + a0.size + 1 + t103.size + 2 + a0.size ≤ 9223372036854775807
        ·rw [if_pos c14] at H
         have c14b0:=eq_true c14
         have c14b1 : decide (1 + a0.size + 1 + t103.size + 2 + a0.size ≤ 9223372036854775807) = true:=decide_eq_true c14
         try have c14b2 : (9223372036854775807 < 1 + a0.size + 1 + t103.size + 2 + a0.size) = False:=eq_false (Nat.not_lt.2 c14)
         by_cases c15 : 1 + a0.size + 1 + t103.size + 2 + a0.size + 1 ≤ 9223372036854775807
         ·rw [if_pos c15] at H
          have c15b0:=eq_true c15
          have c15b1 : decide (1 + a0.size + 1 + t103.size + 2 + a0.size + 1 ≤ 9223372036854775807) = true:=decide_eq_true c15
          try have c15b2 : (9223372036854775807 < 1 + a0.size + 1 + t103.size + 2 + a0.size + 1) = False:=eq_false (Nat.not_lt.2 c15)
          obtain rfl:=Option.some.inj H
          have p101 : 0 ≤ (a2 : Int):=of_decide_eq_true (by first|(with_reducible assumption)|assumption)
          have q101 : a2 < (l1.length : Int):=of_decide_eq_true (by first|(with_reducible assumption)|assumption)
          obtain ⟨ad101,e101,hx101_0,hx101_1,hx101_2,hx101_3,hx101_4⟩:=at_T24 HR1.out a2 p101 q101
          cases e101
          replace p101:=eq_true p101
          replace q101:=eq_true q101
          go_enter Tryd.func19,Tryd.ntmps19
          go_wp2_with (first|((with_reducible refine gate_callee (f:=36) rfl ?_);refine goesL_ (some 23) rfl rfl Tryd.func36 (by kernel_rfl) rfl #[.string a0,.slice (some ad101) l1.length c1,.int .i64 a2] rfl (by (try simp only [List.map_toArray,List.map_cons,List.map_nil]);first|done|rfl|(simp only [List.length_drop,List.length_take];rfl)) ?_;(with_reducible refine (racewayref29_insideO.calls k a0 _ _ l1 a2 t103 _ ?side1 ?side2 A11.out).mono ?_);(case side1 => repeat (first|exact HR1.out|(with_reducible refine Kd.C_alloc ?_ _)|(with_reducible refine Kd.C_drewN ?_ _)|(with_reducible refine Kd.C_drew ?_)));(case side2 => exact HC1.out);rintro e w16 ⟨rfl,hb⟩;refine ⟨_,rfl,?_⟩;have n0_:=Aside0.mk (below_step (by repeat (first|(with_reducible first|exact HB.out|apply below_alloc|apply pw_below_drewN|apply below_drew1)|exact HB.out)) hb);clear HB;have HB:=n0_;clear n0_;(try clear hb);(try clear hb2);(try clear hk);(try clear hi)))
          go_ret
          exact ⟨by first|rfl|(simp [errW_none,errW_some] <;> rfl)|(simp [*,errW_none,errW_some] <;> rfl),by repeat (first|(with_reducible first|exact HB.out|apply below_alloc|apply pw_below_drewN|apply below_drew1)|exact HB.out)⟩
         ·rw [if_neg c15] at H
          exact absurd H (by simp)
        ·rw [if_neg c14] at H
         exact absurd H (by simp)
       ·rw [if_neg c13] at H
        exact absurd H (by simp)
      ·rw [if_neg c12] at H
       exact absurd H (by simp)
     ·rw [if_neg c10] at H
      exact absurd H (by simp)
    ·rw [if_neg c9] at H
     exact absurd H (by simp)
  ·rw [if_neg c5] at H
   exact absurd H (by simp)
 ·rw [if_neg c4] at H
  exact absurd H (by simp)
end
@[reducible] def recracewayref29_element : Nat → Recracewayref29element
 | 0 => ⟨fun _ _ _ _ => none,by intros;exact LeO.none _,by intros;contradiction⟩
 | d + 1 => ⟨@racewayref29_elementO.f (recracewayref29_element d),@racewayref29_elementO.mono (recracewayref29_element d),@racewayref29_elementO.calls (recracewayref29_element d)⟩
def racewayref29_element.f : Nat → ByteArray → (List (S24)) → Int → Option (ByteArray):=(recracewayref29_element 70).f
theorem racewayref29_element.calls (k : Nat) (a0 : ByteArray) (A1 : Option Addr) (c1 : Nat) (l1 : List (S24)) (a2 : Int) (r : ByteArray) (w : World) (hr1 : Kd.C k24 w A1 l1.length l1) (hc1 : l1.length ≤ c1) (h : racewayref29_element.f k a0 l1 a2 = some r) :
  Calls Tryd.prog 19 #[.string a0,.slice A1 l1.length c1,.int .i64 a2] w fun e w' => e = .returned (.string r) ∧ Below w.heap.size w w':=by
 first|exact (recracewayref29_element 70).calls ..|(apply (recracewayref29_element 70).calls <;> assumption)
end Go.Proofs.YtjehflambbjoaaaDoor.X
namespace Go.Proofs.YtjehflambbjoaaaDoor.Pure
open Go.Lib
set_option linter.unusedVariables false
set_option linter.unusedSimpArgs false
theorem index_ne (b c : UInt8) (l : List UInt8) (h : b ≠ c) : index (b :: l) [c] = if index l [c] == -1 then -1 else index l [c] + 1:=by
 have hp : ([c] : List UInt8).isPrefixOf (b :: l) = false:=by simp [List.isPrefixOf,Ne.symm h]
 rw [index,hp];simp
theorem index_eq (c : UInt8) (l : List UInt8) : index (c :: l) [c] = ((0 : Nat) : Int):=by
 rw [index];simp [List.isPrefixOf]
def one (c : UInt8) (new : List UInt8) (b : UInt8) : List UInt8:=if b = c then new else [b]
theorem repl_miss (c : UInt8) (new : List UInt8) (k : Nat) (s : List UInt8) (h : index s [c] = -1) : replaceK [c] new k s = s:=by
 cases k with
 | zero => rfl
 | succ k => rw [replaceK,if_pos (by rw [h];rfl)]
theorem repl_k (c : UInt8) (new : List UInt8) : ∀ (s : List UInt8) (k : Nat),s.count c ≤ k → replaceK [c] new k s = s.flatMap (one c new)
 | [],k,h => by rw [repl_miss c new k [] (by simp [index])];rfl
 | b :: l,k,h => by
  by_cases hb : b = c
  ·subst hb
   rw [List.count_cons_self] at h
   obtain ⟨k,rfl⟩ : ∃ k',k = k' + 1:=⟨k - 1,by omega⟩
   rw [replaceK_hit [b] new k (b :: l) 0 (index_eq b l)]
   simp only [List.take_zero,List.nil_append,Nat.zero_add,List.length_cons,List.length_nil,List.drop_succ_cons,List.drop_zero,List.flatMap_cons]
   rw [repl_k b new l k (by omega),one,if_pos rfl]
  ·rw [List.count_cons_of_ne (by simpa using hb)] at h
   have ih:=repl_k c new l k h
   rw [List.flatMap_cons,one,if_neg hb]
   by_cases hm : index l [c] = -1
   ·rw [repl_miss c new k l hm] at ih
    rw [repl_miss c new k (b :: l) (by rw [index_ne b c l hb,if_pos (by rw [hm];rfl)]),← ih]
    rfl
   ·have hge:=index_ge l [c]
    obtain ⟨j,hj⟩ : ∃ j : Nat,index l [c] = j:=⟨(index l [c]).toNat,by omega⟩
    cases k with
    | zero => rw [← ih];rfl
    | succ k =>
     rw [replaceK_hit [c] new k l j hj] at ih
     rw [replaceK_hit [c] new k (b :: l) (j + 1) (by rw [index_ne b c l hb,if_neg (by rw [beq_iff_eq];exact hm),hj];rfl),← ih]
     simp
theorem replaceAll_one (c : UInt8) (new s : List UInt8) (h : new ≠ [c]) : replaceAll s [c] new = s.flatMap (one c new):=by
 unfold replaceAll replace
 rw [if_neg (by rw [beq_iff_eq];exact fun e => h e.symm)]
 have hn : replaceNum s [c] (-1) = s.count c:=by unfold replaceNum;rw [if_pos (.inl (by decide)),count_one]
 rw [hn]
 exact repl_k c new s _ (Nat.le_refl _)
def esc (b : UInt8) : List UInt8 :=
 if b = 38 then [38,97,109,112,59] else if b = 60 then [38,108,116,59] else if b = 62 then [38,103,116,59] else if b = 34 then [38,113,117,111,116,59] else [b]
theorem esc_all (s : List UInt8) : replaceAll (replaceAll (replaceAll (replaceAll s [38] [38,97,109,112,59]) [60] [38,108,116,59]) [62] [38,103,116,59]) [34] [38,113,117,111,116,59] = s.flatMap esc:=by
 rw [replaceAll_one 38 _ _ (by decide),replaceAll_one 60 _ _ (by decide),replaceAll_one 62 _ _ (by decide),replaceAll_one 34 _ _ (by decide),List.flatMap_assoc,List.flatMap_assoc,List.flatMap_assoc]
 congr 1
 funext b
 unfold one esc
 by_cases h1 : b = 38
 ·subst h1;decide
 ·by_cases h2 : b = 60
  ·subst h2;decide
  ·by_cases h3 : b = 62
   ·subst h3;decide
   ·by_cases h4 : b = 34
    ·subst h4;decide
    ·simp [h1,h2,h3,h4]
theorem esc_size (b : UInt8) : (esc b).length ≤ 6:=by
 unfold esc
 repeat' split
 all_goals simp
theorem escs_size : ∀ s : List UInt8,(s.flatMap esc).length ≤ 6 * s.length
 | [] => by simp
 | b :: l => by
  have:=escs_size l
  have:=esc_size b
  simp only [List.flatMap_cons,List.length_append,List.length_cons]
  omega
end Go.Proofs.YtjehflambbjoaaaDoor.Pure
namespace Go.Proofs.YtjehflambbjoaaaDoor.Pure
open Go.Proofs.YtjehflambbjoaaaDoor.X
set_option linter.unusedVariables false
set_option linter.unusedSimpArgs false
def leafIn (d : Int) (t : Bs) : Bs:=if d = 2 then [116,114,117,101] else if d = 3 then [102,97,108,115,101] else if d = 4 ∨ d = 5 then t.flatMap esc else []
def tag (n s : Bs) : Bs:=[60] ++ n ++ [62] ++ s ++ [60,47] ++ n ++ [62]
def mkup : Option Bs → F → Bs
 | _,.nil => []
 | nm,.leaf k d t r => tag (nm.getD k) (leafIn d t) ++ mkup nm r
 | nm,.node k d ks r => (if d = 6 then mkup (some (nm.getD k)) ks else tag (nm.getD k) (mkup none ks)) ++ mkup nm r
def cost (K : Nat) : F → Nat
 | .nil => 0
 | .leaf k d t r => 2 * K + 10 + 6 * t.length + cost K r
 | .node k d ks r => 2 * K + 10 + cost K ks + cost K r
def keysIn (K : Nat) : F → Prop
 | .nil => True
 | .leaf k d t r => k.length ≤ K ∧ keysIn K r
 | .node k d ks r => k.length ≤ K ∧ keysIn K ks ∧ keysIn K r
theorem tag_size (n s : Bs) : (tag n s).length = 2 * n.length + 5 + s.length:=by
 simp only [tag,List.length_append,List.length_cons,List.length_nil]
 omega
theorem leafIn_size (d : Int) (t : Bs) : (leafIn d t).length ≤ 5 + 6 * t.length:=by
 have:=escs_size t
 unfold leafIn
 split
 ·simp only [List.length_cons,List.length_nil];omega
 ·split
  ·simp only [List.length_cons,List.length_nil];omega
  ·split
   ·omega
   ·simp
theorem mkup_size (K : Nat) : ∀ (f : F) (nm : Option Bs),keysIn K f → (∀ n,nm = some n → n.length ≤ K) → (mkup nm f).length ≤ cost K f
 | .nil,nm,_,_ => by simp [mkup]
 | .leaf k d t r,nm,hk,hn => by
  have h1:=mkup_size K r nm hk.2 hn
  have h2 : (nm.getD k).length ≤ K:=by
   cases nm with
   | none => exact hk.1
   | some n => exact hn n rfl
  have h3:=leafIn_size d t
  simp only [mkup,cost,List.length_append,tag_size]
  omega
 | .node k d ks r,nm,hk,hn => by
  have h1:=mkup_size K r nm hk.2.2 hn
  have h2 : (nm.getD k).length ≤ K:=by
   cases nm with
   | none => exact hk.1
   | some n => exact hn n rfl
  have h3:=mkup_size K ks none hk.2.1 (fun n h => nomatch h)
  have h4:=mkup_size K ks (some (nm.getD k)) hk.2.1 (fun n h => by cases h;exact h2)
  simp only [mkup,cost,List.length_append]
  split
  ·omega
  ·rw [tag_size];omega
end Go.Proofs.YtjehflambbjoaaaDoor.Pure
namespace Go.Proofs.YtjehflambbjoaaaDoor.X
open Go.RowKit Go.Proofs.YtjehflambbjoaaaDoorW.PrintWords Go.Proofs.YtjehflambbjoaaaDoorW.PrintLast Go.Proofs.YtjehflambbjoaaaDoorW.PrintMore
attribute [local go_sem] max2_int min2_int max_two min_two max_three min_three max_four min_four
set_option linter.unusedVariables false
set_option linter.unusedSimpArgs false
def racewayref25_is.f (a0 : ByteArray) (a1 : Int) (a2 : Int) : Option (Bool):=if a1 < (a0.size : Int) then (if 0 ≤ a1 then (some ((bt a0 a1) == a2)) else (none)) else (some false)
set_option maxHeartbeats 8000000 in
set_option maxRecDepth 100000 in
theorem racewayref25_is.calls (a0 : ByteArray) (a1 : Int) (a2 : Int) (r : Bool) (w : World) (h : racewayref25_is.f a0 a1 a2 = some r) :
  Calls Tryd.prog 60 #[.string a0,.int .i64 a1,.int .u8 a2] w fun e w' => e = .returned (.bool r) ∧ Drawn0 w w':=by
 have H : (if a1 < (a0.size : Int) then (if 0 ≤ a1 then (some ((bt a0 a1) == a2)) else (none)) else (some false)) = some r:=h
 clear h
 by_cases c4 : a1 < (a0.size : Int)
 ·rw [if_pos c4] at H
  have c4b0 : decide (a1 < (a0.size : Int)) = true:=decide_eq_true c4
  clear c4
  by_cases c5 : 0 ≤ a1
  ·rw [if_pos c5] at H
   have c5b0 : decide (0 ≤ a1) = true:=decide_eq_true c5
   clear c5
   obtain rfl:=Option.some.inj H
   have p6 : 0 ≤ (a1 : Int):=of_decide_eq_true (by first|(with_reducible assumption)|assumption)
   have q6 : a1 < (a0.size : Int):=of_decide_eq_true (by first|(with_reducible assumption)|assumption)
   have hx6:=bt_at a0 a1
   replace p6:=eq_true p6
   replace q6:=eq_true q6
   go_enter Tryd.func60,Tryd.ntmps60
   go_wp2
   go_ret
   exact ⟨by first|rfl|(simp;done)|(simp;decide +kernel)|(simp [*];done),by repeat (first|exact Drawn0.refl _|apply Drawn0.step)⟩
  ·rw [if_neg c5] at H
   exact absurd H (by simp)
 ·rw [if_neg c4] at H
  have c4b0 : decide (a1 < (a0.size : Int)) = false:=decide_eq_false c4
  clear c4
  obtain rfl:=Option.some.inj H
  go_enter Tryd.func60,Tryd.ntmps60
  go_wp2
  go_ret
  exact ⟨by first|rfl|(simp;done)|(simp;decide +kernel)|(simp [*];done),by repeat (first|exact Drawn0.refl _|apply Drawn0.step)⟩
end Go.Proofs.YtjehflambbjoaaaDoor.X
namespace Go.Proofs.YtjehflambbjoaaaDoor.X
open Go.RowKit Go.Proofs.YtjehflambbjoaaaDoorW.PrintWords Go.Proofs.YtjehflambbjoaaaDoorW.PrintLast Go.Proofs.YtjehflambbjoaaaDoorW.PrintMore
attribute [local go_sem] max2_int min2_int max_two min_two max_three min_three max_four min_four
set_option linter.unusedVariables false
set_option linter.unusedSimpArgs false
def racewayref25_digit.f (a0 : ByteArray) (a1 : Int) : Option (Bool):=if a1 < (a0.size : Int) then (if 0 ≤ a1 then (if (bt a0 a1) ≥ 48 then (some (decide ((bt a0 a1) ≤ 57))) else (some false)) else (none)) else (some false)
set_option maxHeartbeats 8000000 in
set_option maxRecDepth 100000 in
theorem racewayref25_digit.calls (a0 : ByteArray) (a1 : Int) (r : Bool) (w : World) (h : racewayref25_digit.f a0 a1 = some r) :
  Calls Tryd.prog 61 #[.string a0,.int .i64 a1] w fun e w' => e = .returned (.bool r) ∧ Drawn0 w w':=by
 have H : (if a1 < (a0.size : Int) then (if 0 ≤ a1 then (if (bt a0 a1) ≥ 48 then (some (decide ((bt a0 a1) ≤ 57))) else (some false)) else (none)) else (some false)) = some r:=h
 clear h
 by_cases c3 : a1 < (a0.size : Int)
 ·rw [if_pos c3] at H
  have c3b0 : decide (a1 < (a0.size : Int)) = true:=decide_eq_true c3
  clear c3
  by_cases c4 : 0 ≤ a1
  ·rw [if_pos c4] at H
   have c4b0 : decide (0 ≤ a1) = true:=decide_eq_true c4
   clear c4
   by_cases c6 : (bt a0 a1) ≥ 48
   ·rw [if_pos c6] at H
    have c6b0 : decide (48 ≤ (bt a0 a1)) = true:=decide_eq_true c6
    clear c6
    obtain rfl:=Option.some.inj H
    have p5 : 0 ≤ (a1 : Int):=of_decide_eq_true (by first|(with_reducible assumption)|assumption)
    have q5 : a1 < (a0.size : Int):=of_decide_eq_true (by first|(with_reducible assumption)|assumption)
    have hx5:=bt_at a0 a1
    replace p5:=eq_true p5
    replace q5:=eq_true q5
    have p7 : 0 ≤ (a1 : Int):=of_decide_eq_true (by first|(with_reducible assumption)|assumption)
    have q7 : a1 < (a0.size : Int):=of_decide_eq_true (by first|(with_reducible assumption)|assumption)
    have hx7:=bt_at a0 a1
    replace p7:=eq_true p7
    replace q7:=eq_true q7
    go_enter Tryd.func61,Tryd.ntmps61
    go_wp2
    go_ret
    exact ⟨by first|rfl|(simp;done)|(simp;decide +kernel)|(simp [*];done),by repeat (first|exact Drawn0.refl _|apply Drawn0.step)⟩
   ·rw [if_neg c6] at H
    have c6b0 : decide (48 ≤ (bt a0 a1)) = false:=decide_eq_false c6
    clear c6
    obtain rfl:=Option.some.inj H
    have p5 : 0 ≤ (a1 : Int):=of_decide_eq_true (by first|(with_reducible assumption)|assumption)
    have q5 : a1 < (a0.size : Int):=of_decide_eq_true (by first|(with_reducible assumption)|assumption)
    have hx5:=bt_at a0 a1
    replace p5:=eq_true p5
    replace q5:=eq_true q5
    go_enter Tryd.func61,Tryd.ntmps61
    go_wp2
    go_ret
    exact ⟨by first|rfl|(simp;done)|(simp;decide +kernel)|(simp [*];done),by repeat (first|exact Drawn0.refl _|apply Drawn0.step)⟩
  ·rw [if_neg c4] at H
   exact absurd H (by simp)
 ·rw [if_neg c3] at H
  have c3b0 : decide (a1 < (a0.size : Int)) = false:=decide_eq_false c3
  clear c3
  obtain rfl:=Option.some.inj H
  go_enter Tryd.func61,Tryd.ntmps61
  go_wp2
  go_ret
  exact ⟨by first|rfl|(simp;done)|(simp;decide +kernel)|(simp [*];done),by repeat (first|exact Drawn0.refl _|apply Drawn0.step)⟩
end Go.Proofs.YtjehflambbjoaaaDoor.X
namespace Go.Proofs.YtjehflambbjoaaaDoor.X
open Go.RowKit Go.Proofs.YtjehflambbjoaaaDoorW.PrintWords Go.Proofs.YtjehflambbjoaaaDoorW.PrintLast Go.Proofs.YtjehflambbjoaaaDoorW.PrintMore
attribute [local go_sem] max2_int min2_int max_two min_two max_three min_three max_four min_four
set_option linter.unusedVariables false
set_option linter.unusedSimpArgs false
def racewayref25_fail.f (a0 : Int) : Option (Int × Int × (List (S24)) × ByteArray):=some (a0,5,([] : List (S24)),(⟨#[]⟩ : ByteArray))
set_option maxHeartbeats 8000000 in
set_option maxRecDepth 100000 in
theorem racewayref25_fail.calls (a0 : Int) (r1 : Int) (r2 : Int) (r3 : List (S24)) (r4 : ByteArray) (w : World) (h : racewayref25_fail.f a0 = some (r1,r2,r3,r4)) :
  Calls Tryd.prog 62 #[.int .i64 a0] w fun e w' => ∃ v2_ : Value,e = .returned (.agg #[.int .i64 r1,.int .i64 r2,v2_,.string r4]) ∧ Kd.R k24 24 w' w.heap.size (fun _ => True) v2_ r3 ∧ Below w.heap.size w w':=by
 have hu92:=Tryd.underlying92
 have HB:=Aside0.mk (Below.refl w.heap.size w)
 have H : (some (a0,5,([] : List (S24)),(⟨#[]⟩ : ByteArray))) = some (r1,r2,r3,r4):=h
 clear h
 simp only [Option.some.injEq,Prod.mk.injEq] at H
 obtain ⟨rfl,rfl,rfl,rfl⟩:=H
 go_enter Tryd.func62,Tryd.ntmps62
 go_wp2_with (first|((with_reducible refine gate_dst (N:=2) rfl ?_);refine box_event ?hg (N:=2) ?hd (cs:=#[.int .i64 0,.int .i64 0,.slice none 0 0,.string (⟨#[]⟩ : ByteArray)]) (t:=92) ?hr ?_;(case hd => rfl);(case hg => rfl);(case hr => first|(go_simp;done)|(go_simp;rfl));intro gb124 hg w2 hbox hb;have n0_:=Aside0.mk (below_step (by repeat (first|(with_reducible first|exact HB.out|apply below_alloc|apply pw_below_drewN|apply below_drew1)|exact HB.out)) hb);have n1_:=Aside0.mk (hbox);have n2_:=Aside0.mk ((by rw [hg];exact (below_size (by repeat (first|(with_reducible first|exact HB.out|apply below_alloc|apply pw_below_drewN|apply below_drew1)|exact HB.out))) : w.heap.size ≤ gb124));have n3_:=Aside0.mk ((by rw [hg];exact (below_size (by repeat (first|(with_reducible first|exact HB.out|apply below_alloc|apply pw_below_drewN|apply below_drew1)|exact HB.out))) : w.heap.size ≤ gb124));clear HB;have HB:=n0_;have BK124:=n1_;have GW124:=n2_;have GE124:=n3_;clear n0_ n1_ n2_ n3_;clear hb hbox hg;have hcz3_0 : w2.cell? ⟨gb124,0,none⟩ = some (.int .i64 0):=(blk_cell BK124.out 0).trans rfl;have hcz3_1 : w2.cell? ⟨gb124,1,none⟩ = some (.int .i64 0):=(blk_cell BK124.out 1).trans rfl;have hcz3_2 : w2.cell? ⟨gb124,2,none⟩ = some (.slice none 0 0):=(blk_cell BK124.out 2).trans rfl;have hcz3_3 : w2.cell? ⟨gb124,3,none⟩ = some (.string (⟨#[]⟩ : ByteArray)):=(blk_cell BK124.out 3).trans rfl;have hfz3_0:=blk_frozen BK124.out 0;have hfz3_1:=blk_frozen BK124.out 1;have hfz3_2:=blk_frozen BK124.out 2;have hfz3_3:=blk_frozen BK124.out 3))
 refine bodyPost_ret (results_cell_row rfl _ _ gb124 92 #[.int .i64 a0,.int .i64 5,.slice none 0 0,.string (⟨#[]⟩ : ByteArray)] (0,0) _ rfl (by (with_reducible repeat (first|refine blk_drewN ?_ _|refine blk_drew ?_|refine blk_alloc ?_ _));refine blk_put (cs:=#[.int .i64 a0,.int .i64 5,.slice none 0 0,.string (⟨#[]⟩ : ByteArray)]) ?_ 3 _ rfl;(with_reducible repeat (first|refine blk_drewN ?_ _|refine blk_drew ?_|refine blk_alloc ?_ _));refine blk_put (cs:=#[.int .i64 a0,.int .i64 5,.slice none 0 0,.string (⟨#[]⟩ : ByteArray)]) ?_ 2 _ rfl;(with_reducible repeat (first|refine blk_drewN ?_ _|refine blk_drew ?_|refine blk_alloc ?_ _));refine blk_put (cs:=#[.int .i64 a0,.int .i64 0,.slice none 0 0,.string (⟨#[]⟩ : ByteArray)]) ?_ 1 _ rfl;(with_reducible repeat (first|refine blk_drewN ?_ _|refine blk_drew ?_|refine blk_alloc ?_ _));refine blk_put (cs:=#[.int .i64 0,.int .i64 0,.slice none 0 0,.string (⟨#[]⟩ : ByteArray)]) ?_ 0 _ rfl;(with_reducible repeat (first|refine blk_drewN ?_ _|refine blk_drew ?_|refine blk_alloc ?_ _));exact BK124.out) Tryd.underlying92 rfl (by kernel_rfl)) rfl ?_
 exact ⟨_,by first|rfl|(simp [errW_none,errW_some] <;> rfl)|(simp [*,errW_none,errW_some] <;> rfl),by first|exact Kd.R_nil _ _ _ _ _|exact Kd.N_nil _ _ _ _ _|exact Kd.V_nil _ _ _ _ _|exact Kd.Q_nil _ _ _ _ _|exact Kd.S_nil _ _ _ _ _,by repeat (first|(with_reducible first|exact HB.out|apply below_alloc|apply pw_below_drewN|apply below_drew1|refine below_set ?_ GE124.out)|exact HB.out)⟩
end Go.Proofs.YtjehflambbjoaaaDoor.X
