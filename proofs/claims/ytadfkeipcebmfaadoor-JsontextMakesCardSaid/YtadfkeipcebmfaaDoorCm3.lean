/-
  What the claim's law rests on, part 3 of 7: printed walks, externals, plain lemmas; conditions: none of its own.
-/
import Derived.BigRegion
import Derived.Deep.DeepCutAuto
import Derived.Deep.RegionHeld3
import Derived.Defers
import Derived.Laws.Pointers
import Derived.Recover
import Derived.StillTailTactics
import Derived.Tactics
import Derived.Tactics2
import Derived.Test.YtadfkeipcebmfaaDoorCm2
namespace Go.Proofs.YtadfkeipcebmfaaDoor.X
open Go.RowKit Go.Proofs.YtadfkeipcebmfaaDoorW.PrintWords Go.Proofs.YtadfkeipcebmfaaDoorW.PrintLast Go.Proofs.YtadfkeipcebmfaaDoorW.PrintMore
set_option linter.unusedVariables false
set_option linter.unusedSimpArgs false
theorem Ch.base_ {g base : Nat} {v v' : Value} {w w' : World} (h : Ch g v v' w w') {p : Nat} {s : ByteArray} {xs : List Nd} (hP : PS w g base s p v xs) (hg : base ≤ g) : Below base w w' :=
 ⟨h.os,h.tape,h.output,h.size,fun k hk => by
  rcases Nat.lt_or_ge k w.heap.size with h1|h1
  ·exact h.block k h1 (by omega) (fun e => by have:=hP.R.base_ k e.symm;omega)
  ·have:=hP.P.lt
   omega⟩
theorem idx_begins (c : UInt8) : decide (Lib.indexByte [123,91,34,45,48,49,50,51,52,53,54,55,56,57,116,102,110] c < 0) = !begins c:=by
 have:=all_bytes (p:=fun c => decide (Lib.indexByte [123,91,34,45,48,49,50,51,52,53,54,55,56,57,116,102,110] c < 0) == !begins c) (by decide +kernel) c
 simpa using this
theorem PS.pushed {wq w3 : World} {g base p : Nat} {s : ByteArray} {v v3 : Value} {xs ys : List Nd} (h : PS wq g base s p v xs) (hr3 : Kd.R kN 46 w3 base (fun _ => True) v3 ys) (hg3 : wq.grownBy w3 v.ownBlock)
  (hat3 : v3.ownBlock = v.ownBlock ∨ ∃ b,v3.ownBlock = some b ∧ wq.heap.size ≤ b) : PS (w3.setCell ⟨g,2,none⟩ v3) g base s p v3 ys ∧ Ch g v v3 wq (w3.setCell ⟨g,2,none⟩ v3) ∧ PB w3 g s p v:=by
 have hP3 : PB w3 g s p v:=(hg3.block g h.P.lt (h.R.ne h.P (by decide))).trans h.P
 refine ⟨⟨hP3.set2 v3,?_⟩,?_,hP3⟩
 ·refine (Row.mk_ hr3).move (fun k hk => Below.heap_setCell w3 ⟨g,2,none⟩ v3 k ?_)
  intro e
  exact (Row.mk_ hr3).ne hP3 (by decide) (by simp only at e;rw [← e];exact hk.symm)
 ·refine ⟨hg3.os,hg3.tape,hg3.output,by simpa [World.setCell] using hg3.size,fun k hk hg hv => ?_,fun k hk => ?_⟩
  ·exact (Below.heap_setCell w3 ⟨g,2,none⟩ v3 k hg).trans (hg3.block k hk hv)
  ·rcases hat3 with h3|⟨b,h3,h4⟩
   ·exact .inl (h3 ▸ hk)
   ·rw [h3] at hk
    injection hk with hk
    exact .inr (by omega)
def nod (key : Bs) : Nd:=⟨0,1,0,str key,str []⟩
set_option maxHeartbeats 4000000 in
set_option maxRecDepth 100000 in
theorem value_step (d deep : Nat) (hd : deep + d = 32) (ih : ∀ d',d = d' + 1 → ValOk d' (deep + 1)) : ValOk d deep:=by
 intro g base s p v xs key l w hs hGU8 hg2 hb2 hbg hP ha hn
 have HP:=Lib.hid hP
 have HA:=Lib.hid ha
 have HG:=Lib.hid hGU8
 have HN:=Lib.hid hn
 have hpl:=ha.le
 have hnl : xs.length < 70000:=by omega
 clear hP ha hGU8 hn
 go_enter Tryd.func33,Tryd.ntmps33
 go_upto_region 1 with (fail)
 have hw2 : Below w.heap.size w ((w.alloc (.cells #[.pointer (some ⟨g,0,none⟩)] 61 (0,0))).alloc (.cells #[.int .i64 (deep : Int)] 3 (0,0))):=((Below.refl _ _).alloc (Nat.le_refl _) _).alloc (by rw [World.size_alloc];omega) _
 have hbox : Box ((w.alloc (.cells #[.pointer (some ⟨g,0,none⟩)] 61 (0,0))).alloc (.cells #[.int .i64 (deep : Int)] 3 (0,0))) w.heap.size (w.heap.size + 1) g deep :=
  ⟨(Lib.alloc_old _ _ _ (by rw [World.size_alloc];omega)).trans (heap_alloc_new w _),by have:=heap_alloc_new (w.alloc (.cells #[.pointer (some ⟨g,0,none⟩)] 61 (0,0))) (.cells #[.int .i64 (deep : Int)] 3 (0,0));rw [World.size_alloc] at this;exact this⟩
 generalize hww : (w.alloc (.cells #[.pointer (some ⟨g,0,none⟩)] 61 (0,0))).alloc (.cells #[.int .i64 (deep : Int)] 3 (0,0)) = w2 at hw2 hbox
 have HWW:=Lib.hid hww
 clear hww
 generalize hB1 : w.heap.size = b1 at hbox
 have HW2:=Lib.hid hw2
 have HBOX:=Lib.hid hbox
 clear hw2 hbox hB1
 have HP2 : Hid (PS w2 g base s p v xs):=Lib.hid ⟨HP.out.P.below HW2.out,HP.out.R.below HW2.out⟩
 have HG2 : Hid (GlobU8 w2):=Lib.hid (HG.out.below HW2.out)
 obtain ⟨x1,x2⟩:=HBOX.out.cells
 obtain ⟨k0,k1,k2⟩:=HP2.out.P.cells
 obtain ⟨f1,f2⟩:=HP2.out.P.free
 clear f1
 cases l with
 | nil =>
  obtain ⟨d1,d2⟩:=at_ge HA.out
  have HO : Hid (value d key [] = .bad [] 5):=Lib.hid (by cases d <;> rfl)
  clear x2 k2 f2
  go_quiet (fail)
  go_wp2_with fail
  have HCq : Hid (Ch g v v w (w2.drewN nq)):=Lib.hid ((Ch.of_below HW2.out).trans (Ch.of_drawn (by repeat (first|exact Drawn0.refl _|apply Drawn0.step|apply drawn_drew))))
  have y1 : (w2.drewN nq).cell? ⟨b1,0,none⟩ = some (.pointer (some ⟨g,0,none⟩)):=x1
  have j1 : (w2.drewN nq).cell? ⟨g,1,none⟩ = some (.int .i64 (p : Int)):=k1
  clear x1 k1 k0
  have x1:=y1
  have k1:=j1
  clear y1 j1
  generalize w2.drewN nq = wq at *
  refine start_ (n:=6) (S:=fun w' => w'.cell? ⟨b1,0,none⟩ = some (.pointer (some ⟨g,0,none⟩)) ∧ w'.cell? ⟨g,1,none⟩ = some (.int .i64 (p : Int))) (ds:=[]) #[false,false,false,false,false,false] (by kernel_rfl) rfl rfl ⟨x1,k1⟩ (fun hHeld => ?_)
  refine take_ (i:=0) (N:=some 20) (v:=?_) (a':=?_) #[true,false,false,false,false,false] rfl rfl (by kernel_rfl) (fun _ _ _ h => h) (Or.inl ⟨by rfl,?_⟩) hHeld ?_ ?_
  rotate_left
  ·rintro w' ⟨s0,s1⟩
   go_simp
   with_reducible rfl
  rotate_left
  ·simp only [Act.put,List.setIfInBounds_toArray,List.set_cons_zero,List.set_cons_succ,i64_w,i32_w]
   rfl
  refine take_ (i:=1) (N:=some 21) (v:=?_) (a':=?_) #[true,true,false,false,false,false] rfl rfl (by kernel_rfl) (fun _ _ _ h => h) (Or.inl ⟨by rfl,?_⟩) hHeld ?_ ?_
  rotate_left
  ·rintro w' ⟨s0,s1⟩
   go_simp
   with_reducible rfl
  rotate_left
  ·simp only [Act.put,List.setIfInBounds_toArray,List.set_cons_zero,List.set_cons_succ,i64_w,i32_w]
   rfl
  refine pure_ (i:=2) (N:=some 22) (v:=?_) (a':=?_) #[true,true,true,false,false,false] rfl rfl (by kernel_rfl) (fun _ _ _ h => h) (Or.inl ⟨by rfl,?_⟩) ?_ ?_
  rotate_left
  ·intro w'
   go_simp
   with_reducible rfl
  rotate_left
  ·simp only [Act.put,List.setIfInBounds_toArray,List.set_cons_zero,List.set_cons_succ,i64_w,i32_w]
   rfl
  refine pure_ (i:=3) (N:=some 23) (v:=?_) (a':=?_) #[true,true,true,true,false,false] rfl rfl (by kernel_rfl) (fun _ _ _ h => h) (Or.inl ⟨by rfl,?_⟩) ?_ ?_
  rotate_left
  ·intro w'
   go_simp
   with_reducible rfl
  rotate_left
  ·simp only [Act.put,List.setIfInBounds_toArray,List.set_cons_zero,List.set_cons_succ,i64_w,i32_w]
   rfl
  refine take_ (i:=4) (N:=some 24) (v:=?_) (a':=?_) #[true,true,true,true,true,false] rfl rfl (by kernel_rfl) (fun _ _ _ h => h) (Or.inl ⟨by rfl,?_⟩) hHeld ?_ ?_
  rotate_left
  ·rintro w' ⟨s0,s1⟩
   go_simp
   with_reducible rfl
  rotate_left
  ·simp only [Act.put,List.setIfInBounds_toArray,List.set_cons_zero,List.set_cons_succ,i64_w,i32_w]
   rfl
  refine one_ (i:=5) (N:=some 25) #[true,true,true,true,true,true] rfl rfl (by kernel_rfl) (by decide) (fun K hK => ?_)
  go_simp
  go_at_call 34
  refine (fail_calls _ _ _).mono ?_
  rintro e w3 ⟨rfl,rfl⟩
  have hpost : PostN s g base v (fun f : F => xs ++ f.flat) w (value d key []) (.panicked [{ v:=.iface 59 (.agg #[.int .i64 (p : Int),.int .i64 5]),recovered:=false }]) wq.drew:=by
   rw [HO.out]
   exact ⟨HA.out.stops 5,v,HCq.out.trans (Ch.of_drawn (by repeat (first|exact Drawn0.refl _|apply Drawn0.step|apply drawn_drew)))⟩
  exact ⟨rfl,hpost⟩
 | cons c r =>
  obtain ⟨d1,d2⟩:=at_lt HA.out
  obtain ⟨A,cap,hvs,hcap⟩ : ∃ A cap,v = .slice A xs.length cap ∧ xs.length ≤ cap:=by
   obtain ⟨A,cap,h1,h2,_⟩:=Kd.R_reads HP.out.R
   exact ⟨A,cap,h1,h2⟩
  subst hvs
  go_quiet (fail)
  go_upto_region 5 with (fail)
  have HPq : Hid (PS (w2.drewN nq) g base s p (.slice A xs.length cap) xs):=Lib.hid (HP2.out.drawn (by repeat (first|exact Drawn0.refl _|apply Drawn0.step|apply drawn_drew)))
  have HBq : Hid (Box (w2.drewN nq) b1 (b1 + 1) g deep):=Lib.hid ⟨HBOX.out.A,HBOX.out.B⟩
  have HCq : Hid (Ch g (.slice A xs.length cap) (.slice A xs.length cap) w (w2.drewN nq)):=Lib.hid ((Ch.of_below HW2.out).trans (Ch.of_drawn (by repeat (first|exact Drawn0.refl _|apply Drawn0.step|apply drawn_drew))))
  have HGq : Hid (GlobU8 (w2.drewN nq)):=Lib.hid (HG2.out.drawn (by repeat (first|exact Drawn0.refl _|apply Drawn0.step|apply drawn_drew)))
  clear x1 x2 k0 k1 k2 f2
  generalize w2.drewN nq = wq at HPq HBq HCq HGq
  obtain ⟨x1,x2⟩:=HBq.out.cells
  obtain ⟨k0,k1,k2⟩:=HPq.out.P.cells
  have hal : Below wq.drew.heap.size wq.drew (wq.drew.alloc (.cells #[.int .i64 0,.int .i64 1,.int .i64 0,.string (str key),.string ⟨#[]⟩] 46 (0,0))):=(Below.refl _ _).alloc (Nat.le_refl _) _
  have HAL:=Lib.hid hal
  have HLT1 : Hid (b1 < wq.heap.size):=Lib.hid (blk_lt HBq.out.A)
  have HLTG : Hid (g < wq.heap.size):=Lib.hid HPq.out.P.lt
  have HNE1 : Hid (some b1 ≠ (Value.slice A xs.length cap).ownBlock):=Lib.hid (HPq.out.R.ne HBq.out.A (by decide))
  have HBS : Hid (base ≤ wq.drew.heap.size):=Lib.hid (by have:=HPq.out.P.lt;show base ≤ wq.heap.size;omega)
  clear hal
  refine start_ (n:=12) (S:=fun w' => w'.cell? ⟨b1,0,none⟩ = some (.pointer (some ⟨g,0,none⟩)) ∧ w'.cell? ⟨g,2,none⟩ = some (.slice A xs.length cap)) (ds:=[11]) #[false,false,false,false,false,false,false,false,false,false,false,false] (by kernel_rfl) rfl rfl ⟨x1,k2⟩ (fun hHeld => ?_)
  refine pure_ (i:=5) (N:=some 40) (v:=?_) (a':=?_) #[false,false,false,false,false,true,false,false,false,false,false,false] rfl rfl (by kernel_rfl) (fun _ _ _ h => h) (Or.inl ⟨by rfl,?_⟩) ?_ ?_
  rotate_left
  ·intro w'
   go_simp
   with_reducible rfl
  rotate_left
  ·simp only [Act.put,List.setIfInBounds_toArray,List.set_cons_zero,List.set_cons_succ,i64_w,i32_w]
   rfl
  refine pure_ (i:=6) (N:=some 41) (v:=?_) (a':=?_) #[false,false,false,false,false,true,true,false,false,false,false,false] rfl rfl (by kernel_rfl) (fun _ _ _ h => h) (Or.inl ⟨by rfl,?_⟩) ?_ ?_
  rotate_left
  ·intro w'
   go_simp
   with_reducible rfl
  rotate_left
  ·simp only [Act.put,List.setIfInBounds_toArray,List.set_cons_zero,List.set_cons_succ,i64_w,i32_w]
   rfl
  refine take_ (i:=0) (N:=some 35) (v:=?_) (a':=?_) #[true,false,false,false,false,true,true,false,false,false,false,false] rfl rfl (by kernel_rfl) (fun _ _ _ h => h) (Or.inl ⟨by rfl,?_⟩) hHeld ?_ ?_
  rotate_left
  ·rintro w' ⟨s0,s1⟩
   go_simp
   with_reducible rfl
  rotate_left
  ·simp only [Act.put,List.setIfInBounds_toArray,List.set_cons_zero,List.set_cons_succ,i64_w,i32_w]
   rfl
  refine take_ (i:=1) (N:=some 36) (v:=?_) (a':=?_) #[true,true,false,false,false,true,true,false,false,false,false,false] rfl rfl (by kernel_rfl) (fun _ _ _ h => h) (Or.inl ⟨by rfl,?_⟩) hHeld ?_ ?_
  rotate_left
  ·rintro w' ⟨s0,s1⟩
   go_simp
   with_reducible rfl
  rotate_left
  ·simp only [Act.put,List.setIfInBounds_toArray,List.set_cons_zero,List.set_cons_succ,i64_w,i32_w]
   rfl
  refine pure_ (i:=2) (N:=some 37) (v:=?_) (a':=?_) #[true,true,true,false,false,true,true,false,false,false,false,false] rfl rfl (by kernel_rfl) (fun _ _ _ h => h) (Or.inl ⟨by rfl,?_⟩) ?_ ?_
  rotate_left
  ·intro w'
   go_simp
   with_reducible rfl
  rotate_left
  ·simp only [Act.put,List.setIfInBounds_toArray,List.set_cons_zero,List.set_cons_succ,i64_w,i32_w]
   rfl
  refine pure_ (i:=3) (N:=some 38) (v:=?_) (a':=?_) #[true,true,true,true,false,true,true,false,false,false,false,false] rfl rfl (by kernel_rfl) (fun _ _ _ h => h) (Or.inl ⟨by rfl,?_⟩) ?_ ?_
  rotate_left
  ·intro w'
   go_simp
   with_reducible rfl
  rotate_left
  ·simp only [Act.put,List.setIfInBounds_toArray,List.set_cons_zero,List.set_cons_succ,i64_w,i32_w]
   rfl
  refine take_ (i:=4) (N:=some 39) (v:=?_) (a':=?_) #[true,true,true,true,true,true,true,false,false,false,false,false] rfl rfl (by kernel_rfl) (fun _ _ _ h => h) (Or.inl ⟨by rfl,?_⟩) hHeld ?_ ?_
  rotate_left
  ·rintro w' ⟨s0,s1⟩
   go_simp
   with_reducible rfl
  rotate_left
  ·simp only [Act.put,List.setIfInBounds_toArray,List.set_cons_zero,List.set_cons_succ,i64_w,i32_w]
   rfl
  refine one_ (i:=7) (N:=some 42) #[true,true,true,true,true,true,true,true,false,false,false,false] rfl rfl (by kernel_rfl) (by decide) (fun K hK => ?_)
  refine value_ (w1:=?_) (v:=?_) (by rfl) rfl ?_ ?_
  rotate_left 2
  ·go_simp
   constructor
   ·rfl
   ·rfl
  have X1 : (wq.drew.alloc (.cells #[.int .i64 0,.int .i64 1,.int .i64 0,.string (str key),.string ⟨#[]⟩] 46 (0,0))).cell? ⟨b1,0,none⟩ = some (.pointer (some ⟨g,0,none⟩)):=(HAL.out.cell HLT1.out).trans x1
  have K2 : (wq.drew.alloc (.cells #[.int .i64 0,.int .i64 1,.int .i64 0,.string (str key),.string ⟨#[]⟩] 46 (0,0))).cell? ⟨g,2,none⟩ = some (.slice A xs.length cap):=(HAL.out.cell HLTG.out).trans k2
  refine hK.out _ _ ⟨X1,K2⟩ (fun hHeld => ?_)
  clear hK K
  refine norm_ (a':=?_) ?_ ?_
  rotate_left
  ·show Act.put _ (some 42) _ = _
   simp only [Act.put,List.setIfInBounds_toArray,List.set_cons_zero,List.set_cons_succ,i64_w,i32_w]
   rfl
  refine one_ (i:=8) (N:=some 43) #[true,true,true,true,true,true,true,true,true,false,false,false] rfl rfl (by kernel_rfl) (by decide) (fun K hK => ?_)
  refine Kd.R_append_step kN (w0:=wq.drew) base (by rfl) (.tmp 39) (.tmp 42) 22 46 (.agg #[.int .i64 0,.int .i64 0,.int .i64 0,.string ⟨#[]⟩,.string ⟨#[]⟩]) 56 rfl Tryd.underlying22 info46 rfl (by decide) (by decide) (.slice A xs.length cap) xs (nod key) [.int .i64 0,.int .i64 1,.int .i64 0,.string (str key),.string ⟨#[]⟩] (fun _ => True) (fun _ => False) rfl rfl (k46_mkM _ _ _ (nod key)) (fun _ hk => hk.elim) (fun _ _ => trivial) (HPq.out.drawn (drawn_drew _ _ (Drawn0.refl _))).R.all (Below.refl _ _) HBS.out (by omega) ?_
  intro v3 w3 hr3 hb3 hg3 hat3
  obtain ⟨A3,c3,rfl⟩:=Kd.R_slice hr3
  have hps:=(HPq.out.drawn (drawn_drew wq wq (Drawn0.refl _))).pushed hr3 hg3 hat3
  have HPS3:=Lib.hid hps.1
  have HCH3:=Lib.hid hps.2.1
  have HAT3:=Lib.hid hat3
  obtain ⟨z0,z1,z2⟩:=hps.2.2.cells
  obtain ⟨f1,f2⟩:=hps.2.2.free
  have X3 : w3.cell? ⟨b1,0,none⟩ = some (.pointer (some ⟨g,0,none⟩)):=(cell_same (hg3.block b1 HLT1.out HNE1.out)).trans x1
  clear hr3 hb3 hg3 hat3 hps z0 z1 f1 X1 K2
  refine hK.out _ _ ⟨X3,z2⟩ (fun hHeld => ?_)
  clear hK K
  refine norm_ (a':=?_) ?_ ?_
  rotate_left
  ·show Act.put _ (some 43) _ = _
   simp only [Act.put,List.setIfInBounds_toArray,List.set_cons_zero,List.set_cons_succ,i64_w,i32_w]
   rfl
  refine pure_ (i:=9) (N:=some 44) (v:=?_) (a':=?_) #[true,true,true,true,true,true,true,true,true,true,false,false] rfl rfl (by kernel_rfl) (fun _ _ _ h => h) (Or.inl ⟨by rfl,?_⟩) ?_ ?_
  rotate_left
  ·intro w'
   go_simp
   with_reducible rfl
  rotate_left
  ·simp only [Act.put,List.setIfInBounds_toArray,List.set_cons_zero,List.set_cons_succ,i64_w,i32_w]
   rfl
  refine pure_ (i:=10) (N:=some 45) (v:=?_) (a':=?_) #[true,true,true,true,true,true,true,true,true,true,true,false] rfl rfl (by kernel_rfl) (fun _ _ _ h => h) (Or.inl ⟨by rfl,?_⟩) ?_ ?_
  rotate_left
  ·intro w'
   go_simp
   with_reducible rfl
  rotate_left
  ·simp only [Act.put,List.setIfInBounds_toArray,List.set_cons_zero,List.set_cons_succ,i64_w,i32_w]
   rfl
  refine last_ (i:=11) (N:=none) #[true,true,true,true,true,true,true,true,true,true,true,true] rfl rfl (by kernel_rfl) (by decide) (fun K hK => ?_)
  refine skip_ (w1:=?_) (by rfl) rfl ?_ ?_
  rotate_left
  ·go_simp
   rfl
  refine hK.out _ _ ?_
  clear hK K
  refine done_ (by kernel_rfl) ?_
  have hl1 : (xs ++ [nod key]).length = xs.length + 1:=by simp
  rw [hl1] at HPS3 HCH3
  clear hl1
  have HC5 : Hid (Ch g (.slice A xs.length cap) (.slice A3 (xs.length + 1) c3) w (w3.setCell ⟨g,2,none⟩ (.slice A3 (xs.length + 1) c3))):=Lib.hid ((HCq.out.trans (Ch.of_drawn (drawn_drew _ _ (Drawn0.refl _)))).trans HCH3.out)
  have HB5 : Hid (Box (w3.setCell ⟨g,2,none⟩ (.slice A3 (xs.length + 1) c3)) b1 (b1 + 1) g deep):=Lib.hid (Box.ch (w:=wq.drew) ⟨HBq.out.A,HBq.out.B⟩ (HPq.out.drawn (drawn_drew _ _ (Drawn0.refl _))) HCH3.out)
  have HG5 : Hid (GlobU8 (w3.setCell ⟨g,2,none⟩ (.slice A3 (xs.length + 1) c3))):=Lib.hid (HG.out.ch hg2 hb2 HP.out.R HC5.out)
  clear x1 x2 k0 k1 k2 z2 f2 X3 hHeld
  generalize hv3 : Value.slice A3 (xs.length + 1) c3 = v3 at HPS3 HC5 HB5 HG5 HCH3
  have HV3:=Lib.hid hv3
  clear hv3
  generalize hw5 : w3.setCell ⟨g,2,none⟩ v3 = w5 at HPS3 HC5 HB5 HG5 HCH3
  have HW5:=Lib.hid hw5
  clear hw5
  obtain ⟨x1,x2⟩:=HB5.out.cells
  obtain ⟨k0,k1,k2⟩:=HPS3.out.P.cells
  clear k0 k1 k2
  go_upto_block 0 with (go_at_call 46;refine (byte_some g s p v3 c r _ HPS3.out.P HA.out).mono ?_;rintro e w6 ⟨rfl,hd6⟩;have HD6:=Lib.hid hd6;clear hd6)
  have HP6 : Hid (PS w6 g base s p v3 (xs ++ [nod key])):=Lib.hid (HPS3.out.drawn HD6.out)
  have HC6 : Hid (Ch g (.slice A xs.length cap) v3 w w6):=Lib.hid (HC5.out.trans (Ch.of_drawn HD6.out))
  have HB6 : Hid (Box w6 b1 (b1 + 1) g deep):=Lib.hid (HB5.out.ch HPS3.out (Ch.of_drawn HD6.out))
  have HG6 : Hid (GlobU8 w6):=Lib.hid (HG5.out.drawn HD6.out)
  clear x1 x2
  obtain ⟨x1,x2⟩:=HB6.out.cells
  obtain ⟨k0,k1,k2⟩:=HP6.out.P.cells
  generalize hO : value d key (c :: r) = O
  have HO:=Lib.hid hO
  clear hO k0 k1
  go_cut [] (fun wx => ∃ (q : Nat) (u : Value) (h' : Nd) (ys : List Nd) (r' : Bs) (f : F),Hid (O = .ok r' f ∧ f.flat = { h' with f1:=((ys.length + 1 : Nat) : Int) } :: ys) ∧ Hid (At s q r') ∧ Hid (PS wx g base s q u ((xs ++ [h']) ++ ys)) ∧ Hid (Ch g (.slice A xs.length cap) u w wx) ∧ Hid (Box wx b1 (b1 + 1) g deep))
  case first =>
   obtain ⟨z,hz⟩ : ∃ z,Lib.indexByte [123,91,34,45,48,49,50,51,52,53,54,55,56,57,116,102,110] c = z:=⟨_,rfl⟩
   have hzb:=idx_begins c
   rw [hz] at hzb
   have HZ:=Lib.hid hz
   clear hz
   cases hb : begins c with
   | false =>
    rw [hb] at hzb
    have HOO : Hid (O = .bad (c :: r) 5):=Lib.hid (by rw [← HO.out];cases d <;> simp [value,hb])
    clear hb x2 k2
    go_wp2_with (first
     | (go_at_call 45;refine (idx_of _ c z _ HZ.out).mono ?_;rintro e w9 ⟨rfl,rfl⟩)
     | (go_at_call 34;refine (fail_calls _ _ _).mono ?_;rintro e w10 ⟨rfl,rfl⟩))
    rw [HO.out,HOO.out]
    exact ⟨rfl,HA.out.stops 5,v3,HC6.out⟩
   | true =>
    rw [hb] at hzb
    cases d with
    | zero =>
     have HOO : Hid (O = .bad (c :: r) 7):=Lib.hid (by rw [← HO.out];simp [value,hb])
     have hdp : deep = 32:=by omega
     subst hdp
     clear hb k2
     go_wp2_with (first
      | (go_at_call 45;refine (idx_of _ c z _ HZ.out).mono ?_;rintro e w9 ⟨rfl,rfl⟩))
     rw [HO.out,HOO.out]
     exact ⟨rfl,HA.out.stops 7,v3,HC6.out⟩
    | succ d =>
     have hdp : (deep : Int) < 32:=by omega
     have hdn : deep < 32:=by omega
     have HV : Hid (value (d + 1) key (c :: r) = if c = 123 then many (value d) true key r
      else if c = 91 then many (value d) false key r
      else if c = 34 then (text (c :: r)).map fun t => .leaf key 5 t .nil
      else if c = 116 then (word [116,114,117,101] (c :: r)).map fun _ => .leaf key 2 [] .nil
      else if c = 102 then (word [102,97,108,115,101] (c :: r)).map fun _ => .leaf key 3 [] .nil
      else if c = 110 then (word [110,117,108,108] (c :: r)).map fun _ => .leaf key 1 [] .nil
      else (number (c :: r)).map fun t => .leaf key 4 t .nil):=Lib.hid (by simp only [value];rw [if_neg (by rw [hb];simp)])
     have IH:=Lib.hid (ih d rfl)
     clear hb ih hd
     have hmf : ∀ (fn : Fn) (first cap : Array Value) (w : World),(Instr.makeFunc fn first cap).run Tryd.prog w = .ok (.func fn first cap) w:=fun _ _ _ _ => rfl
     by_cases c123 : c = 123
     ·subst c123
      have HVV:=Lib.hid (HV.out.trans (by rw [if_pos rfl]))
      have hi3 : xs.length < (xs ++ [nod key]).length:=by simp
      obtain ⟨b,c4,rfl,hc4,hb4,hlt4,hx4,hf4⟩:=HP6.out.R.at_ hi3
      have hi4 : (xs.length : Int) < ((xs ++ [nod key]).length : Int):=by omega
      have hgd : (xs ++ [nod key]).getD xs.length zN = nod key:=by have:=at_mid (xs:=xs) (h:=nod key) (ys:=[]);rw [List.append_nil] at this;exact this.1
      have hst : ∀ h',(xs ++ [nod key]).set xs.length h' = xs ++ [h']:=by intro h';have:=(at_mid (xs:=xs) (h:=nod key) (ys:=[])).2 h';rw [List.append_nil,List.append_nil] at this;exact this
      rw [hgd] at hx4
      have hx0:=hx4.1
      have hx4':=hx4.2.2.2.2
      have hf0 : w6.frozen? ⟨b,xs.length * 5,none⟩ = false:=hf4 0
      have hf4':=hf4 4
      clear hx4 hf4 hc4 hlt4 hb4
      have ps7:=HP6.out.put hi3 0 (by omega) (.int .i64 7) { nod key with f0:=7 } (by rw [hgd];rfl)
      rw [hst] at ps7
      have HP7:=Lib.hid ps7
      have HC7:=Lib.hid ((HC6.out.setRow (xs.length * 5 + 0) (.int .i64 7)).len_ (xs ++ [({ nod key with f0:=7 } : Nd)]).length)
      have HB7:=Lib.hid (HB6.out.ch HP6.out ((Ch.refl g _ w6).setRow (xs.length * 5 + 0) (.int .i64 7)))
      have HG7:=Lib.hid (HG.out.ch hg2 hb2 HP.out.R HC7.out)
      have eg : ∀ args w,(callFunc 48 args).run Tryd.prog w = .ok (.enter 48 args) w:=fun args w => enters_ Tryd.func48 (by kernel_rfl) (by kernel_rfl) args w
      have hln7 : xs.length ≤ p:=HN.out
      have HLN7:=Lib.hid hln7
      have HONE : Hid (OneOk 48 b1 (b1 + 1) g base s deep (item (value d) true)):=Lib.hid (one1_ok d deep hdn IH.out b1 (b1 + 1) g base s hs hg2 hb2 hbg)
      have y1 : (w6.setCell ⟨b,xs.length * 5,none⟩ (.int .i64 7)).cell? ⟨b1,0,none⟩ = some (.pointer (some ⟨g,0,none⟩)):=HB7.out.cells.1
      clear ps7 hst hgd hx4' hf4' hln7 
      cases hM : manyS (value d) true r with
      | bad r5 x5 =>
       have HOO : Hid (O = .bad r5 x5):=Lib.hid (by rw [← HO.out,HVV.out,many_eq,hM];rfl)
       have HM:=Lib.hid hM
       clear hM
       go_wp2_with (first
        | (go_at_call 45;refine (idx_of _ 123 z _ HZ.out).mono ?_;rintro e w9 ⟨rfl,rfl⟩)
        | (go_at_call 47;refine (many_calls 48 b1 (b1 + 1) g base s deep true 125 (value d) rfl (value_owes d) HONE.out eg p _ xs _ 123 r _ hs HG7.out hg2 hb2 HP7.out HA.out HLN7.out rfl HB7.out).mono ?_;rw [HM.out];rintro e w8 ⟨hst,v8,hc8⟩;have HST:=Lib.hid hst;have HC8:=Lib.hid hc8;clear hc8;unfold Stops at hst;subst hst))
       rw [HO.out,HOO.out]
       exact ⟨rfl,HST.out,v8,HC7.out.trans HC8.out⟩
      | ok r5 f5 =>
       have HOO : Hid (O = .ok r5 (.node key 7 f5 .nil)):=Lib.hid (by rw [← HO.out,HVV.out,many_eq,hM];rfl)
       have HM:=Lib.hid hM
       clear hM
       go_wp2_with (first
        | (go_at_call 45;refine (idx_of _ 123 z _ HZ.out).mono ?_;rintro e w9 ⟨rfl,rfl⟩)
        | (go_at_call 47;refine (many_calls 48 b1 (b1 + 1) g base s deep true 125 (value d) rfl (value_owes d) HONE.out eg p _ xs _ 123 r _ hs HG7.out hg2 hb2 HP7.out HA.out HLN7.out rfl HB7.out).mono ?_;rw [HM.out];rintro e w8 ⟨rfl,q8,v8,ha8,hp8,hc8⟩;have HA8:=Lib.hid ha8;have HP8:=Lib.hid hp8;have HC8:=Lib.hid hc8;clear ha8 hp8 hc8))
       go_meet
       case rel => exact ⟨q8,v8,_,f5.flat,r5,_,Lib.hid ⟨HOO.out,by simp [F.flat,nod]⟩,HA8,HP8,Lib.hid (HC7.out.trans HC8.out),Lib.hid (HB7.out.ch HP7.out HC8.out)⟩
     ·have q123 : ((c.toNat : Int) == 123) = false:=by
       simp only [beq_eq_false_iff_ne,ne_eq]
       exact fun e => c123 (u8_lit (n:=123) (by omega) (by omega))
      have HN123:=Lib.hid c123
      clear c123
      by_cases c91 : c = 91
      ·subst c91
       have HVV:=Lib.hid (HV.out.trans (by rw [if_neg (by decide),if_pos rfl]))
       clear q123
       have hi3 : xs.length < (xs ++ [nod key]).length:=by simp
       obtain ⟨b,c4,rfl,hc4,hb4,hlt4,hx4,hf4⟩:=HP6.out.R.at_ hi3
       have hi4 : (xs.length : Int) < ((xs ++ [nod key]).length : Int):=by omega
       have hgd : (xs ++ [nod key]).getD xs.length zN = nod key:=by have:=at_mid (xs:=xs) (h:=nod key) (ys:=[]);rw [List.append_nil] at this;exact this.1
       have hst : ∀ h',(xs ++ [nod key]).set xs.length h' = xs ++ [h']:=by intro h';have:=(at_mid (xs:=xs) (h:=nod key) (ys:=[])).2 h';rw [List.append_nil,List.append_nil] at this;exact this
       rw [hgd] at hx4
       have hx0:=hx4.1
       have hx4':=hx4.2.2.2.2
       have hf0 : w6.frozen? ⟨b,xs.length * 5,none⟩ = false:=hf4 0
       have hf4':=hf4 4
       clear hx4 hf4 hc4 hlt4 hb4
       have ps7:=HP6.out.put hi3 0 (by omega) (.int .i64 6) { nod key with f0:=6 } (by rw [hgd];rfl)
       rw [hst] at ps7
       have HP7:=Lib.hid ps7
       have HC7:=Lib.hid ((HC6.out.setRow (xs.length * 5 + 0) (.int .i64 6)).len_ (xs ++ [({ nod key with f0:=6 } : Nd)]).length)
       have HB7:=Lib.hid (HB6.out.ch HP6.out ((Ch.refl g _ w6).setRow (xs.length * 5 + 0) (.int .i64 6)))
       have HG7:=Lib.hid (HG.out.ch hg2 hb2 HP.out.R HC7.out)
       have eg : ∀ args w,(callFunc 51 args).run Tryd.prog w = .ok (.enter 51 args) w:=fun args w => enters_ Tryd.func51 (by kernel_rfl) (by kernel_rfl) args w
       have hln7 : xs.length ≤ p:=HN.out
       have HLN7:=Lib.hid hln7
       have HONE : Hid (OneOk 51 b1 (b1 + 1) g base s deep (item (value d) false)):=Lib.hid (one2_ok d deep hdn IH.out b1 (b1 + 1) g base s hs hg2 hb2 hbg)
       have y1 : (w6.setCell ⟨b,xs.length * 5,none⟩ (.int .i64 6)).cell? ⟨b1,0,none⟩ = some (.pointer (some ⟨g,0,none⟩)):=HB7.out.cells.1
       clear ps7 hst hgd hx4' hf4' hln7 
       cases hM : manyS (value d) false r with
       | bad r5 x5 =>
        have HOO : Hid (O = .bad r5 x5):=Lib.hid (by rw [← HO.out,HVV.out,many_eq,hM];rfl)
        have HM:=Lib.hid hM
        clear hM
        go_wp2_with (first
         | (go_at_call 45;refine (idx_of _ 91 z _ HZ.out).mono ?_;rintro e w9 ⟨rfl,rfl⟩)
         | (go_at_call 47;refine (many_calls 51 b1 (b1 + 1) g base s deep false 93 (value d) rfl (value_owes d) HONE.out eg p _ xs _ 91 r _ hs HG7.out hg2 hb2 HP7.out HA.out HLN7.out rfl HB7.out).mono ?_;rw [HM.out];rintro e w8 ⟨hst,v8,hc8⟩;have HST:=Lib.hid hst;have HC8:=Lib.hid hc8;clear hc8;unfold Stops at hst;subst hst))
        rw [HO.out,HOO.out]
        exact ⟨rfl,HST.out,v8,HC7.out.trans HC8.out⟩
       | ok r5 f5 =>
        have HOO : Hid (O = .ok r5 (.node key 6 f5 .nil)):=Lib.hid (by rw [← HO.out,HVV.out,many_eq,hM];rfl)
        have HM:=Lib.hid hM
        clear hM
        go_wp2_with (first
         | (go_at_call 45;refine (idx_of _ 91 z _ HZ.out).mono ?_;rintro e w9 ⟨rfl,rfl⟩)
         | (go_at_call 47;refine (many_calls 51 b1 (b1 + 1) g base s deep false 93 (value d) rfl (value_owes d) HONE.out eg p _ xs _ 91 r _ hs HG7.out hg2 hb2 HP7.out HA.out HLN7.out rfl HB7.out).mono ?_;rw [HM.out];rintro e w8 ⟨rfl,q8,v8,ha8,hp8,hc8⟩;have HA8:=Lib.hid ha8;have HP8:=Lib.hid hp8;have HC8:=Lib.hid hc8;clear ha8 hp8 hc8))
        go_meet
        case rel => exact ⟨q8,v8,_,f5.flat,r5,_,Lib.hid ⟨HOO.out,by simp [F.flat,nod]⟩,HA8,HP8,Lib.hid (HC7.out.trans HC8.out),Lib.hid (HB7.out.ch HP7.out HC8.out)⟩
      ·have q91 : ((c.toNat : Int) == 91) = false:=by
        simp only [beq_eq_false_iff_ne,ne_eq]
        exact fun e => c91 (u8_lit (n:=91) (by omega) (by omega))
       have HN91:=Lib.hid c91
       clear c91
       by_cases c34 : c = 34
       ·subst c34
        have HVV:=Lib.hid (HV.out.trans (by rw [if_neg (by decide),if_neg (by decide),if_pos rfl]))
        clear q123
        clear q91
        have hi3 : xs.length < (xs ++ [nod key]).length:=by simp
        obtain ⟨b,c4,rfl,hc4,hb4,hlt4,hx4,hf4⟩:=HP6.out.R.at_ hi3
        have hi4 : (xs.length : Int) < ((xs ++ [nod key]).length : Int):=by omega
        have hgd : (xs ++ [nod key]).getD xs.length zN = nod key:=by have:=at_mid (xs:=xs) (h:=nod key) (ys:=[]);rw [List.append_nil] at this;exact this.1
        have hst : ∀ h',(xs ++ [nod key]).set xs.length h' = xs ++ [h']:=by intro h';have:=(at_mid (xs:=xs) (h:=nod key) (ys:=[])).2 h';rw [List.append_nil,List.append_nil] at this;exact this
        rw [hgd] at hx4
        have hx0:=hx4.1
        have hx4':=hx4.2.2.2.2
        have hf0 : w6.frozen? ⟨b,xs.length * 5,none⟩ = false:=hf4 0
        have hf4':=hf4 4
        clear hx4 hf4 hc4 hlt4 hb4
        have ps7:=HP6.out.put hi3 0 (by omega) (.int .i64 5) { nod key with f0:=5 } (by rw [hgd];rfl)
        rw [hst] at ps7
        have HP7:=Lib.hid ps7
        have HC7:=Lib.hid ((HC6.out.setRow (xs.length * 5 + 0) (.int .i64 5)).len_ (xs ++ [({ nod key with f0:=5 } : Nd)]).length)
        have HB7:=Lib.hid (HB6.out.ch HP6.out ((Ch.refl g _ w6).setRow (xs.length * 5 + 0) (.int .i64 5)))
        have HG7:=Lib.hid (HG.out.ch hg2 hb2 HP.out.R HC7.out)
        have y1 : (w6.setCell ⟨b,xs.length * 5,none⟩ (.int .i64 5)).cell? ⟨b1,0,none⟩ = some (.pointer (some ⟨g,0,none⟩)):=HB7.out.cells.1
        clear ps7 hst hgd hx4' hf4' 
        cases hM : text (34 :: r) with
        | bad r5 x5 =>
         have HOO : Hid (O = .bad r5 x5):=Lib.hid (by rw [← HO.out,HVV.out,hM];rfl)
         have HM:=Lib.hid hM
         clear hM
         go_wp2_with (first
          | (go_at_call 45;refine (idx_of _ 34 z _ HZ.out).mono ?_;rintro e w9 ⟨rfl,rfl⟩)
          | (go_at_call 49;refine (text_calls g s p _ (34 :: r) _ hs HG7.out hg2 HP7.out.P HA.out).mono ?_;rw [HM.out];rintro e w8 ⟨hst,hu8⟩;have HST:=Lib.hid hst;have HU8:=Lib.hid hu8;clear hu8;unfold Stops at hst;subst hst))
         rw [HO.out,HOO.out]
         exact ⟨rfl,HST.out,_,HC7.out.trans (Ch.of_upd HU8.out)⟩
        | ok r5 t5 =>
         have HOO : Hid (O = .ok r5 (.leaf key 5 t5 .nil)):=Lib.hid (by rw [← HO.out,HVV.out,hM];rfl)
         have HM:=Lib.hid hM
         clear hM
         go_upto_region 21 with (first
          | (go_at_call 45;refine (idx_of _ 34 z _ HZ.out).mono ?_;rintro e w9 ⟨rfl,rfl⟩)
          | (go_at_call 49;refine (text_calls g s p _ (34 :: r) _ hs HG7.out hg2 HP7.out.P HA.out).mono ?_;rw [HM.out];rintro e w8 ⟨rfl,⟨q8,ha8,hp8⟩,hu8⟩;have HA8:=Lib.hid ha8;have HP8:=Lib.hid hp8;have HU8:=Lib.hid hu8;clear ha8 hp8 hu8))
         have HPS8 : Hid (PS w8 g base s q8 _ _):=Lib.hid (HP7.out.upd HP8.out HU8.out)
         have HB8:=Lib.hid (HB7.out.ch HP7.out (Ch.of_upd HU8.out))
         have hi5 : xs.length < (xs ++ [({ nod key with f0:=5 } : Nd)]).length:=by simp
         obtain ⟨b',c',hbe,hc5,hb5,hlt5,hx5,hf5⟩:=HPS8.out.R.at_ hi5
         obtain ⟨hbb,hcc⟩ : b = b' ∧ c4 = c':=by
          injection hbe with h1 h2 h3
          injection h1 with h1
          injection h1 with h1
          exact ⟨h1,h3⟩
         subst hbb
         have hgd5 : (xs ++ [({ nod key with f0:=5 } : Nd)]).getD xs.length zN = { nod key with f0:=5 }:=by have:=at_mid (xs:=xs) (h:=({ nod key with f0:=5 } : Nd)) (ys:=[]);rw [List.append_nil] at this;exact this.1
         have hst5 : ∀ h',(xs ++ [({ nod key with f0:=5 } : Nd)]).set xs.length h' = xs ++ [h']:=by intro h';have:=(at_mid (xs:=xs) (h:=({ nod key with f0:=5 } : Nd)) (ys:=[])).2 h';rw [List.append_nil,List.append_nil] at this;exact this
         have hx54:=hx5.2.2.2.2
         rw [hgd5] at hx54
         have hf54:=hf5 4
         have hi6 : (xs.length : Int) < ((xs ++ [({ nod key with f0:=5 } : Nd)]).length : Int):=by omega
         have ps9:=HPS8.out.put hi5 4 (by omega) (.string (str t5)) { nod key with f0:=5,f4:=str t5 } (by rw [hgd5];rfl)
         rw [hst5] at ps9
         have HP9:=Lib.hid ps9
         have HC9:=Lib.hid (((HC7.out.trans (Ch.of_upd HU8.out)).setRow (xs.length * 5 + 4) (.string (str t5))).len_ (xs ++ [({ nod key with f0:=5,f4:=str t5 } : Nd)]).length)
         have HB9:=Lib.hid (HB8.out.ch HPS8.out ((Ch.refl g _ w8).setRow (xs.length * 5 + 4) (.string (str t5))))
         obtain ⟨o1,o2⟩:=HB8.out.cells
         obtain ⟨m0,m1,m2⟩:=HP8.out.cells
         clear hbe hc5 hb5 hlt5 hx5 hf5 hgd5 hst5 ps9 o2 m0 m1
         go_wp2_with fail
         go_meet
         case rel => exact ⟨q8,_,{ nod key with f0:=5,f4:=str t5 },[],r5,_,Lib.hid ⟨HOO.out,by simp [F.flat,nod]⟩,HA8,Lib.hid (by rw [List.append_nil];exact HP9.out),HC9,HB9⟩
       ·have q34 : ((c.toNat : Int) == 34) = false:=by
         simp only [beq_eq_false_iff_ne,ne_eq]
         exact fun e => c34 (u8_lit (n:=34) (by omega) (by omega))
        have HN34:=Lib.hid c34
        clear c34
        by_cases c116 : c = 116
        ·subst c116
         have HVV:=Lib.hid (HV.out.trans (by rw [if_neg (by decide),if_neg (by decide),if_neg (by decide),if_pos rfl]))
         clear q123
         clear q91
         clear q34
         have hi3 : xs.length < (xs ++ [nod key]).length:=by simp
         have HI3:=Lib.hid hi3
         clear hi3 k2
         cases hM : word [116,114,117,101] (116 :: r) with
         | bad r5 x5 =>
          have HOO : Hid (O = .bad r5 x5):=Lib.hid (by rw [← HO.out,HVV.out,hM];rfl)
          have HM : Hid (word (ByteArray.data ⟨#[116,114,117,101]⟩).toList (116 :: r) = .bad r5 x5):=Lib.hid hM
          clear hM
          go_wp2_with (first
           | (go_at_call 45;refine (idx_of _ 116 z _ HZ.out).mono ?_;rintro e w9 ⟨rfl,rfl⟩)
           | (go_at_call 52;refine (word_calls g base s ⟨#[116,114,117,101]⟩ p xs.length 2 v3 (xs ++ [nod key]) (116 :: r) _ hs (by decide) HP6.out HA.out HI3.out).mono ?_;rw [HM.out];rintro e w8 ⟨hst,v8,hc8⟩;have HST:=Lib.hid hst;have HC8:=Lib.hid hc8;clear hc8;unfold Stops at hst;subst hst))
          rw [HO.out,HOO.out]
          exact ⟨rfl,HST.out,v8,HC6.out.trans HC8.out⟩
         | ok r5 u5 =>
          have HOO : Hid (O = .ok r5 (.leaf key 2 [] .nil)):=Lib.hid (by rw [← HO.out,HVV.out,hM];rfl)
          have HM : Hid (word (ByteArray.data ⟨#[116,114,117,101]⟩).toList (116 :: r) = .ok r5 u5):=Lib.hid hM
          clear hM
          go_wp2_with (first
           | (go_at_call 45;refine (idx_of _ 116 z _ HZ.out).mono ?_;rintro e w9 ⟨rfl,rfl⟩)
           | (go_at_call 52;refine (word_calls g base s ⟨#[116,114,117,101]⟩ p xs.length 2 v3 (xs ++ [nod key]) (116 :: r) _ hs (by decide) HP6.out HA.out HI3.out).mono ?_;rw [HM.out];rintro e w8 ⟨rfl,q8,v8,ha8,hp8,hc8⟩;have HA8:=Lib.hid ha8;have HP8:=Lib.hid hp8;have HC8:=Lib.hid hc8;clear ha8 hp8 hc8))
          go_meet
          case rel =>
           have hgd : (xs ++ [nod key]).getD xs.length zN = nod key:=by have:=at_mid (xs:=xs) (h:=nod key) (ys:=[]);rw [List.append_nil] at this;exact this.1
           have hst : ∀ h',(xs ++ [nod key]).set xs.length h' = xs ++ [h']:=by intro h';have:=(at_mid (xs:=xs) (h:=nod key) (ys:=[])).2 h';rw [List.append_nil,List.append_nil] at this;exact this
           have hp9:=HP8.out
           simp only [hgd,hst] at hp9
           exact ⟨q8,v8,{ nod key with f0:=2 },[],r5,_,Lib.hid ⟨HOO.out,by simp [F.flat,nod]⟩,HA8,Lib.hid (by rw [List.append_nil];exact hp9),Lib.hid (HC6.out.trans HC8.out),Lib.hid (HB6.out.ch HP6.out HC8.out)⟩
        ·have q116 : ((c.toNat : Int) == 116) = false:=by
          simp only [beq_eq_false_iff_ne,ne_eq]
          exact fun e => c116 (u8_lit (n:=116) (by omega) (by omega))
         have HN116:=Lib.hid c116
         clear c116
         by_cases c102 : c = 102
         ·subst c102
          have HVV:=Lib.hid (HV.out.trans (by rw [if_neg (by decide),if_neg (by decide),if_neg (by decide),if_neg (by decide),if_pos rfl]))
          clear q123
          clear q91
          clear q34
          clear q116
          have hi3 : xs.length < (xs ++ [nod key]).length:=by simp
          have HI3:=Lib.hid hi3
          clear hi3 k2
          cases hM : word [102,97,108,115,101] (102 :: r) with
          | bad r5 x5 =>
           have HOO : Hid (O = .bad r5 x5):=Lib.hid (by rw [← HO.out,HVV.out,hM];rfl)
           have HM : Hid (word (ByteArray.data ⟨#[102,97,108,115,101]⟩).toList (102 :: r) = .bad r5 x5):=Lib.hid hM
           clear hM
           go_wp2_with (first
            | (go_at_call 45;refine (idx_of _ 102 z _ HZ.out).mono ?_;rintro e w9 ⟨rfl,rfl⟩)
            | (go_at_call 52;refine (word_calls g base s ⟨#[102,97,108,115,101]⟩ p xs.length 3 v3 (xs ++ [nod key]) (102 :: r) _ hs (by decide) HP6.out HA.out HI3.out).mono ?_;rw [HM.out];rintro e w8 ⟨hst,v8,hc8⟩;have HST:=Lib.hid hst;have HC8:=Lib.hid hc8;clear hc8;unfold Stops at hst;subst hst))
           rw [HO.out,HOO.out]
           exact ⟨rfl,HST.out,v8,HC6.out.trans HC8.out⟩
          | ok r5 u5 =>
           have HOO : Hid (O = .ok r5 (.leaf key 3 [] .nil)):=Lib.hid (by rw [← HO.out,HVV.out,hM];rfl)
           have HM : Hid (word (ByteArray.data ⟨#[102,97,108,115,101]⟩).toList (102 :: r) = .ok r5 u5):=Lib.hid hM
           clear hM
           go_wp2_with (first
            | (go_at_call 45;refine (idx_of _ 102 z _ HZ.out).mono ?_;rintro e w9 ⟨rfl,rfl⟩)
            | (go_at_call 52;refine (word_calls g base s ⟨#[102,97,108,115,101]⟩ p xs.length 3 v3 (xs ++ [nod key]) (102 :: r) _ hs (by decide) HP6.out HA.out HI3.out).mono ?_;rw [HM.out];rintro e w8 ⟨rfl,q8,v8,ha8,hp8,hc8⟩;have HA8:=Lib.hid ha8;have HP8:=Lib.hid hp8;have HC8:=Lib.hid hc8;clear ha8 hp8 hc8))
           go_meet
           case rel =>
            have hgd : (xs ++ [nod key]).getD xs.length zN = nod key:=by have:=at_mid (xs:=xs) (h:=nod key) (ys:=[]);rw [List.append_nil] at this;exact this.1
            have hst : ∀ h',(xs ++ [nod key]).set xs.length h' = xs ++ [h']:=by intro h';have:=(at_mid (xs:=xs) (h:=nod key) (ys:=[])).2 h';rw [List.append_nil,List.append_nil] at this;exact this
            have hp9:=HP8.out
            simp only [hgd,hst] at hp9
            exact ⟨q8,v8,{ nod key with f0:=3 },[],r5,_,Lib.hid ⟨HOO.out,by simp [F.flat,nod]⟩,HA8,Lib.hid (by rw [List.append_nil];exact hp9),Lib.hid (HC6.out.trans HC8.out),Lib.hid (HB6.out.ch HP6.out HC8.out)⟩
         ·have q102 : ((c.toNat : Int) == 102) = false:=by
           simp only [beq_eq_false_iff_ne,ne_eq]
           exact fun e => c102 (u8_lit (n:=102) (by omega) (by omega))
          have HN102:=Lib.hid c102
          clear c102
          by_cases c110 : c = 110
          ·subst c110
           have HVV:=Lib.hid (HV.out.trans (by rw [if_neg (by decide),if_neg (by decide),if_neg (by decide),if_neg (by decide),if_neg (by decide),if_pos rfl]))
           clear q123
           clear q91
           clear q34
           clear q116
           clear q102
           have hi3 : xs.length < (xs ++ [nod key]).length:=by simp
           have HI3:=Lib.hid hi3
           clear hi3 k2
           cases hM : word [110,117,108,108] (110 :: r) with
           | bad r5 x5 =>
            have HOO : Hid (O = .bad r5 x5):=Lib.hid (by rw [← HO.out,HVV.out,hM];rfl)
            have HM : Hid (word (ByteArray.data ⟨#[110,117,108,108]⟩).toList (110 :: r) = .bad r5 x5):=Lib.hid hM
            clear hM
            go_wp2_with (first
             | (go_at_call 45;refine (idx_of _ 110 z _ HZ.out).mono ?_;rintro e w9 ⟨rfl,rfl⟩)
             | (go_at_call 52;refine (word_calls g base s ⟨#[110,117,108,108]⟩ p xs.length 1 v3 (xs ++ [nod key]) (110 :: r) _ hs (by decide) HP6.out HA.out HI3.out).mono ?_;rw [HM.out];rintro e w8 ⟨hst,v8,hc8⟩;have HST:=Lib.hid hst;have HC8:=Lib.hid hc8;clear hc8;unfold Stops at hst;subst hst))
            rw [HO.out,HOO.out]
            exact ⟨rfl,HST.out,v8,HC6.out.trans HC8.out⟩
           | ok r5 u5 =>
            have HOO : Hid (O = .ok r5 (.leaf key 1 [] .nil)):=Lib.hid (by rw [← HO.out,HVV.out,hM];rfl)
            have HM : Hid (word (ByteArray.data ⟨#[110,117,108,108]⟩).toList (110 :: r) = .ok r5 u5):=Lib.hid hM
            clear hM
            go_wp2_with (first
             | (go_at_call 45;refine (idx_of _ 110 z _ HZ.out).mono ?_;rintro e w9 ⟨rfl,rfl⟩)
             | (go_at_call 52;refine (word_calls g base s ⟨#[110,117,108,108]⟩ p xs.length 1 v3 (xs ++ [nod key]) (110 :: r) _ hs (by decide) HP6.out HA.out HI3.out).mono ?_;rw [HM.out];rintro e w8 ⟨rfl,q8,v8,ha8,hp8,hc8⟩;have HA8:=Lib.hid ha8;have HP8:=Lib.hid hp8;have HC8:=Lib.hid hc8;clear ha8 hp8 hc8))
            go_meet
            case rel =>
             have hgd : (xs ++ [nod key]).getD xs.length zN = nod key:=by have:=at_mid (xs:=xs) (h:=nod key) (ys:=[]);rw [List.append_nil] at this;exact this.1
             have hst : ∀ h',(xs ++ [nod key]).set xs.length h' = xs ++ [h']:=by intro h';have:=(at_mid (xs:=xs) (h:=nod key) (ys:=[])).2 h';rw [List.append_nil,List.append_nil] at this;exact this
             have hp9:=HP8.out
             simp only [hgd,hst] at hp9
             exact ⟨q8,v8,{ nod key with f0:=1 },[],r5,_,Lib.hid ⟨HOO.out,by simp [F.flat,nod]⟩,HA8,Lib.hid (by rw [List.append_nil];exact hp9),Lib.hid (HC6.out.trans HC8.out),Lib.hid (HB6.out.ch HP6.out HC8.out)⟩
          ·have q110 : ((c.toNat : Int) == 110) = false:=by
            simp only [beq_eq_false_iff_ne,ne_eq]
            exact fun e => c110 (u8_lit (n:=110) (by omega) (by omega))
           have HN110:=Lib.hid c110
           clear c110
           have HVV:=Lib.hid (HV.out.trans (by rw [if_neg HN123.out,if_neg HN91.out,if_neg HN34.out,if_neg HN116.out,if_neg HN102.out,if_neg HN110.out]))
           have hi3 : xs.length < (xs ++ [nod key]).length:=by simp
           have HI3:=Lib.hid hi3
           clear hi3 k2
           cases hM : number (c :: r) with
           | bad r5 x5 =>
            have HOO : Hid (O = .bad r5 x5):=Lib.hid (by rw [← HO.out,HVV.out,hM];rfl)
            have HM:=Lib.hid hM
            clear hM
            go_wp2_with (first
             | (go_at_call 45;refine (idx_of _ c z _ HZ.out).mono ?_;rintro e w9 ⟨rfl,rfl⟩)
             | (go_at_call 53;refine (number_calls g base s p xs.length v3 (xs ++ [nod key]) (c :: r) _ hs HP6.out HA.out HI3.out).mono ?_;rw [HM.out];rintro e w8 ⟨hst,v8,hc8⟩;have HST:=Lib.hid hst;have HC8:=Lib.hid hc8;clear hc8;unfold Stops at hst;subst hst))
            rw [HO.out,HOO.out]
            exact ⟨rfl,HST.out,v8,HC6.out.trans HC8.out⟩
           | ok r5 t5 =>
            have HOO : Hid (O = .ok r5 (.leaf key 4 t5 .nil)):=Lib.hid (by rw [← HO.out,HVV.out,hM];rfl)
            have HM:=Lib.hid hM
            clear hM
            go_wp2_with (first
             | (go_at_call 45;refine (idx_of _ c z _ HZ.out).mono ?_;rintro e w9 ⟨rfl,rfl⟩)
             | (go_at_call 53;refine (number_calls g base s p xs.length v3 (xs ++ [nod key]) (c :: r) _ hs HP6.out HA.out HI3.out).mono ?_;rw [HM.out];rintro e w8 ⟨rfl,q8,v8,ha8,hp8,hc8⟩;have HA8:=Lib.hid ha8;have HP8:=Lib.hid hp8;have HC8:=Lib.hid hc8;clear ha8 hp8 hc8))
            go_meet
            case rel =>
             have hgd : (xs ++ [nod key]).getD xs.length zN = nod key:=by have:=at_mid (xs:=xs) (h:=nod key) (ys:=[]);rw [List.append_nil] at this;exact this.1
             have hst : ∀ h',(xs ++ [nod key]).set xs.length h' = xs ++ [h']:=by intro h';have:=(at_mid (xs:=xs) (h:=nod key) (ys:=[])).2 h';rw [List.append_nil,List.append_nil] at this;exact this
             have hp9:=HP8.out
             simp only [hgd,hst] at hp9
             exact ⟨q8,v8,{ nod key with f0:=4,f4:=str t5 },[],r5,_,Lib.hid ⟨HOO.out,by simp [F.flat,nod]⟩,HA8,Lib.hid (by rw [List.append_nil];exact hp9),Lib.hid (HC6.out.trans HC8.out),Lib.hid (HB6.out.ch HP6.out HC8.out)⟩
  case rest =>
   obtain ⟨q,u,h',ys,r',f,HF,HAq,HPx,HCx,HBx⟩:=hcut
   clear x1 x2 k2
   obtain ⟨x1,x2⟩:=HBx.out.cells
   obtain ⟨k0,k1,k2⟩:=HPx.out.P.cells
   have hi3 : xs.length < ((xs ++ [h']) ++ ys).length:=by simp
   obtain ⟨b,c4,rfl,hc4,hb4,hlt4,hx4,hf4⟩:=HPx.out.R.at_ hi3
   have hi4 : (xs.length : Int) < (((xs ++ [h']) ++ ys).length : Int):=by omega
   have hx1:=hx4.2.1
   rw [at_mid.1] at hx1
   have hf1:=hf4 1
   have HPx2:=HPx
   have hln : ((xs ++ [h']) ++ ys).length = xs.length + f.flat.length:=by rw [HF.out.2];simp
   have hown:=(value_owes d key (c :: r) r' f (HO.out.trans HF.out.1)).2
   have hlen:=HA.out.len
   have hnp:=HN.out
   have hpos : 0 < f.flat.length:=by rw [HF.out.2];simp
   have hx0:=HPx.out.R.ne HPx.out.P (by decide)
   have hbg2 : b ≠ g:=by
    intro e
    exact hx0 (by rw [e];simp [Value.ownBlock])
   generalize hL : ((xs ++ [h']) ++ ys).length = L at hln hi4 k2
   have HL:=Lib.hid hL
   have HLN:=Lib.hid hln
   have hL1 : L < 70000:=by omega
   have hL2 : xs.length ≤ L:=by omega
   have p1 : (0 : Int) ≤ (xs.length : Int):=by omega
   have p2 : (L : Int) < 70000:=by omega
   have p3 : (xs.length : Int) < 70000:=by omega
   have HBG2:=Lib.hid hbg2
   clear hx4 hf4 hi3 hc4 hlt4 hown hlen hnp hpos hln hL hx0 k0 k1 x2 hb4 hbg2
   go_wp2_with fail
   go_region
   go_wp2_with fail
   go_end0
   rw [HO.out,HF.out.1]
   have hi3 : xs.length < ((xs ++ [h']) ++ ys).length:=by simp
   have ps:=HPx2.out.put hi3 1 (by omega) (.int .i64 ((L : Int) - (xs.length : Int))) { h' with f1:=(L : Int) - (xs.length : Int) } (by rw [at_mid.1];rfl)
   rw [at_mid.2] at ps
   have hLL : (L : Int) - (xs.length : Int) = ((ys.length + 1 : Nat) : Int):=by
    have:=HL.out
    simp at this
    omega
   have hfl : (xs ++ [{ h' with f1:=(L : Int) - (xs.length : Int) }]) ++ ys = xs ++ f.flat:=by
    rw [HF.out.2,hLL]
    simp
   rw [hfl] at ps
   have hch:=((HCx.out.setRow (xs.length * 5 + 1) (.int .i64 ((L : Int) - (xs.length : Int)))).trans (Ch.of_drawn (drawn_drew _ _ (Drawn0.refl _)))).len_ (xs ++ f.flat).length
   exact ⟨rfl,q,_,HAq.out,ps.drawn (drawn_drew _ _ (Drawn0.refl _)),hch⟩
end Go.Proofs.YtadfkeipcebmfaaDoor.X
namespace Go.Proofs.YtadfkeipcebmfaaDoor.X
open Go.RowKit Go.Proofs.YtadfkeipcebmfaaDoorW.PrintWords
set_option linter.unusedVariables false
set_option linter.unusedSimpArgs false
theorem value_ok : ∀ (d deep : Nat),deep + d = 32 → ValOk d deep
 | 0,deep,hd => value_step 0 deep hd (fun d' h => by omega)
 | d + 1,deep,hd => value_step (d + 1) deep hd (fun d' h => by
   obtain rfl : d = d':=by omega
   exact value_ok d (deep + 1) (by omega))
structure Res3 (w : World) (B : Nat) (v : Value) (a e : Int) : Prop where
 V : w.heap[B]? = some (.cells #[v] 22 (0,0))
 A : w.heap[B + 1]? = some (.cells #[.int .i64 a] 3 (0,0))
 E : w.heap[B + 2]? = some (.cells #[.int .i64 e] 23 (0,0))
set_option maxHeartbeats 1000000 in
set_option maxRecDepth 100000 in
theorem catch_panicking (B : Nat) (v : Value) (a0 e0 p x : Int) (older : List PanicEntry) (w : World) (h : Res3 w B v a0 e0) :
  CallsD Tryd.prog 31 #[.pointer (some ⟨B,0,none⟩),.pointer (some ⟨B + 1,0,none⟩),.pointer (some ⟨B + 2,0,none⟩)] (.panicking ({ v:=.iface 59 (.agg #[.int .i64 p,.int .i64 x]),recovered:=false } :: older)) w fun e u' w' =>
   e = .returned (.tuple #[]) ∧ u' = .panicking ({ v:=.iface 59 (.agg #[.int .i64 p,.int .i64 x]),recovered:=true } :: older) ∧ Res3 w' B (.slice none 0 0) p x ∧ (∀ k,k < B → w'.heap[k]? = w.heap[k]?) ∧ w.heap.size ≤ w'.heap.size ∧ w'.os = w.os ∧ w'.tape = w.tape ∧ w'.output = w.output:=by
 have c0 : w.cell? ⟨B,0,none⟩ = some v:=(blk_cell h.V 0).trans rfl
 have c1 : w.cell? ⟨B + 1,0,none⟩ = some (.int .i64 a0):=(blk_cell h.A 0).trans rfl
 have c2 : w.cell? ⟨B + 2,0,none⟩ = some (.int .i64 e0):=(blk_cell h.E 0).trans rfl
 have g0:=blk_frozen h.V 0
 have g1:=blk_frozen h.A 0
 have g2:=blk_frozen h.E 0
 have ta : ∀ W,(Instr.typeAssert (.iface 59 (.agg #[.int .i64 p,.int .i64 x])) 20 59 true).run Tryd.prog W = .ok (.tuple #[.agg #[.int .i64 p,.int .i64 x],.bool true]) W:=fun _ => by kernel_rfl
 refine callsD_of_wpS Tryd.func31 rfl fun c₀ cs hu => ?_
 apply wpS_seq
 apply wpS_region
 simp [wpOpsS,go_sem,recoverD,hu,Tryd.ntmps31,Exit.thenS,ta,Array.replicate]
 have cz0 : (w.alloc (.cells #[.int .i64 p,.int .i64 x] 59 (0,0))).cell? ⟨w.heap.size,0,none⟩ = some (.int .i64 p):=by simp [World.cell?_alloc_new]
 have hb0 : B < w.heap.size:=blk_lt h.V
 have hb1 : B + 1 < w.heap.size:=blk_lt h.A
 have hb2 : B + 2 < w.heap.size:=blk_lt h.E
 clear ta
 apply wpS_seq
 apply wpS_region
 simp [wpOpsS,go_sem,Exit.thenS]
 refine wpS_cond (t:=true) (by simp [Act.eval]) ?_
 simp only [if_true]
 refine wpS_of_wp ?_
 go_region
 have hres : Res3 ((((w.setCell ⟨B,0,none⟩ (.slice none 0 0)).setCell ⟨B + 1,0,none⟩ (.int .i64 p)).setCell ⟨B + 2,0,none⟩ (.int .i64 x)).alloc (.cells #[.int .i64 p,.int .i64 x] 59 (0,0))).drew B (.slice none 0 0) p x:=by
  have a1 : (w.setCell ⟨B,0,none⟩ (.slice none 0 0)).heap[B]? = some (.cells #[.slice none 0 0] 22 (0,0)):=by simpa using blk_set h.V 0 (.slice none 0 0)
  have a2 : (w.setCell ⟨B,0,none⟩ (.slice none 0 0)).heap[B + 1]? = some (.cells #[.int .i64 a0] 3 (0,0)):=blk_far h.A (by simp) _
  have a3 : (w.setCell ⟨B,0,none⟩ (.slice none 0 0)).heap[B + 2]? = some (.cells #[.int .i64 e0] 23 (0,0)):=blk_far h.E (by simp) _
  have b1:=blk_far a1 (p:=⟨B + 1,0,none⟩) (by simp) (.int .i64 p)
  have b2 : ((w.setCell ⟨B,0,none⟩ (.slice none 0 0)).setCell ⟨B + 1,0,none⟩ (.int .i64 p)).heap[B + 1]? = some (.cells #[.int .i64 p] 3 (0,0)):=by simpa using blk_set a2 0 (.int .i64 p)
  have b3:=blk_far a3 (p:=⟨B + 1,0,none⟩) (by simp) (.int .i64 p)
  have d1:=blk_far b1 (p:=⟨B + 2,0,none⟩) (by simp) (.int .i64 x)
  have d2:=blk_far b2 (p:=⟨B + 2,0,none⟩) (by simp) (.int .i64 x)
  have d3 : (((w.setCell ⟨B,0,none⟩ (.slice none 0 0)).setCell ⟨B + 1,0,none⟩ (.int .i64 p)).setCell ⟨B + 2,0,none⟩ (.int .i64 x)).heap[B + 2]? = some (.cells #[.int .i64 x] 23 (0,0)):=by simpa using blk_set b3 0 (.int .i64 x)
  exact ⟨(Lib.alloc_old _ _ _ (blk_lt d1)).trans d1,(Lib.alloc_old _ _ _ (blk_lt d2)).trans d2,(Lib.alloc_old _ _ _ (blk_lt d3)).trans d3⟩
 have hold : ∀ k,k < B → ((((w.setCell ⟨B,0,none⟩ (.slice none 0 0)).setCell ⟨B + 1,0,none⟩ (.int .i64 p)).setCell ⟨B + 2,0,none⟩ (.int .i64 x)).alloc (.cells #[.int .i64 p,.int .i64 x] 59 (0,0))).drew.heap[k]? = w.heap[k]?:=by
  intro k hk
  have e1:=Below.heap_setCell w ⟨B,0,none⟩ (.slice none 0 0) k (by simp only;omega)
  have e2:=Below.heap_setCell (w.setCell ⟨B,0,none⟩ (.slice none 0 0)) ⟨B + 1,0,none⟩ (.int .i64 p) k (by simp only;omega)
  have e3:=Below.heap_setCell ((w.setCell ⟨B,0,none⟩ (.slice none 0 0)).setCell ⟨B + 1,0,none⟩ (.int .i64 p)) ⟨B + 2,0,none⟩ (.int .i64 x) k (by simp only;omega)
  exact (Lib.alloc_old _ _ _ (by simp [World.setCell];omega)).trans (e3.trans (e2.trans e1))
 have hsz : w.heap.size ≤ ((((w.setCell ⟨B,0,none⟩ (.slice none 0 0)).setCell ⟨B + 1,0,none⟩ (.int .i64 p)).setCell ⟨B + 2,0,none⟩ (.int .i64 x)).alloc (.cells #[.int .i64 p,.int .i64 x] 59 (0,0))).drew.heap.size:=by
  show w.heap.size ≤ (World.alloc _ _).heap.size
  rw [World.size_alloc]
  simp [World.setCell]
 have hot : (((((w.setCell ⟨B,0,none⟩ (.slice none 0 0)).setCell ⟨B + 1,0,none⟩ (.int .i64 p)).setCell ⟨B + 2,0,none⟩ (.int .i64 x)).alloc (.cells #[.int .i64 p,.int .i64 x] 59 (0,0))).drew).os = w.os ∧ (((((w.setCell ⟨B,0,none⟩ (.slice none 0 0)).setCell ⟨B + 1,0,none⟩ (.int .i64 p)).setCell ⟨B + 2,0,none⟩ (.int .i64 x)).alloc (.cells #[.int .i64 p,.int .i64 x] 59 (0,0))).drew).tape = w.tape ∧ (((((w.setCell ⟨B,0,none⟩ (.slice none 0 0)).setCell ⟨B + 1,0,none⟩ (.int .i64 p)).setCell ⟨B + 2,0,none⟩ (.int .i64 x)).alloc (.cells #[.int .i64 p,.int .i64 x] 59 (0,0))).drew).output = w.output:=⟨rfl,rfl,rfl⟩
 clear g0 g1 g2 c0 c1 c2 cz0
 generalize ((((w.setCell ⟨B,0,none⟩ (.slice none 0 0)).setCell ⟨B + 1,0,none⟩ (.int .i64 p)).setCell ⟨B + 2,0,none⟩ (.int .i64 x)).alloc (.cells #[.int .i64 p,.int .i64 x] 59 (0,0))).drew = W at hres hold hsz hot
 have hp : ∀ (e : Ending) (u' : FrameMode),(e = .returned (.tuple #[]) ∧ u' = .panicking ({ v:=.iface 59 (.agg #[.int .i64 p,.int .i64 x]),recovered:=true } :: older)) → (e = .returned (.tuple #[]) ∧ u' = .panicking ({ v:=.iface 59 (.agg #[.int .i64 p,.int .i64 x]),recovered:=true } :: older) ∧ Res3 W B (.slice none 0 0) p x ∧ (∀ k,k < B → W.heap[k]? = w.heap[k]?) ∧ w.heap.size ≤ W.heap.size ∧ W.os = w.os ∧ W.tape = w.tape ∧ W.output = w.output) :=
  fun e u' h => ⟨h.1,h.2,hres,hold,hsz,hot⟩
 clear hres hold hsz hot hb0 hb1 hb2 h
 exact ⟨rfl,_,rfl,.tuple #[],results_none rfl _ _ _,hp _ _ ⟨rfl,rfl⟩⟩
set_option maxHeartbeats 1000000 in
set_option maxRecDepth 100000 in
theorem catch_idle (B : Nat) (v : Value) (a0 e0 : Int) (w : World) (h : Res3 w B v a0 e0) :
  CallsD Tryd.prog 31 #[.pointer (some ⟨B,0,none⟩),.pointer (some ⟨B + 1,0,none⟩),.pointer (some ⟨B + 2,0,none⟩)] .returning w fun e u' w' => e = .returned (.tuple #[]) ∧ u' = .returning ∧ Below w.heap.size w w':=by
 have ta : ∀ W,(Instr.typeAssert .nilIface 20 59 true).run Tryd.prog W = .ok (.tuple #[.agg #[.int .i64 0,.int .i64 0],.bool false]) W:=fun _ => by kernel_rfl
 refine callsD_of_wpS Tryd.func31 rfl fun c₀ cs hu => ?_
 apply wpS_seq
 apply wpS_region
 simp [wpOpsS,go_sem,recoverD,hu,Tryd.ntmps31,Exit.thenS,ta,Array.replicate]
 clear ta
 apply wpS_seq
 apply wpS_region
 simp [wpOpsS,go_sem,Exit.thenS]
 refine wpS_cond (t:=false) (by simp [Act.eval]) ?_
 simp only [Bool.false_eq_true,if_false]
 refine wpS_of_wp (wp_skip ?_)
 have hb : Below w.heap.size w (w.alloc (.cells #[.int .i64 0,.int .i64 0] 59 (0,0))):=(Below.refl _ _).alloc (Nat.le_refl _) _
 exact ⟨rfl,.returning,by cases c₀;simp_all,.tuple #[],results_none rfl _ _ _,rfl,rfl,hb⟩
end Go.Proofs.YtadfkeipcebmfaaDoor.X
namespace Go.Proofs.YtadfkeipcebmfaaDoor.X
open Go.RowKit Go.Proofs.YtadfkeipcebmfaaDoorW.PrintWords
set_option linter.unusedVariables false
set_option linter.unusedSimpArgs false
def jsontext_Parse.f (s : ByteArray) : Option (List (S46) × Int × Int):=some ((parse s.data.toList).1.flat,(parse s.data.toList).2.1,(parse s.data.toList).2.2)
def PostP (w : World) (x : F × Int × Int) (e : Ending) (w' : World) : Prop :=
 ∃ v0 : Value,e = .returned (.tuple #[v0,.int .i64 x.2.1,.int .i64 x.2.2]) ∧ Kd.R kN 46 w' w.heap.size (fun _ => True) v0 x.1.flat ∧ Below w.heap.size w w'
theorem Res3.ch {w w' : World} {B g base p : Nat} {s : ByteArray} {v u u' : Value} {a e : Int} {xs : List Nd} (h : Res3 w B v a e) (hP : PS w g base s p u xs) (hc : Ch g u u' w w') : Res3 w' B v a e :=
 ⟨hc.keep hP.R h.V (by decide) (ne_par hP.P h.V (by decide)),hc.keep hP.R h.A (by decide) (ne_par hP.P h.A (by decide)),hc.keep hP.R h.E (by decide) (ne_par hP.P h.E (by decide))⟩
theorem Res3.cells {w : World} {B : Nat} {v : Value} {a e : Int} (h : Res3 w B v a e) : w.cell? ⟨B,0,none⟩ = some v ∧ w.cell? ⟨B + 1,0,none⟩ = some (.int .i64 a) ∧ w.cell? ⟨B + 1 + 1,0,none⟩ = some (.int .i64 e) :=
 ⟨(blk_cell h.V 0).trans rfl,(blk_cell h.A 0).trans rfl,(blk_cell h.E 0).trans rfl⟩
set_option maxHeartbeats 4000000 in
set_option maxRecDepth 100000 in
theorem parse_calls (s : ByteArray) (w : World) (hGU8 : GlobU8 w) : Calls Tryd.prog 10 #[.string s] w (PostP w (parse s.data.toList)):=by
 have hmf : ∀ (fn : Fn) (first cap : Array Value) (w : World),(Instr.makeFunc fn first cap).run Tryd.prog w = .ok (.func fn first cap) w:=fun _ _ _ _ => rfl
 have HG:=Lib.hid hGU8
 clear hGU8
 have hsl : s.data.toList.length = s.size:=by simp
 by_cases hl : 65536 < s.size
 ·have hp : parse s.data.toList = (.nil,0,3):=by
   unfold parse
   rw [if_pos (by omega)]
  have HPP:=Lib.hid hp
  have d1 : decide (65536 < (s.size : Int)) = true:=decide_eq_true (by omega)
  clear hp hsl
  go_enter_defers Tryd.func10,Tryd.ntmps10
  go_wp2_with fail
  have z2 : (((w.alloc (.cells #[.slice none 0 0] 22 (0,0))).alloc (.cells #[.int .i64 0] 3 (0,0))).alloc (.cells #[.int .i64 3] 23 (0,0))).cell? ⟨w.heap.size + 1 + 1,0,none⟩ = some (.int .i64 3):=by
   have:=World.cell?_alloc_new ((w.alloc (.cells #[.slice none 0 0] 22 (0,0))).alloc (.cells #[.int .i64 0] 3 (0,0))) #[.int .i64 3] 23 0
   simpa using this
  have hpost : PostP w (parse s.data.toList) (.returned (.tuple #[.slice none 0 0,.int .i64 0,.int .i64 3])) (((w.alloc (.cells #[.slice none 0 0] 22 (0,0))).alloc (.cells #[.int .i64 0] 3 (0,0))).alloc (.cells #[.int .i64 3] 23 (0,0))):=by
   rw [HPP.out]
   refine ⟨_,rfl,Kd.R_nil _ _ _ _ _,?_⟩
   exact (((Below.refl _ _).alloc (Nat.le_refl _) _).alloc (by rw [World.size_alloc];omega) _).alloc (by rw [World.size_alloc,World.size_alloc];omega) _
  simp [bodyPostD,Leaves,settle,results,Tryd.results10,go_sem]
  exact hpost
 ·have hs : s.size ≤ 65536:=by omega
  have d1 : decide (65536 < (s.size : Int)) = false:=decide_eq_false (by omega)
  generalize hO : value 32 [] (blanks s.data.toList) = O
  have HO:=Lib.hid hO
  clear hO hsl
  go_enter_defers Tryd.func10,Tryd.ntmps10
  go_upto_region 5 with (fail)
  have hbel : Below w.heap.size w ((((w.alloc (.cells #[.slice none 0 0] 22 (0,0))).alloc (.cells #[.int .i64 0] 3 (0,0))).alloc (.cells #[.int .i64 0] 23 (0,0))).alloc (.cells #[.string s,.int .i64 0,.slice none 0 0] 63 (0,0))) :=
   ((((Below.refl _ _).alloc (Nat.le_refl _) _).alloc (by rw [World.size_alloc];omega) _).alloc (by rw [World.size_alloc,World.size_alloc];omega) _).alloc (by rw [World.size_alloc,World.size_alloc,World.size_alloc];omega) _
  have hr3 : Res3 ((((w.alloc (.cells #[.slice none 0 0] 22 (0,0))).alloc (.cells #[.int .i64 0] 3 (0,0))).alloc (.cells #[.int .i64 0] 23 (0,0))).alloc (.cells #[.string s,.int .i64 0,.slice none 0 0] 63 (0,0))) w.heap.size (.slice none 0 0) 0 0:=by
   refine ⟨?_,?_,?_⟩
   ·rw [Lib.alloc_old _ _ _ (by simp only [World.size_alloc];omega),Lib.alloc_old _ _ _ (by simp only [World.size_alloc];omega),Lib.alloc_old _ _ _ (by simp only [World.size_alloc];omega)]
    exact heap_alloc_new w _
   ·rw [Lib.alloc_old _ _ _ (by simp only [World.size_alloc];omega),Lib.alloc_old _ _ _ (by simp only [World.size_alloc];omega)]
    have:=heap_alloc_new (w.alloc (.cells #[.slice none 0 0] 22 (0,0))) (.cells #[.int .i64 0] 3 (0,0))
    rw [World.size_alloc] at this
    exact this
   ·rw [Lib.alloc_old _ _ _ (by simp only [World.size_alloc];omega)]
    have:=heap_alloc_new ((w.alloc (.cells #[.slice none 0 0] 22 (0,0))).alloc (.cells #[.int .i64 0] 3 (0,0))) (.cells #[.int .i64 0] 23 (0,0))
    rw [World.size_alloc,World.size_alloc] at this
    exact this
  have hpb : PB ((((w.alloc (.cells #[.slice none 0 0] 22 (0,0))).alloc (.cells #[.int .i64 0] 3 (0,0))).alloc (.cells #[.int .i64 0] 23 (0,0))).alloc (.cells #[.string s,.int .i64 0,.slice none 0 0] 63 (0,0))) (w.heap.size + 1 + 1 + 1) s 0 (.slice none 0 0):=by
   have:=heap_alloc_new (((w.alloc (.cells #[.slice none 0 0] 22 (0,0))).alloc (.cells #[.int .i64 0] 3 (0,0))).alloc (.cells #[.int .i64 0] 23 (0,0))) (.cells #[.string s,.int .i64 0,.slice none 0 0] 63 (0,0))
   rw [World.size_alloc,World.size_alloc,World.size_alloc] at this
   exact this
  generalize hw4 : ((((w.alloc (.cells #[.slice none 0 0] 22 (0,0))).alloc (.cells #[.int .i64 0] 3 (0,0))).alloc (.cells #[.int .i64 0] 23 (0,0))).alloc (.cells #[.string s,.int .i64 0,.slice none 0 0] 63 (0,0))) = w4 at hbel hr3 hpb
  have HW4:=Lib.hid hw4
  have HBEL:=Lib.hid hbel
  have HR3:=Lib.hid hr3
  have HP4 : Hid (PS w4 (w.heap.size + 1 + 1 + 1) w.heap.size s 0 (.slice none 0 0) []):=Lib.hid ⟨hpb,Row.mk_ (Kd.R_nil _ _ _ _ (fun _ => True))⟩
  have HG4 : Hid (GlobU8 w4):=Lib.hid (HG.out.below hbel)
  have hB : 2 ≤ w.heap.size:=HG.out.L
  have HB:=Lib.hid hB
  have hg2 : 1 < w.heap.size + 1 + 1 + 1:=by omega
  have hbg : w.heap.size ≤ w.heap.size + 1 + 1 + 1:=by omega
  have HG2:=Lib.hid hg2
  have HBG:=Lib.hid hbg
  clear hw4 hbel hr3 hpb hB hg2 hbg
  go_upto_region 6 with (go_at_call 32;refine (blanks_calls (w.heap.size + 1 + 1 + 1) s 0 (.slice none 0 0) s.data.toList _ hs HP4.out.P (At.start s)).mono ?_;rintro e w5 ⟨rfl,⟨q5,ha5,hp5⟩,hu5⟩;have HA5:=Lib.hid ha5;have HPB5:=Lib.hid hp5;have HU5:=Lib.hid hu5;clear ha5 hp5 hu5)
  have HP5 : Hid (PS w5 (w.heap.size + 1 + 1 + 1) w.heap.size s q5 (.slice none 0 0) []):=Lib.hid (HP4.out.upd HPB5.out HU5.out)
  have HG5 : Hid (GlobU8 w5):=Lib.hid (HG4.out.upd HG2.out HU5.out)
  have HC5 : Hid (Ch (w.heap.size + 1 + 1 + 1) (.slice none 0 0) (.slice none 0 0) w4 w5):=Lib.hid (Ch.of_upd HU5.out)
  cases O with
  | bad r x =>
   have HPP : Hid (parse s.data.toList = (.nil,((s.size - r.length : Nat) : Int),x)):=Lib.hid (by unfold parse;rw [if_neg (by simp;omega),HO.out];simp)
   go_wp2_with (go_at_call 33;refine (value_ok 32 0 rfl (w.heap.size + 1 + 1 + 1) w.heap.size s q5 _ [] [] (blanks s.data.toList) _ hs HG5.out HG2.out HB.out HBG.out HP5.out HA5.out (Nat.zero_le _)).mono ?_;rw [HO.out];rintro e w6 ⟨hst,v6,hc6⟩;have HST:=Lib.hid hst;have HC6:=Lib.hid hc6;clear hc6;unfold Stops at hst;subst hst)
   have hr6 : Res3 w6 w.heap.size (.slice none 0 0) 0 0:=(HR3.out.ch HP4.out HC5.out).ch HP5.out HC6.out
   have hbl : Below w.heap.size w w6:=HBEL.out.trans ((HC5.out.trans HC6.out).base_ HP4.out HBG.out)
   refine leaves_cons (f:=31) (args:=#[.pointer (some ⟨w.heap.size,0,none⟩),.pointer (some ⟨w.heap.size + 1,0,none⟩),.pointer (some ⟨w.heap.size + 1 + 1,0,none⟩)]) (by simp) (by simp [go_sem]) ?_
   refine (catch_panicking w.heap.size _ 0 0 _ x [] w6 hr6).mono ?_
   rintro e u' w'' ⟨rfl,rfl,hres,hold,hsz,hos,htp,hout⟩
   obtain ⟨z0,z1,z2⟩:=hres.cells
   have hfin : Below w.heap.size w w'':=⟨hos.trans hbl.os,htp.trans hbl.tape,hout.trans hbl.output,Nat.le_trans hbl.size hsz,fun k hk => (hold k hk).trans (hbl.block k hk)⟩
   have hpost : PostP w (parse s.data.toList) (.returned (.tuple #[.slice none 0 0,.int .i64 ((s.size - r.length : Nat) : Int),.int .i64 x])) w'':=by
    rw [HPP.out]
    exact ⟨_,rfl,Kd.R_nil _ _ _ _ _,hfin⟩
   simp [Leaves,settle,results,Tryd.results10,go_sem,z0,z1,z2]
   exact hpost
  | ok r f =>
   go_upto_region 8 with (first
    | (go_at_call 33;refine (value_ok 32 0 rfl (w.heap.size + 1 + 1 + 1) w.heap.size s q5 _ [] [] (blanks s.data.toList) _ hs HG5.out HG2.out HB.out HBG.out HP5.out HA5.out (Nat.zero_le _)).mono ?_;rw [HO.out];rintro e w6 ⟨rfl,q6,v6,ha6,hp6,hc6⟩;have HA6:=Lib.hid ha6;have HP6:=Lib.hid hp6;have HC6:=Lib.hid hc6;clear ha6 hp6 hc6)
    | (go_at_call 32;refine (blanks_calls (w.heap.size + 1 + 1 + 1) s q6 v6 r _ hs HP6.out.P HA6.out).mono ?_;rintro e w7 ⟨rfl,⟨q7,ha7,hp7⟩,hu7⟩;have HA7:=Lib.hid ha7;have HPB7:=Lib.hid hp7;have HU7:=Lib.hid hu7;clear ha7 hp7 hu7))
   have HP7 : Hid (PS w7 (w.heap.size + 1 + 1 + 1) w.heap.size s q7 v6 f.flat):=Lib.hid (HP6.out.upd HPB7.out HU7.out)
   have HC7 : Hid (Ch (w.heap.size + 1 + 1 + 1) (.slice none 0 0) v6 w4 w7):=Lib.hid ((HC5.out.trans HC6.out).trans (Ch.of_upd HU7.out))
   have hr7 : Res3 w7 w.heap.size (.slice none 0 0) 0 0:=HR3.out.ch HP4.out HC7.out
   have hbl : Below w.heap.size w w7:=HBEL.out.trans (HC7.out.base_ HP4.out HBG.out)
   obtain ⟨x0,x1,x2⟩:=HPB7.out.cells
   have HR7:=Lib.hid hr7
   have HBL:=Lib.hid hbl
   clear x0 hr7 hbl
   cases hm : blanks r with
   | nil =>
    have HPP : Hid (parse s.data.toList = (f,0,0)):=Lib.hid (by unfold parse;rw [if_neg (by simp;omega),HO.out];simp [hm])
    have HA8 : Hid (At s q7 []):=Lib.hid (hm ▸ HA7.out)
    obtain ⟨e1,e2⟩:=at_ge HA8.out
    clear hm
    obtain ⟨A6,k6,rfl⟩:=Kd.R_slice HP7.out.R.all
    obtain ⟨c0,c1,c2⟩:=HR7.out.cells
    have g0:=blk_frozen HR7.out.V 0
    have g1:=blk_frozen HR7.out.A 0
    have g2 : w7.frozen? ⟨w.heap.size + 1 + 1,0,none⟩ = false:=blk_frozen HR7.out.E 0
    go_wp2_with fail
    clear g0 g1 g2 c0 c1 c2 x1 x2
    have t0 : ((((w7.setCell ⟨w.heap.size,0,none⟩ (.slice A6 f.flat.length k6)).setCell ⟨w.heap.size + 1,0,none⟩ (.int .i64 0)).setCell ⟨w.heap.size + 1 + 1,0,none⟩ (.int .i64 0))).heap[w.heap.size]? = some (.cells #[.slice A6 f.flat.length k6] 22 (0,0)) :=
     blk_far (blk_far (by simpa using blk_set HR7.out.V 0 (.slice A6 f.flat.length k6)) (by simp) _) (by simp;omega) _
    have t1 : ((((w7.setCell ⟨w.heap.size,0,none⟩ (.slice A6 f.flat.length k6)).setCell ⟨w.heap.size + 1,0,none⟩ (.int .i64 0)).setCell ⟨w.heap.size + 1 + 1,0,none⟩ (.int .i64 0))).heap[w.heap.size + 1]? = some (.cells #[.int .i64 0] 3 (0,0)) :=
     blk_far (by simpa using blk_set (blk_far HR7.out.A (by simp) _) 0 (.int .i64 0)) (by simp) _
    have t2 : ((((w7.setCell ⟨w.heap.size,0,none⟩ (.slice A6 f.flat.length k6)).setCell ⟨w.heap.size + 1,0,none⟩ (.int .i64 0)).setCell ⟨w.heap.size + 1 + 1,0,none⟩ (.int .i64 0))).heap[w.heap.size + 2]? = some (.cells #[.int .i64 0] 23 (0,0)) :=
     by simpa using blk_set (blk_far (blk_far HR7.out.E (by simp) _) (by simp) _) 0 (.int .i64 0)
    have hb8 : Below w.heap.size w (((w7.setCell ⟨w.heap.size,0,none⟩ (.slice A6 f.flat.length k6)).setCell ⟨w.heap.size + 1,0,none⟩ (.int .i64 0)).setCell ⟨w.heap.size + 1 + 1,0,none⟩ (.int .i64 0)) :=
     ((HBL.out.setCell (Nat.le_refl _) (p:=⟨w.heap.size,0,none⟩) _).setCell (p:=⟨w.heap.size + 1,0,none⟩) (by simp only;omega) _).setCell (p:=⟨w.heap.size + 1 + 1,0,none⟩) (by simp only;omega) _
    have hrow : Kd.R kN 46 (((w7.setCell ⟨w.heap.size,0,none⟩ (.slice A6 f.flat.length k6)).setCell ⟨w.heap.size + 1,0,none⟩ (.int .i64 0)).setCell ⟨w.heap.size + 1 + 1,0,none⟩ (.int .i64 0)) w.heap.size (fun _ => True) (.slice A6 f.flat.length k6) f.flat:=by
     refine Row.all (HP7.out.R.move (fun k hk => ?_))
     have n0:=HP7.out.R.ne HR7.out.V (by decide)
     have n1:=HP7.out.R.ne HR7.out.A (by decide)
     have n2:=HP7.out.R.ne HR7.out.E (by decide)
     rw [hk] at n0 n1 n2
     have e1:=Below.heap_setCell w7 ⟨w.heap.size,0,none⟩ (.slice A6 f.flat.length k6) k (fun e => n0 (by rw [e]))
     have e2:=Below.heap_setCell (w7.setCell ⟨w.heap.size,0,none⟩ (.slice A6 f.flat.length k6)) ⟨w.heap.size + 1,0,none⟩ (.int .i64 0) k (fun e => n1 (by rw [e]))
     have e3:=Below.heap_setCell ((w7.setCell ⟨w.heap.size,0,none⟩ (.slice A6 f.flat.length k6)).setCell ⟨w.heap.size + 1,0,none⟩ (.int .i64 0)) ⟨w.heap.size + 1 + 1,0,none⟩ (.int .i64 0) k (fun e => n2 (by rw [e]))
     exact e3.trans (e2.trans e1)
    generalize ((w7.setCell ⟨w.heap.size,0,none⟩ (.slice A6 f.flat.length k6)).setCell ⟨w.heap.size + 1,0,none⟩ (.int .i64 0)).setCell ⟨w.heap.size + 1 + 1,0,none⟩ (.int .i64 0) = w8 at t0 t1 t2 hb8 hrow
    refine leaves_cons (f:=31) (args:=#[.pointer (some ⟨w.heap.size,0,none⟩),.pointer (some ⟨w.heap.size + 1,0,none⟩),.pointer (some ⟨w.heap.size + 1 + 1,0,none⟩)]) (by simp) (by simp [go_sem]) ?_
    refine (catch_idle w.heap.size _ 0 0 w8 ⟨t0,t1,t2⟩).mono ?_
    rintro e u' w'' ⟨rfl,rfl,hb9⟩
    have z0 : w''.cell? ⟨w.heap.size,0,none⟩ = some (.slice A6 f.flat.length k6):=(cell_same (hb9.block _ (blk_lt t0))).trans ((blk_cell t0 0).trans rfl)
    have z1 : w''.cell? ⟨w.heap.size + 1,0,none⟩ = some (.int .i64 0):=(cell_same (hb9.block _ (blk_lt t1))).trans ((blk_cell t1 0).trans rfl)
    have z2 : w''.cell? ⟨w.heap.size + 1 + 1,0,none⟩ = some (.int .i64 0):=(cell_same (hb9.block _ (blk_lt t2))).trans ((blk_cell t2 0).trans rfl)
    have hpost : PostP w (parse s.data.toList) (.returned (.tuple #[.slice A6 f.flat.length k6,.int .i64 0,.int .i64 0])) w'':=by
     rw [HPP.out]
     exact ⟨_,rfl,Kd.R_below hrow hb9,hb8.trans (hb9.mono hb8.size)⟩
    simp [Leaves,settle,results,Tryd.results10,go_sem,z0,z1,z2]
    exact hpost
   | cons c r2 =>
    have HPP : Hid (parse s.data.toList = (.nil,((s.size - (c :: r2).length : Nat) : Int),5)):=Lib.hid (by unfold parse;rw [if_neg (by simp;omega),HO.out];simp [hm])
    have HA8 : Hid (At s q7 (c :: r2)):=Lib.hid (hm ▸ HA7.out)
    obtain ⟨e1,e2⟩:=at_lt HA8.out
    have hst:=HA8.out.stops 5
    unfold Stops at hst
    have hq : (q7 : Int) = ((s.size - (c :: r2).length : Nat) : Int):=by have:=HA8.out.pos;omega
    have HQ:=Lib.hid hq
    clear hm hst hq
    go_wp2_with (go_at_call 34;refine (fail_calls _ _ _).mono ?_;rintro e w8 ⟨rfl,rfl⟩)
    refine leaves_cons (f:=31) (args:=#[.pointer (some ⟨w.heap.size,0,none⟩),.pointer (some ⟨w.heap.size + 1,0,none⟩),.pointer (some ⟨w.heap.size + 1 + 1,0,none⟩)]) (by simp) (by simp [go_sem]) ?_
    refine (catch_panicking w.heap.size _ 0 0 _ 5 [] _ HR7.out).mono ?_
    rintro e u' w'' ⟨rfl,rfl,hres,hold,hsz,hos,htp,hout⟩
    obtain ⟨z0,z1,z2⟩:=hres.cells
    have hbl:=HBL.out
    have hfin : Below w.heap.size w w'':=⟨hos.trans hbl.os,htp.trans hbl.tape,hout.trans hbl.output,Nat.le_trans hbl.size hsz,fun k hk => (hold k hk).trans (hbl.block k hk)⟩
    have hpost : PostP w (parse s.data.toList) (.returned (.tuple #[.slice none 0 0,.int .i64 (q7 : Int),.int .i64 5])) w'':=by
     rw [HPP.out,HQ.out]
     exact ⟨_,rfl,Kd.R_nil _ _ _ _ _,hfin⟩
    simp [Leaves,settle,results,Tryd.results10,go_sem,z0,z1,z2]
    exact hpost
theorem jsontext_Parse.calls (a0 : ByteArray) (r1 : List (S46)) (r2 r3 : Int) (w : World) (hGU8 : GlobU8 w) (h : jsontext_Parse.f a0 = some (r1,r2,r3)) :
  Calls Tryd.prog 10 #[.string a0] w fun e w' => ∃ v0,e = .returned (.tuple #[v0,.int .i64 r2,.int .i64 r3]) ∧ Kd.R k46 46 w' w.heap.size (fun _ => True) v0 r1 ∧ Below w.heap.size w w':=by
 unfold jsontext_Parse.f at h
 injection h with h
 injection h with h1 h2
 injection h2 with h2 h3
 subst h1 h2 h3
 exact parse_calls a0 w hGU8
end Go.Proofs.YtadfkeipcebmfaaDoor.X
namespace Go.Proofs.YtadfkeipcebmfaaDoor.X
set_option linter.unusedVariables false
def mark (c : UInt8) : Option UInt8 :=
 if c = 34 then some 34 else if c = 92 then some 92 else if c = 8 then some 98 else if c = 12 then some 102
 else if c = 10 then some 110 else if c = 13 then some 114 else if c = 9 then some 116 else none
def hexd (n : Nat) : UInt8:=[48,49,50,51,52,53,54,55,56,57,97,98,99,100,101,102].getD n 0
def esc1 (c : UInt8) : Bs:=match mark c with
 | some m => [92,m]
 | none => if c.toNat < 32 then [92,117,48,48,hexd (c.toNat / 16),hexd (c.toNat % 16)] else [c]
def quote (l : Bs) : Bs:=34 :: (l.flatMap esc1 ++ [34])
def ltx (kind : Int) (t : Bs) : Bs :=
 if kind = 1 then [110,117,108,108] else if kind = 2 then [116,114,117,101] else if kind = 3 then [102,97,108,115,101]
 else if kind = 4 then t else quote t
def F.out : F → Bool → Bool → Bs
 | .nil,_,_ => []
 | .leaf k d t r,ob,first => (if first then [] else [44]) ++ (if ob then quote k ++ [58] else []) ++ ltx d t ++ r.out ob false
 | .node k d ks r,ob,first => (if first then [] else [44]) ++ (if ob then quote k ++ [58] else []) ++ (if d = 7 then 123 :: (ks.out true true ++ [125]) else 91 :: (ks.out false true ++ [93])) ++ r.out ob false
def F.txt (f : F) : Bs:=f.out false true
end Go.Proofs.YtadfkeipcebmfaaDoor.X
namespace Go.Proofs.YtadfkeipcebmfaaDoor.X
open Go.RowKit Go.Proofs.YtadfkeipcebmfaaDoorW.PrintWords
set_option linter.unusedVariables false
set_option linter.unusedSimpArgs false
def escB : ByteArray:=⟨#[34,92,98,102,110,114,116]⟩
theorem idx_esc (c : UInt8) : match mark c with
  | some m => ∃ j : Nat,Lib.indexByte [34,92,8,12,10,13,9] c = (j : Int) ∧ j < 7 ∧ (∀ h : j < escB.size,escB[j]'h = m) ∧ (Utf8.encode (m.toNat : Int)).data.toList = [m]
  | none => Lib.indexByte [34,92,8,12,10,13,9] c = -1:=by
 have:=all_bytes (p:=fun c => match mark c with
  | some m => decide (0 ≤ Lib.indexByte [34,92,8,12,10,13,9] c) && decide ((Lib.indexByte [34,92,8,12,10,13,9] c).toNat < 7) && decide (escB.data.toList.getD (Lib.indexByte [34,92,8,12,10,13,9] c).toNat 0 = m) && decide ((Utf8.encode (m.toNat : Int)).data.toList = [m])
  | none => decide (Lib.indexByte [34,92,8,12,10,13,9] c = -1)) (by decide +kernel) c
 revert this
 cases mark c with
 | none => simp
 | some m =>
  simp only [Bool.and_eq_true,decide_eq_true_eq]
  rintro ⟨⟨⟨h0,h1⟩,h2⟩,h3⟩
  refine ⟨(Lib.indexByte [34,92,8,12,10,13,9] c).toNat,by omega,h1,fun h => ?_,h3⟩
  rw [← h2,List.getD_eq_getElem?_getD,List.getElem?_eq_getElem (by simpa using h)]
  rfl
theorem esc_len (c : UInt8) : (esc1 c).length ≤ 6:=by
 unfold esc1
 split
 ·simp
 ·split <;> simp
theorem idx_ofC (s : ByteArray) (c : UInt8) (C : Int) (hC : C = (c.toNat : Int)) (r : Int) (w : World) (h : Lib.indexByte s.data.toList c = r) :
  Calls Tryd.prog 45 #[.string s,.int .u8 C] w fun e w' => e = .returned (.int .i64 r) ∧ w' = w:=by
 subst hC
 exact idx_of s c r w h
theorem and15 (c : UInt8) : bits .and .u8 (c.toNat : Int) 15 = ((c.toNat % 16 : Nat) : Int):=by
 have:=all_bytes (p:=fun c => decide (bits .and .u8 (c.toNat : Int) 15 = ((c.toNat % 16 : Nat) : Int))) (by decide +kernel) c
 simpa using this
theorem hexd_enc (n : Nat) (h : n < 16) : ∃ M : Int,M = ((hexd n).toNat : Int) ∧ (Utf8.encode M).data.toList = [hexd n]:=by
 refine ⟨_,rfl,?_⟩
 have : ∀ n,n < 16 → (Utf8.encode ((hexd n).toNat : Int)).data.toList = [hexd n]:=by decide +kernel
 exact this n h
theorem hex_two (n : Nat) (h : n < 2) (h' : n < ByteArray.size ⟨#[48,49]⟩) : (((⟨#[48,49]⟩ : ByteArray)[n]'h').toNat : Int) = ((hexd n).toNat : Int):=by
 match n,h with
 | 0,_ => rfl
 | 1,_ => rfl
theorem hex_all (n : Nat) (h : n < 16) (h' : n < ByteArray.size ⟨#[48,49,50,51,52,53,54,55,56,57,97,98,99,100,101,102]⟩) : (((⟨#[48,49,50,51,52,53,54,55,56,57,97,98,99,100,101,102]⟩ : ByteArray)[n]'h').toNat : Int) = ((hexd n).toNat : Int):=by
 have : ∀ n : Fin 16,((((⟨#[48,49,50,51,52,53,54,55,56,57,97,98,99,100,101,102]⟩ : ByteArray)[n.val]'n.isLt).toNat : Int) = ((hexd n.val).toNat : Int)):=by decide +kernel
 exact this ⟨n,h⟩
set_option maxHeartbeats 4000000 in
set_option maxRecDepth 100000 in
theorem quote_calls (B b : Nat) (s : ByteArray) (acc : Bs) (w : World) (hlen : acc.length + 6 * s.size + 2 ≤ 140737488355328) (hb : Bld B b acc w) :
  Calls Tryd.prog 61 #[.pointer (some ⟨b,0,none⟩),.string s] w fun e w' => e = .returned (.tuple #[]) ∧ Bld B b (acc ++ quote s.data.toList) w' ∧ Below B w w' ∧ Spare b w w':=by
 have HB:=Lib.hid hb
 have hlt:=hb.lt
 have HL:=Lib.hid hlen
 clear hb hlen
 go_enter Tryd.func61,Tryd.ntmps61
 go_wp2_with (go_at_call 73;refine (writeByte_spare B b acc 34 _ HB.out (by have:=HL.out;omega) HB.out.lt).mono ?_;rintro e w1 ⟨⟨x,rfl⟩,hb1,hbel1,hs1⟩;have HS1:=Lib.hid hs1;clear hs1;have HB1 : Hid (Bld B b (acc ++ [34]) w1):=Lib.hid hb1;have HBEL1:=Lib.hid hbel1;clear hb1 hbel1)
 go_loopg [11] s.size (fun k x wr => ∃ (q : Nat) (m : Bs) (o : Bs),x = .int .i64 (q : Int) ∧ Hid (At s q m ∧ o ++ m.flatMap esc1 = s.data.toList.flatMap esc1 ∧ m.length ≤ k ∧ o.length ≤ 6 * q) ∧ Hid (Bld B b (acc ++ [34] ++ o) wr) ∧ Hid (Below B w wr ∧ Spare b w wr))
 case atStart => exact ⟨0,s.data.toList,[],rfl,Lib.hid ⟨At.start s,by simp,by simp,by simp⟩,Lib.hid (by simpa using HB1.out),Lib.hid ⟨HBEL1.out,HS1.out⟩⟩
 case round =>
  obtain ⟨q,m,o,rfl,HM,HBR,HBL⟩:=hrel
  cases m with
  | nil =>
   obtain ⟨d1,d2⟩:=at_ge HM.out.1
   go_wp2_with (go_at_call 73;refine (writeByte_spare B b (acc ++ [34] ++ o) 34 _ HBR.out (by have:=HL.out;have:=HM.out.2.2.2;have:=HM.out.1.len;simp;omega) HBR.out.lt).mono ?_;rintro e w2 ⟨⟨x,rfl⟩,hb2,hbel2,hs2⟩;have HS2:=Lib.hid hs2;clear hs2;have HB2 : Hid (Bld B b (acc ++ [34] ++ o ++ [34]) w2):=Lib.hid hb2;have HBEL2:=Lib.hid hbel2;clear hb2 hbel2)
   go_end0
   refine ⟨rfl,?_,HBL.out.1.trans HBEL2.out,HBL.out.2.trans HS2.out⟩
   have he:=HM.out.2.1
   simp only [List.flatMap_nil,List.append_nil] at he
   rw [quote,← he]
   simpa using HB2.out
  | cons c m =>
   obtain ⟨d1,d2⟩:=at_lt HM.out.1
   have hlt:=HM.out.1.lt
   have hx:=HM.out.1.byte
   have hi:=idx_esc c
   have HCL : Hid ((acc ++ [34] ++ o).length + 6 ≤ 140737488355328):=Lib.hid (by have:=HL.out;have:=HM.out.2.2.2;have:=HM.out.1.lt;simp;omega)
   have HQ : Hid (q < 140737488355328):=Lib.hid (by have:=HL.out;omega)
   have NEXT : ∀ (wx : World),Bld B b (acc ++ [34] ++ o ++ esc1 c) wx → (Below B w wx ∧ Spare b w wx) → ∃ (q' : Nat) (m' : Bs) (o' : Bs),Value.int .i64 (wrap64 ((q : Int) + 1)) = .int .i64 (q' : Int) ∧ Hid (At s q' m' ∧ o' ++ m'.flatMap esc1 = s.data.toList.flatMap esc1 ∧ m'.length ≤ m.length ∧ o'.length ≤ 6 * q') ∧ Hid (Bld B b (acc ++ [34] ++ o') wx) ∧ Hid (Below B w wx ∧ Spare b w wx):=by
    intro wx hbx hlx
    refine ⟨q + 1,m,o ++ esc1 c,by rw [show wrap64 ((q : Int) + 1) = (q : Int) + 1 by have:=HQ.out;unfold wrap64;omega];simp,Lib.hid ⟨HM.out.1.next,?_,Nat.le_refl _,?_⟩,Lib.hid (by simpa using hbx),Lib.hid hlx⟩
    ·have:=HM.out.2.1
     simpa using this
    ·have:=HM.out.2.2.2
     have:=esc_len c
     simp
     omega
   have HN:=Lib.hid NEXT
   clear NEXT
   cases hu : mark c with
   | some mm =>
    rw [hu] at hi
    obtain ⟨j,hj,hj7,hm,hen⟩:=hi
    have HJ:=Lib.hid hj
    have hE : esc1 c = [92,mm]:=by rw [esc1,hu]
    have HE:=Lib.hid hE
    obtain ⟨M,hM⟩ : ∃ M : Int,M = (mm.toNat : Int):=⟨_,rfl⟩
    have hmx : ∀ h : j < ByteArray.size ⟨#[34,92,98,102,110,114,116]⟩,(((⟨#[34,92,98,102,110,114,116]⟩ : ByteArray)[j]'h).toNat : Int) = M:=fun h => by
     have:=hm h
     unfold escB at this
     rw [this,hM]
    rw [← hM] at hen
    have hz : (Utf8.encode M).size = 1:=by
     have:=congrArg List.length hen
     simpa using this
    have HEN:=Lib.hid hen
    have w1 : (0 ≤ (j : Int)) = True:=eq_true (by omega)
    have w2 : ((j : Int) < 7) = True:=eq_true (by omega)
    clear hj hu hm hE hen hM
    go_wp2_with (first
     | (go_at_call 45;refine (idx_of _ c (j : Int) _ HJ.out).mono ?_;rintro e w1 ⟨rfl,rfl⟩))
    go_wp2_with (first
     | (go_at_call 60;refine (writeStr_spare B b (acc ++ [34] ++ o) [92,mm] _ _ HBR.out (by simp [HEN.out]) (by have:=HCL.out;simp only [List.length_cons,List.length_nil];omega) HBR.out.lt).mono ?_;rintro e w3 ⟨⟨y,rfl⟩,hb3,hbel3,hs3⟩;have HS3:=Lib.hid hs3;clear hs3;have HB3 : Hid (Bld B b (acc ++ [34] ++ o ++ [92,mm]) w3):=Lib.hid hb3;have HBEL3:=Lib.hid hbel3;clear hb3 hbel3))
    go_roundg m.length
    case measure => have:=HM.out.2.2.1;simp at this;omega
    case rel => exact HN.out _ (by rw [HE.out];exact HB3.out) ⟨HBL.out.1.trans HBEL3.out,HBL.out.2.trans (HS3.out)⟩
   | none =>
    rw [hu] at hi
    have HI : Hid (Lib.indexByte [34,92,8,12,10,13,9] c = -1):=Lib.hid hi
    by_cases hc : c.toNat < 32
    ·have hE : esc1 c = [92,117,48,48,hexd (c.toNat / 16),hexd (c.toNat % 16)]:=by rw [esc1,hu];simp only;rw [if_pos hc]
     have HE:=Lib.hid hE
     obtain ⟨C,hC⟩ : ∃ C : Int,C = (c.toNat : Int):=⟨_,rfl⟩
     have hd : decide (C < 32) = true:=decide_eq_true (by omega)
     have hC0 : 0 ≤ C:=by omega
     have hC1 : C < 32:=by omega
     have HD:=Lib.hid hc
     obtain ⟨a,haN⟩ : ∃ a : Nat,a = c.toNat / 16:=⟨_,rfl⟩
     obtain ⟨d,hdN⟩ : ∃ d : Nat,d = c.toNat % 16:=⟨_,rfl⟩
     have hdv : C / 16 = (a : Int):=by omega
     have hmd : bits .and .u8 C 15 = (d : Int):=by rw [hC,hdN];exact and15 c
     obtain ⟨MA,ea1,ea2⟩:=hexd_enc a (by omega)
     obtain ⟨MD,ed1,ed2⟩:=hexd_enc d (by omega)
     have hma : ∀ h : a < ByteArray.size ⟨#[48,49]⟩,(((⟨#[48,49]⟩ : ByteArray)[a]'h).toNat : Int) = MA:=fun h => ea1 ▸ hex_two a (by omega) h
     have hmb : ∀ h : d < ByteArray.size ⟨#[48,49,50,51,52,53,54,55,56,57,97,98,99,100,101,102]⟩,(((⟨#[48,49,50,51,52,53,54,55,56,57,97,98,99,100,101,102]⟩ : ByteArray)[d]'h).toNat : Int) = MD:=fun h => ed1 ▸ hex_all d (by omega) h
     have hza : (Utf8.encode MA).size = 1:=by
      have:=congrArg List.length ea2
      simpa using this
     have hzd : (Utf8.encode MD).size = 1:=by
      have:=congrArg List.length ed2
      simpa using this
     have v1 : (0 ≤ (a : Int)) = True:=eq_true (by omega)
     have v2 : ((a : Int) < 2) = True:=eq_true (by omega)
     have v3 : (0 ≤ (d : Int)) = True:=eq_true (by omega)
     have v4 : ((d : Int) < 16) = True:=eq_true (by omega)
     have EA2:=Lib.hid ea2
     have ED2:=Lib.hid ed2
     have HA:=Lib.hid haN
     have HDN:=Lib.hid hdN
     rw [← hC] at hx
     clear ea1 ea2 ed1 ed2 haN hdN
     have HCC:=Lib.hid hC
     clear hi hu hE hc hC
     go_wp2_with (first
      | (go_at_call 45;refine (idx_ofC _ c C HCC.out (-1) _ HI.out).mono ?_;rintro e w1 ⟨rfl,rfl⟩))
     go_region_held3 (fun _ => True) (trivial) ((go_at_call 60;refine (writeStr_spare B b (acc ++ [34] ++ o) [92,117,48,48,hexd (c.toNat / 16),hexd (c.toNat % 16)] _ _ (HBR.out.drawn (by repeat (first|exact Drawn0.refl _|apply Drawn0.step|apply drawn_drew))) (by rw [← HA.out,← HDN.out];simp [EA2.out,ED2.out]) (by have:=HCL.out;simp only [List.length_cons,List.length_nil];omega) (HBR.out.drawn (by repeat (first|exact Drawn0.refl _|apply Drawn0.step|apply drawn_drew))).lt).mono ?_;rintro e w3 ⟨⟨y,rfl⟩,hb3,hbel3,hs3⟩;have HS3:=Lib.hid hs3;clear hs3;have HB3 : Hid (Bld B b (acc ++ [34] ++ o ++ [92,117,48,48,hexd (c.toNat / 16),hexd (c.toNat % 16)]) w3):=Lib.hid hb3;have HBEL3 : Hid (Below B w1 w3):=Lib.hid (((Drawn0.below (by repeat (first|exact Drawn0.refl _|apply Drawn0.step|apply drawn_drew))).mono HBR.out.lt).trans hbel3);clear hb3 hbel3))
     all_goals
      go_wp2_with fail
      go_roundg m.length
      case measure => have:=HM.out.2.2.1;simp at this;omega
      case rel => exact HN.out _ (by rw [HE.out];exact HB3.out) ⟨HBL.out.1.trans HBEL3.out,HBL.out.2.trans ((Spare.drawn (by repeat (first|exact Drawn0.refl _|apply Drawn0.step|apply drawn_drew))).trans HS3.out)⟩
    ·have hE : esc1 c = [c]:=by rw [esc1,hu];simp only;rw [if_neg hc]
     have HE:=Lib.hid hE
     have hd : decide ((c.toNat : Int) < 32) = false:=decide_eq_false (by omega)
     clear hi hu hE
     go_wp2_with (first
      | (go_at_call 45;refine (idx_of _ c (-1) _ HI.out).mono ?_;rintro e w1 ⟨rfl,rfl⟩)
      | (go_at_call 73;refine (writeByte_spare B b (acc ++ [34] ++ o) c _ HBR.out (by have:=HCL.out;omega) HBR.out.lt).mono ?_;rintro e w3 ⟨⟨y,rfl⟩,hb3,hbel3,hs3⟩;have HS3:=Lib.hid hs3;clear hs3;have HB3 : Hid (Bld B b (acc ++ [34] ++ o ++ [c]) w3):=Lib.hid hb3;have HBEL3:=Lib.hid hbel3;clear hb3 hbel3))
     go_roundg m.length
     case measure => have:=HM.out.2.2.1;simp at this;omega
     case rel => exact HN.out _ (by rw [HE.out];exact HB3.out) ⟨HBL.out.1.trans HBEL3.out,HBL.out.2.trans (HS3.out)⟩
end Go.Proofs.YtadfkeipcebmfaaDoor.X
namespace Go.Proofs.YtadfkeipcebmfaaDoor.X
open Go.RowKit Go.Proofs.YtadfkeipcebmfaaDoorW.PrintWords
set_option linter.unusedVariables false
set_option linter.unusedSimpArgs false
theorem str_list (t : Bs) : (str t).data.toList = t:=rfl
theorem str_size (t : Bs) : (str t).size = t.length:=by rw [← ByteArray.size_data];rfl
theorem esc_pos (c : UInt8) : 1 ≤ (esc1 c).length:=by
 unfold esc1
 split
 ·simp
 ·split <;> simp
theorem quote_ge (l : Bs) : l.length ≤ (quote l).length:=by
 have : l.length ≤ (l.flatMap esc1).length:=by
  induction l with
  | nil => simp
  | cons c l ih =>
   have:=esc_pos c
   simp only [List.flatMap_cons,List.length_append,List.length_cons]
   omega
 simp only [quote,List.length_cons,List.length_append,List.length_nil]
 omega
def F.trees : F → List F
 | .nil => []
 | .leaf k d t r => .leaf k d t .nil :: r.trees
 | .node k d ks r => .node k d ks .nil :: r.trees
abbrev big : Nat:=17592186044416
def WriteOk (t : F) : Prop:=∀ (B b : Nat) (A : Option Addr) (cp : Nat) (pre post : List Nd) (acc : Bs) (w0 w : World),(pre ++ t.flat ++ post).length ≤ cp → (pre ++ t.flat ++ post).length ≤ 1099511627776 → acc.length + (t.out false true).length ≤ big →
 Kd.C kN w0 A (pre ++ t.flat ++ post).length (pre ++ t.flat ++ post) → w0.heap.size ≤ B → Below w0.heap.size w0 w → Bld B b acc w →
 Calls Tryd.prog 37 #[.pointer (some ⟨b,0,none⟩),.slice A (pre ++ t.flat ++ post).length cp,.int .i64 (pre.length : Int)] w fun e w' => e = .returned (.int .i64 ((pre.length + t.flat.length : Nat) : Int)) ∧ Bld B b (acc ++ t.out false true) w' ∧ Below B w w' ∧ Spare b w w'
theorem Bld.blt {B b : Nat} {l : Bs} {w : World} (h : Bld B b l w) : b < w.heap.size:=by
 rcases h with ⟨hB,v,hb,_⟩|⟨hB,v,hb,_⟩ <;> exact (Array.getElem?_eq_some_iff.mp hb).1
theorem node_at {w0 w : World} {A : Option Addr} {pre post : List Nd} {x : Nd} (h : Kd.C kN w0 A (pre ++ x :: post).length (pre ++ x :: post)) (hb : Below w0.heap.size w0 w) :
  ∃ ad,A = some ad ∧ w.cell? (ad.add (pre.length * 5)) = some (.int .i64 x.f0) ∧ w.cell? ⟨(ad.add (pre.length * 5)).block,(ad.add (pre.length * 5)).off + 1,none⟩ = some (.int .i64 x.f1) ∧ w.cell? ⟨(ad.add (pre.length * 5)).block,(ad.add (pre.length * 5)).off + 2,none⟩ = some (.int .i64 x.f2) ∧ w.cell? ⟨(ad.add (pre.length * 5)).block,(ad.add (pre.length * 5)).off + 3,none⟩ = some (.string x.f3) ∧ w.cell? ⟨(ad.add (pre.length * 5)).block,(ad.add (pre.length * 5)).off + 4,none⟩ = some (.string x.f4):=by
 have h1:=Kd.C_below h hb
 obtain ⟨ad,e,h0,h1,h2,h3,h4⟩:=at_T46 h1 (pre.length : Int) (by omega) (by simp;omega)
 have hx : rd_T46 (pre ++ x :: post) (pre.length : Int) = x:=by simp [rd_T46]
 rw [hx] at h0 h1 h2 h3 h4
 exact ⟨ad,e,h0,h1,h2,h3,h4⟩
set_option maxHeartbeats 4000000 in
set_option maxRecDepth 100000 in
theorem write_leaf (k : Bs) (d : Int) (t : Bs) (hd : 1 ≤ d ∧ d ≤ 5) : WriteOk (.leaf k d t .nil):=by
 intro B b A cp pre post acc w0 w hcp hlen hbig hC hB hbel hbld
 simp only [F.flat,List.append_assoc,List.cons_append,List.nil_append] at hcp hlen hC ⊢
 obtain ⟨ad,rfl,k0,k1,k2,k3,k4⟩:=node_at hC hbel
 simp only at k0 k1 k2 k3 k4
 generalize hN : (pre ++ (⟨d,1,0,str k,str t⟩ : Nd) :: post).length = N at hcp hlen hC
 have hp : pre.length < N:=by rw [← hN];simp
 have p1 : (0 ≤ (pre.length : Int)) = True:=eq_true (by omega)
 have p2 : ((pre.length : Int) < (N : Int)) = True:=eq_true (by omega)
 have HBIG:=Lib.hid hbig
 have HBLD:=Lib.hid hbld
 have HL:=Lib.hid hlen
 clear hbig hbld hC hbel hN hlen
 have hal:=heap_alloc_new w (.cells #[.int .i64 d,.int .i64 1,.int .i64 0,.string (str k),.string (str t)] 46 (0,0))
 have hbw : Below w.heap.size w (w.alloc (.cells #[.int .i64 d,.int .i64 1,.int .i64 0,.string (str k),.string (str t)] 46 (0,0))):=(Below.refl _ _).alloc (Nat.le_refl _) _
 have x0:=(blk_cell hal 0).trans (rfl : _ = some (Value.int .i64 d))
 have x1:=(blk_cell hal 1).trans (rfl : _ = some (Value.int .i64 1))
 have x4:=(blk_cell hal 4).trans (rfl : _ = some (Value.string (str t)))
 have HBN : Hid (Bld B b acc (w.alloc (.cells #[.int .i64 d,.int .i64 1,.int .i64 0,.string (str k),.string (str t)] 46 (0,0)))):=Lib.hid (HBLD.out.below hbw)
 have HBW:=Lib.hid (hbw.mono HBLD.out.lt)
 have HBA:=Lib.hid hbw
 have HLT:=Lib.hid (blk_lt hal)
 have HXX:=Lib.hid hal
 have hcase : d = 1 ∨ d = 2 ∨ d = 3 ∨ d = 4 ∨ d = 5:=by omega
 have HO : Hid ((F.leaf k d t .nil).out false true = ltx d t):=Lib.hid (by simp [F.out])
 rw [HO.out]
 have HBG : Hid (acc.length + (ltx d t).length ≤ 17592186044416):=Lib.hid (by have:=HBIG.out;rw [HO.out] at this;exact this)
 clear hal hbw HBIG HO
 have n1 : wrap64 ((pre.length : Int) + 1) = (pre.length : Int) + 1:=by have:=HL.out;unfold wrap64;omega
 have HW1:=Lib.hid n1
 have HNE : Hid (w.heap.size ≠ b):=Lib.hid (by have:=HBLD.out.blt;omega)
 clear n1
 rcases hcase with rfl|rfl|rfl|rfl|rfl
 ·clear x4
  go_enter Tryd.func37,Tryd.ntmps37
  go_wp2_with (go_at_call 60;refine (writeStr_spare B b acc ([110,117,108,108]) _ _ HBN.out rfl (by have:=HBG.out;simp [ltx] at this ⊢;omega) HBN.out.lt).mono ?_;rintro e w3 ⟨⟨y,rfl⟩,hb3,hbel3,hs3⟩;have HB3 : Hid (Bld B b (acc ++ [110,117,108,108]) w3):=Lib.hid hb3;have HBEL3:=Lib.hid hbel3;have HS3:=Lib.hid hs3;have y1 : w3.cell? ⟨w.heap.size,1,none⟩ = some (.int .i64 1):=(blk_cell (hs3 _ _ _ HXX.out (by decide) HNE.out) 1).trans rfl;clear hb3 hbel3 hs3)
  go_ret
  rw [HW1.out]
  exact ⟨rfl,HB3.out,HBW.out.trans HBEL3.out,(Spare.of_below (HBA.out)).trans HS3.out⟩
 ·clear x4
  go_enter Tryd.func37,Tryd.ntmps37
  go_wp2_with (go_at_call 60;refine (writeStr_spare B b acc ([116,114,117,101]) _ _ HBN.out rfl (by have:=HBG.out;simp [ltx] at this ⊢;omega) HBN.out.lt).mono ?_;rintro e w3 ⟨⟨y,rfl⟩,hb3,hbel3,hs3⟩;have HB3 : Hid (Bld B b (acc ++ [116,114,117,101]) w3):=Lib.hid hb3;have HBEL3:=Lib.hid hbel3;have HS3:=Lib.hid hs3;have y1 : w3.cell? ⟨w.heap.size,1,none⟩ = some (.int .i64 1):=(blk_cell (hs3 _ _ _ HXX.out (by decide) HNE.out) 1).trans rfl;clear hb3 hbel3 hs3)
  go_ret
  rw [HW1.out]
  exact ⟨rfl,HB3.out,HBW.out.trans HBEL3.out,(Spare.of_below (HBA.out)).trans HS3.out⟩
 ·clear x4
  go_enter Tryd.func37,Tryd.ntmps37
  go_wp2_with (go_at_call 60;refine (writeStr_spare B b acc ([102,97,108,115,101]) _ _ HBN.out rfl (by have:=HBG.out;simp [ltx] at this ⊢;omega) HBN.out.lt).mono ?_;rintro e w3 ⟨⟨y,rfl⟩,hb3,hbel3,hs3⟩;have HB3 : Hid (Bld B b (acc ++ [102,97,108,115,101]) w3):=Lib.hid hb3;have HBEL3:=Lib.hid hbel3;have HS3:=Lib.hid hs3;have y1 : w3.cell? ⟨w.heap.size,1,none⟩ = some (.int .i64 1):=(blk_cell (hs3 _ _ _ HXX.out (by decide) HNE.out) 1).trans rfl;clear hb3 hbel3 hs3)
  go_ret
  rw [HW1.out]
  exact ⟨rfl,HB3.out,HBW.out.trans HBEL3.out,(Spare.of_below (HBA.out)).trans HS3.out⟩
 ·go_enter Tryd.func37,Tryd.ntmps37
  go_wp2_with (go_at_call 60;refine (writeStr_spare B b acc (t) _ _ HBN.out rfl (by have:=HBG.out;simp [ltx] at this ⊢;omega) HBN.out.lt).mono ?_;rintro e w3 ⟨⟨y,rfl⟩,hb3,hbel3,hs3⟩;have HB3 : Hid (Bld B b (acc ++ t) w3):=Lib.hid hb3;have HBEL3:=Lib.hid hbel3;have HS3:=Lib.hid hs3;have y1 : w3.cell? ⟨w.heap.size,1,none⟩ = some (.int .i64 1):=(blk_cell (hs3 _ _ _ HXX.out (by decide) HNE.out) 1).trans rfl;clear hb3 hbel3 hs3)
  go_ret
  rw [HW1.out]
  exact ⟨rfl,HB3.out,HBW.out.trans HBEL3.out,(Spare.of_below (HBA.out)).trans HS3.out⟩
 ·go_enter Tryd.func37,Tryd.ntmps37
  go_wp2_with (go_at_call 61;refine (quote_calls B b (str t) acc _ (by rw [str_size];have h5:=HBG.out;have h6:=quote_ge t;simp [ltx] at h5;omega) HBN.out).mono ?_;rintro e w3 ⟨rfl,hb3,hbel3,hs3⟩;rw [str_list] at hb3;have HB3 : Hid (Bld B b (acc ++ (quote t)) w3):=Lib.hid hb3;have HBEL3:=Lib.hid hbel3;have HS3:=Lib.hid hs3;have y1 : w3.cell? ⟨w.heap.size,1,none⟩ = some (.int .i64 1):=(blk_cell (hs3 _ _ _ HXX.out (by decide) HNE.out) 1).trans rfl;clear hb3 hbel3 hs3)
  go_ret
  rw [HW1.out]
  exact ⟨rfl,HB3.out,HBW.out.trans HBEL3.out,(Spare.of_below (HBA.out)).trans HS3.out⟩
end Go.Proofs.YtadfkeipcebmfaaDoor.X
namespace Go.Proofs.YtadfkeipcebmfaaDoor.X
open Go.RowKit Go.Proofs.YtadfkeipcebmfaaDoorW.PrintWords
set_option linter.unusedVariables false
set_option linter.unusedSimpArgs false
theorem node_at2 {w0 w : World} {ad : Addr} {N : Nat} {l pre post : List Nd} {x : Nd} (h : Kd.C kN w0 (some ad) N l) (hN : N = l.length) (hl : l = pre ++ x :: post) (hb : Below w0.heap.size w0 w) :
  w.cell? (ad.add (pre.length * 5)) = some (.int .i64 x.f0) ∧ w.cell? ⟨(ad.add (pre.length * 5)).block,(ad.add (pre.length * 5)).off + 1,none⟩ = some (.int .i64 x.f1) ∧ w.cell? ⟨(ad.add (pre.length * 5)).block,(ad.add (pre.length * 5)).off + 2,none⟩ = some (.int .i64 x.f2) ∧ w.cell? ⟨(ad.add (pre.length * 5)).block,(ad.add (pre.length * 5)).off + 3,none⟩ = some (.string x.f3) ∧ w.cell? ⟨(ad.add (pre.length * 5)).block,(ad.add (pre.length * 5)).off + 4,none⟩ = some (.string x.f4):=by
 subst hN hl
 obtain ⟨ad',e,h0,h1,h2,h3,h4⟩:=node_at h hb
 cases e
 exact ⟨h0,h1,h2,h3,h4⟩
theorem F.part (f : F) : f = .nil ∨ ∃ (t r : F) (key : Bs) (x : Nd) (tl : List Nd),t ∈ f.trees ∧ (∀ u ∈ r.trees,u ∈ f.trees) ∧ f.flat = t.flat ++ r.flat ∧ t.flat = x :: tl ∧ x.f3 = str key ∧ f.count = r.count + 1 ∧
  ∀ ob first,f.out ob first = (if first then [] else [44]) ++ (if ob then quote key ++ [58] else []) ++ t.out false true ++ r.out ob false:=by
 cases f with
 | nil => exact .inl rfl
 | leaf k d t r =>
  refine .inr ⟨.leaf k d t .nil,r,k,_,_,by simp [F.trees],fun u hu => by simp [F.trees,hu],by simp [F.flat],rfl,rfl,rfl,fun ob first => ?_⟩
  simp [F.out]
 | node k d ks r =>
  refine .inr ⟨.node k d ks .nil,r,k,_,_,by simp [F.trees],fun u hu => by simp [F.trees,hu],by simp [F.flat],rfl,rfl,rfl,fun ob first => ?_⟩
  simp [F.out]
theorem F.cnt_le : ∀ f : F,f.count ≤ f.flat.length
 | .nil => Nat.le_refl _
 | .leaf k d t r => by simp only [F.count,F.flat,List.length_cons];have:=F.cnt_le r;omega
 | .node k d ks r => by simp only [F.count,F.flat,List.length_cons,List.length_append];have:=F.cnt_le r;omega
theorem wb (B b : Nat) (l : List UInt8) (c : UInt8) (C : Int) (hC : (c.toNat : Int) = C) (w : World) (h : Bld B b l w) (hlen : l.length + 1 ≤ 140737488355328) (hBw : B ≤ w.heap.size) :
  Calls Tryd.prog 73 #[.pointer (some ⟨b,0,none⟩),.int .u8 C] w fun e w' => (∃ x,e = .returned x) ∧ Bld B b (l ++ [c]) w' ∧ Below B w w' ∧ Spare b w w':=by
 subst hC
 exact writeByte_spare B b l c w h hlen hBw
theorem WriteOk.use {t : F} (h : WriteOk t) (B b : Nat) (ad : Addr) (cp N : Nat) (l pre post : List Nd) (acc : Bs) (w0 w : World) (hN : N = l.length) (hl : l = pre ++ t.flat ++ post) (hcp : N ≤ cp) (hlen : N ≤ 1099511627776) (hbig : acc.length + (t.out false true).length ≤ big)
  (hC : Kd.C kN w0 (some ad) N l) (hB : w0.heap.size ≤ B) (hbel : Below w0.heap.size w0 w) (hbld : Bld B b acc w) :
  Calls Tryd.prog 37 #[.pointer (some ⟨b,0,none⟩),.slice (some ad) N cp,.int .i64 (pre.length : Int)] w fun e w' => e = .returned (.int .i64 ((pre.length + t.flat.length : Nat) : Int)) ∧ Bld B b (acc ++ t.out false true) w' ∧ Below B w w' ∧ Spare b w w':=by
 subst hN hl
 exact h B b (some ad) cp pre post acc w0 w hcp hlen hbig hC hB hbel hbld
set_option maxHeartbeats 1000000 in
set_option maxRecDepth 100000 in
theorem many_list (k : Bs) (ks : F) (hks : ∀ t ∈ ks.trees,WriteOk t) (B b : Nat) (ad : Addr) (cp N : Nat) (pre post : List Nd) (acc : Bs) (w0 w : World) (hN : N = (pre ++ (F.node k 6 ks .nil).flat ++ post).length) (hcp : N ≤ cp) (hlen : N ≤ 1099511627776) (hbig : acc.length + (ks.out false true).length + 2 ≤ big)
  (hC : Kd.C kN w0 (some ad) N (pre ++ (F.node k 6 ks .nil).flat ++ post)) (hB : w0.heap.size ≤ B) (hbel : Below w0.heap.size w0 w) (hbld : Bld B b acc w) :
  Calls Tryd.prog 62 #[.pointer (some ⟨b,0,none⟩),.slice (some ad) N cp,.int .i64 (pre.length : Int)] w fun e w' => e = .returned (.tuple #[]) ∧ Bld B b (acc ++ (91 :: (ks.out false true ++ [93]))) w' ∧ Below B w w' ∧ Spare b w w':=by
 generalize hl : pre ++ (F.node k 6 ks .nil).flat ++ post = l at hN hC
 have hls : l = pre ++ (⟨6,((ks.flat.length + 1 : Nat) : Int),(ks.count : Nat),str k,str []⟩ : Nd) :: (ks.flat ++ post):=by rw [← hl];simp [F.flat]
 have HC:=Lib.hid hC
 have HNL:=Lib.hid hN
 have HLS:=Lib.hid hls
 have hp : pre.length < N:=by rw [hN,hls];simp
 have HBEL:=Lib.hid hbel
 have HBLD:=Lib.hid hbld
 have HBIG:=Lib.hid hbig
 have HL:=Lib.hid hlen
 have HKS:=Lib.hid hks
 have HBB:=Lib.hid hB
 clear hks hl hls hN hC hbel hbld hbig hB
 obtain ⟨k0,k1,k2,k3,k4⟩:=node_at2 HC.out HNL.out HLS.out HBEL.out
 simp only at k0 k2
 clear k1 k3 k4
 have p1 : (0 ≤ (pre.length : Int)) = True:=eq_true (by omega)
 have p2 : ((pre.length : Int) < (N : Int)) = True:=eq_true (by omega)
 have n1 : wrap64 ((pre.length : Int) + 1) = ((pre.length + 1 : Nat) : Int):=by have:=HL.out;unfold wrap64;omega
 have HW1:=Lib.hid n1
 clear n1 hlen
 have E0 : ∀ h : 0 < ByteArray.size ⟨#[91,93]⟩,(((⟨#[91,93]⟩ : ByteArray)[0]'h).toNat : Int) = ((91 : UInt8).toNat : Int):=fun _ => rfl
 have E1 : ∀ h : 1 < ByteArray.size ⟨#[91,93]⟩,(((⟨#[91,93]⟩ : ByteArray)[1]'h).toNat : Int) = ((93 : UInt8).toNat : Int):=fun _ => rfl
 go_enter Tryd.func62,Tryd.ntmps62
 go_wp2_with (go_at_call 73;refine (writeByte_spare B b acc 91 _ HBLD.out (by have:=HBIG.out;unfold big at this;omega) HBLD.out.lt).mono ?_;rintro e w1 ⟨⟨x,rfl⟩,hb1,hbel1,hs1⟩;have HB1 : Hid (Bld B b (acc ++ [91]) w1):=Lib.hid hb1;have HBL1:=Lib.hid hbel1;have HS1:=Lib.hid hs1;have HBE1 : Hid (Below w0.heap.size w0 w1):=Lib.hid (HBEL.out.trans (hbel1.mono HBB.out));clear hb1 hbel1 hs1;obtain ⟨k0,k1,k2,k3,k4⟩:=node_at2 HC.out HNL.out HLS.out HBE1.out;clear k1 k3 k4)
 rw [HW1.out]
 go_loopg [7,26] ks.count (fun n x7 x26 wr => ∃ (i p : Nat) (f : F) (mid : List Nd) (o : Bs),x7 = .int .i64 (p : Int) ∧ x26 = .int .i64 (i : Int) ∧ Hid (ks.flat = mid ++ f.flat ∧ p = pre.length + 1 + mid.length ∧ i + f.count = ks.count ∧ f.count ≤ n ∧ o ++ f.out false (decide (i = 0)) = ks.out false true ∧ ∀ t ∈ f.trees,WriteOk t) ∧ Hid (Bld B b (acc ++ [91] ++ o) wr) ∧ Hid (Below B w wr ∧ Spare b w wr))
 case atStart => exact ⟨0,pre.length + 1,ks,[],[],rfl,rfl,Lib.hid ⟨rfl,rfl,by simp,Nat.le_refl _,by simp,HKS.out⟩,Lib.hid (by simpa using HB1.out),Lib.hid ⟨HBL1.out,HS1.out⟩⟩
 case round =>
  obtain ⟨i,p,f,mid,o,rfl,rfl,HM,HBR,HBL⟩:=hrel
  have HBE : Hid (Below w0.heap.size w0 wr):=Lib.hid (HBEL.out.trans (HBL.out.1.mono HBB.out))
  rcases F.part f with hf|⟨t,r,key,x,tl,hin,hrest,hfl,htl,hkey,hcnt,hout⟩
  ·have HM0:=HM.out
   rw [hf] at HM0
   have HM2:=Lib.hid HM0
   have d1 : decide (i < ks.count) = false:=decide_eq_false (by have:=HM0.2.2.1;simp [F.count] at this;omega)
   clear HM0 hf
   go_wp2_with (go_at_call 73;refine (writeByte_spare B b (acc ++ [91] ++ o) 93 _ HBR.out (by have h1:=HBIG.out;have h2:=congrArg List.length HM2.out.2.2.2.2.1;unfold big at h1;simp only [List.length_append,List.length_cons,List.length_nil,F.out] at h1 h2 ⊢;omega) HBR.out.lt).mono ?_;rintro e w2 ⟨⟨x,rfl⟩,hb2,hbel2,hs2⟩;have HB2 : Hid (Bld B b (acc ++ [91] ++ o ++ [93]) w2):=Lib.hid hb2;have HBL2:=Lib.hid hbel2;have HS2:=Lib.hid hs2;clear hb2 hbel2 hs2)
   go_end0
   refine ⟨rfl,?_,HBL.out.1.trans HBL2.out,HBL.out.2.trans HS2.out⟩
   have he:=HM2.out.2.2.2.2.1
   simp only [F.out,List.append_nil] at he
   rw [← he]
   simpa using HB2.out
  ·have d1 : decide (i < ks.count) = true:=decide_eq_true (by have:=HM.out.2.2.1;omega)
   obtain ⟨k0,k1,k2,k3,k4⟩:=node_at2 HC.out HNL.out HLS.out HBE.out
   simp only at k0
   clear k1 k2 k3 k4
   have HT : Hid (WriteOk t):=Lib.hid (HM.out.2.2.2.2.2 t hin)
   have hl2 : l = (pre ++ [(⟨6,((ks.flat.length + 1 : Nat) : Int),(ks.count : Nat),str k,str []⟩ : Nd)] ++ mid) ++ t.flat ++ (r.flat ++ post):=by
    rw [HLS.out,HM.out.1,hfl]
    simp
   have hp2 : (pre ++ [(⟨6,((ks.flat.length + 1 : Nat) : Int),(ks.count : Nat),str k,str []⟩ : Nd)] ++ mid).length = p:=by rw [HM.out.2.1];simp;omega
   generalize hpre2 : pre ++ [(⟨6,((ks.flat.length + 1 : Nat) : Int),(ks.count : Nat),str k,str []⟩ : Nd)] ++ mid = pre2 at hl2 hp2
   have hpN : p + t.flat.length ≤ N:=by rw [HNL.out,hl2,← hp2];simp
   have hpN1 : p < N:=by rw [htl] at hpN;simp at hpN;omega
   subst hp2
   have HL2:=Lib.hid hl2
   have HRES:=Lib.hid hrest
   have HFL:=Lib.hid hfl
   have HCNT:=Lib.hid hcnt
   have HOUT:=Lib.hid (hout false (decide (i = 0)))
   have hl3 : l = pre2 ++ x :: (tl ++ (r.flat ++ post)):=by rw [hl2,htl];simp
   have HL3:=Lib.hid hl3
   have HKEY:=Lib.hid hkey
   have v1 : (0 ≤ (pre2.length : Int)) = True:=eq_true (by omega)
   have v2 : ((pre2.length : Int) < (N : Int)) = True:=eq_true (by omega)
   have HSZ : Hid (acc.length + 1 + (o ++ f.out false (decide (i = 0))).length + 1 ≤ big):=Lib.hid (by rw [HM.out.2.2.2.2.1];have:=HBIG.out;omega)
   have HNEXT : Hid (∀ (wx : World) (j : Bs),j = (if decide (i = 0) = true then [] else [44]) ++ (if false = true then quote key ++ [58] else []) ++ t.out false true → Bld B b (acc ++ [91] ++ o ++ j) wx → (Below B w wx ∧ Spare b w wx) → ∃ (i' p' : Nat) (f' : F) (mid' : List Nd) (o' : Bs),Value.int .i64 ((pre2.length + t.flat.length : Nat) : Int) = .int .i64 (p' : Int) ∧ Value.int .i64 (wrap64 ((i : Int) + 1)) = .int .i64 (i' : Int) ∧ Hid (ks.flat = mid' ++ f'.flat ∧ p' = pre.length + 1 + mid'.length ∧ i' + f'.count = ks.count ∧ f'.count ≤ r.count ∧ o' ++ f'.out false (decide (i' = 0)) = ks.out false true ∧ ∀ t ∈ f'.trees,WriteOk t) ∧ Hid (Bld B b (acc ++ [91] ++ o') wx) ∧ Hid (Below B w wx ∧ Spare b w wx)):=Lib.hid (by
    intro wx j hj hbx hlx
    have hM:=HM.out
    refine ⟨i + 1,pre2.length + t.flat.length,r,mid ++ t.flat,o ++ j,rfl,?_,Lib.hid ⟨?_,?_,?_,Nat.le_refl _,?_,fun u hu => hM.2.2.2.2.2 u (hrest u hu)⟩,Lib.hid (by simpa using hbx),Lib.hid hlx⟩
    ·have h1:=hM.2.2.1
     have h2:=HNL.out
     have h3:=F.cnt_le ks
     have h4:=congrArg List.length HLS.out
     simp at h4
     rw [show wrap64 ((i : Int) + 1) = (i : Int) + 1 by have:=HL.out;unfold wrap64;omega]
     simp
    ·rw [hM.1,hfl]
     simp
    ·rw [hM.2.1]
     simp
     omega
    ·have:=hM.2.2.1
     omega
    ·have h5:=hM.2.2.2.2.1
     rw [hout false (decide (i = 0))] at h5
     rw [← h5,hj]
     simp)
   clear hin hrest hfl htl hkey hcnt hout hl2 hpre2 hl3 hpN
   by_cases hi : i = 0
   ·have d2 : decide (0 < i) = false:=decide_eq_false (by omega)
    have HI:=Lib.hid hi
    have HTXT : Hid (f.out false (decide (i = 0)) = (t.out false true) ++ r.out false false):=Lib.hid (by rw [HOUT.out];simp [hi])
    have HSZ2 : Hid (acc.length + 1 + o.length + (t.out false true).length + 2 ≤ big + 1):=Lib.hid (by have h1:=HSZ.out;rw [HTXT.out] at h1;simp only [List.length_append,List.length_cons,List.length_nil] at h1;omega)
    clear hi
    go_wp2_with (first
     | (go_at_call 37;refine (HT.out.use B b ad cp N l pre2 (r.flat ++ post) (acc ++ [91] ++ o) w0 _ HNL.out HL2.out hcp HL.out (by have h1:=HSZ2.out;simp only [List.length_append,List.length_cons,List.length_nil] at h1 ⊢;omega) HC.out HBB.out HBE.out HBR.out).mono ?_;rintro e w4 ⟨rfl,hb4,hbel4,hs4⟩;have HB4 : Hid (Bld B b (acc ++ [91] ++ o ++ t.out false true) w4):=Lib.hid hb4;have HBL4 : Hid (Below B w w4):=Lib.hid (HBL.out.1.trans hbel4);have HS4 : Hid (Spare b w w4):=Lib.hid (HBL.out.2.trans hs4);have HBE4 : Hid (Below w0.heap.size w0 w4):=Lib.hid (HBEL.out.trans (HBL4.out.mono HBB.out));clear hb4 hbel4 hs4))
    go_roundg r.count
    case measure => have h1:=HM.out.2.2.2.1;have h2:=HCNT.out;omega
    case rel => exact HNEXT.out _ (t.out false true) (by simp [HI.out]) (by simpa using HB4.out) ⟨HBL4.out,HS4.out⟩
   ·have d2 : decide (0 < i) = true:=decide_eq_true (by omega)
    have HI:=Lib.hid hi
    have HTXT : Hid (f.out false (decide (i = 0)) = [44] ++ (t.out false true) ++ r.out false false):=Lib.hid (by rw [HOUT.out];simp [hi])
    have HSZ2 : Hid (acc.length + 1 + o.length + 1 + (t.out false true).length + 2 ≤ big + 1):=Lib.hid (by have h1:=HSZ.out;rw [HTXT.out] at h1;simp only [List.length_append,List.length_cons,List.length_nil] at h1;omega)
    clear hi
    go_wp2_with (first
     | (go_at_call 73;refine (wb B b (acc ++ [91] ++ o) 44 44 rfl _ HBR.out (by have h1:=HSZ2.out;unfold big at h1;simp only [List.length_append,List.length_cons,List.length_nil] at h1 ⊢;omega) HBR.out.lt).mono ?_;rintro e w4 ⟨⟨y4,rfl⟩,hb4,hbel4,hs4⟩;have HB4 : Hid (Bld B b (acc ++ [91] ++ o ++ [44]) w4):=Lib.hid hb4;have HBL4 : Hid (Below B w w4):=Lib.hid (HBL.out.1.trans hbel4);have HS4 : Hid (Spare b w w4):=Lib.hid (HBL.out.2.trans hs4);have HBE4 : Hid (Below w0.heap.size w0 w4):=Lib.hid (HBEL.out.trans (HBL4.out.mono HBB.out));clear hb4 hbel4 hs4;obtain ⟨k0,k1,k2,k3,k4⟩:=node_at2 HC.out HNL.out HLS.out HBE4.out;clear k1 k2 k3 k4)
     | (go_at_call 37;refine (HT.out.use B b ad cp N l pre2 (r.flat ++ post) (acc ++ [91] ++ o ++ [44]) w0 _ HNL.out HL2.out hcp HL.out (by have h1:=HSZ2.out;simp only [List.length_append,List.length_cons,List.length_nil] at h1 ⊢;omega) HC.out HBB.out HBE4.out HB4.out).mono ?_;rintro e w5 ⟨rfl,hb5,hbel5,hs5⟩;have HB5 : Hid (Bld B b (acc ++ [91] ++ o ++ [44] ++ t.out false true) w5):=Lib.hid hb5;have HBL5 : Hid (Below B w w5):=Lib.hid (HBL4.out.trans hbel5);have HS5 : Hid (Spare b w w5):=Lib.hid (HS4.out.trans hs5);have HBE5 : Hid (Below w0.heap.size w0 w5):=Lib.hid (HBEL.out.trans (HBL5.out.mono HBB.out));clear hb5 hbel5 hs5))
    go_roundg r.count
    case measure => have h1:=HM.out.2.2.2.1;have h2:=HCNT.out;omega
    case rel => exact HNEXT.out _ ([44] ++ t.out false true) (by simp [HI.out]) (by simpa using HB5.out) ⟨HBL5.out,HS5.out⟩
set_option maxHeartbeats 1000000 in
set_option maxRecDepth 100000 in
theorem many_obj (k : Bs) (ks : F) (hks : ∀ t ∈ ks.trees,WriteOk t) (B b : Nat) (ad : Addr) (cp N : Nat) (pre post : List Nd) (acc : Bs) (w0 w : World) (hN : N = (pre ++ (F.node k 7 ks .nil).flat ++ post).length) (hcp : N ≤ cp) (hlen : N ≤ 1099511627776) (hbig : acc.length + (ks.out true true).length + 2 ≤ big)
  (hC : Kd.C kN w0 (some ad) N (pre ++ (F.node k 7 ks .nil).flat ++ post)) (hB : w0.heap.size ≤ B) (hbel : Below w0.heap.size w0 w) (hbld : Bld B b acc w) :
  Calls Tryd.prog 62 #[.pointer (some ⟨b,0,none⟩),.slice (some ad) N cp,.int .i64 (pre.length : Int)] w fun e w' => e = .returned (.tuple #[]) ∧ Bld B b (acc ++ (123 :: (ks.out true true ++ [125]))) w' ∧ Below B w w' ∧ Spare b w w':=by
 generalize hl : pre ++ (F.node k 7 ks .nil).flat ++ post = l at hN hC
 have hls : l = pre ++ (⟨7,((ks.flat.length + 1 : Nat) : Int),(ks.count : Nat),str k,str []⟩ : Nd) :: (ks.flat ++ post):=by rw [← hl];simp [F.flat]
 have HC:=Lib.hid hC
 have HNL:=Lib.hid hN
 have HLS:=Lib.hid hls
 have hp : pre.length < N:=by rw [hN,hls];simp
 have HBEL:=Lib.hid hbel
 have HBLD:=Lib.hid hbld
 have HBIG:=Lib.hid hbig
 have HL:=Lib.hid hlen
 have HKS:=Lib.hid hks
 have HBB:=Lib.hid hB
 clear hks hl hls hN hC hbel hbld hbig hB
 obtain ⟨k0,k1,k2,k3,k4⟩:=node_at2 HC.out HNL.out HLS.out HBEL.out
 simp only at k0 k2
 clear k1 k3 k4
 have p1 : (0 ≤ (pre.length : Int)) = True:=eq_true (by omega)
 have p2 : ((pre.length : Int) < (N : Int)) = True:=eq_true (by omega)
 have n1 : wrap64 ((pre.length : Int) + 1) = ((pre.length + 1 : Nat) : Int):=by have:=HL.out;unfold wrap64;omega
 have HW1:=Lib.hid n1
 clear n1 hlen
 have E0 : ∀ h : 0 < ByteArray.size ⟨#[123,125]⟩,(((⟨#[123,125]⟩ : ByteArray)[0]'h).toNat : Int) = ((123 : UInt8).toNat : Int):=fun _ => rfl
 have E1 : ∀ h : 1 < ByteArray.size ⟨#[123,125]⟩,(((⟨#[123,125]⟩ : ByteArray)[1]'h).toNat : Int) = ((125 : UInt8).toNat : Int):=fun _ => rfl
 go_enter Tryd.func62,Tryd.ntmps62
 go_wp2_with (go_at_call 73;refine (writeByte_spare B b acc 123 _ HBLD.out (by have:=HBIG.out;unfold big at this;omega) HBLD.out.lt).mono ?_;rintro e w1 ⟨⟨x,rfl⟩,hb1,hbel1,hs1⟩;have HB1 : Hid (Bld B b (acc ++ [123]) w1):=Lib.hid hb1;have HBL1:=Lib.hid hbel1;have HS1:=Lib.hid hs1;have HBE1 : Hid (Below w0.heap.size w0 w1):=Lib.hid (HBEL.out.trans (hbel1.mono HBB.out));clear hb1 hbel1 hs1;obtain ⟨k0,k1,k2,k3,k4⟩:=node_at2 HC.out HNL.out HLS.out HBE1.out;clear k1 k3 k4)
 rw [HW1.out]
 go_loopg [7,26] ks.count (fun n x7 x26 wr => ∃ (i p : Nat) (f : F) (mid : List Nd) (o : Bs),x7 = .int .i64 (p : Int) ∧ x26 = .int .i64 (i : Int) ∧ Hid (ks.flat = mid ++ f.flat ∧ p = pre.length + 1 + mid.length ∧ i + f.count = ks.count ∧ f.count ≤ n ∧ o ++ f.out true (decide (i = 0)) = ks.out true true ∧ ∀ t ∈ f.trees,WriteOk t) ∧ Hid (Bld B b (acc ++ [123] ++ o) wr) ∧ Hid (Below B w wr ∧ Spare b w wr))
 case atStart => exact ⟨0,pre.length + 1,ks,[],[],rfl,rfl,Lib.hid ⟨rfl,rfl,by simp,Nat.le_refl _,by simp,HKS.out⟩,Lib.hid (by simpa using HB1.out),Lib.hid ⟨HBL1.out,HS1.out⟩⟩
 case round =>
  obtain ⟨i,p,f,mid,o,rfl,rfl,HM,HBR,HBL⟩:=hrel
  have HBE : Hid (Below w0.heap.size w0 wr):=Lib.hid (HBEL.out.trans (HBL.out.1.mono HBB.out))
  rcases F.part f with hf|⟨t,r,key,x,tl,hin,hrest,hfl,htl,hkey,hcnt,hout⟩
  ·have HM0:=HM.out
   rw [hf] at HM0
   have HM2:=Lib.hid HM0
   have d1 : decide (i < ks.count) = false:=decide_eq_false (by have:=HM0.2.2.1;simp [F.count] at this;omega)
   clear HM0 hf
   go_wp2_with (go_at_call 73;refine (writeByte_spare B b (acc ++ [123] ++ o) 125 _ HBR.out (by have h1:=HBIG.out;have h2:=congrArg List.length HM2.out.2.2.2.2.1;unfold big at h1;simp only [List.length_append,List.length_cons,List.length_nil,F.out] at h1 h2 ⊢;omega) HBR.out.lt).mono ?_;rintro e w2 ⟨⟨x,rfl⟩,hb2,hbel2,hs2⟩;have HB2 : Hid (Bld B b (acc ++ [123] ++ o ++ [125]) w2):=Lib.hid hb2;have HBL2:=Lib.hid hbel2;have HS2:=Lib.hid hs2;clear hb2 hbel2 hs2)
   go_end0
   refine ⟨rfl,?_,HBL.out.1.trans HBL2.out,HBL.out.2.trans HS2.out⟩
   have he:=HM2.out.2.2.2.2.1
   simp only [F.out,List.append_nil] at he
   rw [← he]
   simpa using HB2.out
  ·have d1 : decide (i < ks.count) = true:=decide_eq_true (by have:=HM.out.2.2.1;omega)
   obtain ⟨k0,k1,k2,k3,k4⟩:=node_at2 HC.out HNL.out HLS.out HBE.out
   simp only at k0
   clear k1 k2 k3 k4
   have HT : Hid (WriteOk t):=Lib.hid (HM.out.2.2.2.2.2 t hin)
   have hl2 : l = (pre ++ [(⟨7,((ks.flat.length + 1 : Nat) : Int),(ks.count : Nat),str k,str []⟩ : Nd)] ++ mid) ++ t.flat ++ (r.flat ++ post):=by
    rw [HLS.out,HM.out.1,hfl]
    simp
   have hp2 : (pre ++ [(⟨7,((ks.flat.length + 1 : Nat) : Int),(ks.count : Nat),str k,str []⟩ : Nd)] ++ mid).length = p:=by rw [HM.out.2.1];simp;omega
   generalize hpre2 : pre ++ [(⟨7,((ks.flat.length + 1 : Nat) : Int),(ks.count : Nat),str k,str []⟩ : Nd)] ++ mid = pre2 at hl2 hp2
   have hpN : p + t.flat.length ≤ N:=by rw [HNL.out,hl2,← hp2];simp
   have hpN1 : p < N:=by rw [htl] at hpN;simp at hpN;omega
   subst hp2
   have HL2:=Lib.hid hl2
   have HRES:=Lib.hid hrest
   have HFL:=Lib.hid hfl
   have HCNT:=Lib.hid hcnt
   have HOUT:=Lib.hid (hout true (decide (i = 0)))
   have hl3 : l = pre2 ++ x :: (tl ++ (r.flat ++ post)):=by rw [hl2,htl];simp
   have HL3:=Lib.hid hl3
   have HKEY:=Lib.hid hkey
   have v1 : (0 ≤ (pre2.length : Int)) = True:=eq_true (by omega)
   have v2 : ((pre2.length : Int) < (N : Int)) = True:=eq_true (by omega)
   have HSZ : Hid (acc.length + 1 + (o ++ f.out true (decide (i = 0))).length + 1 ≤ big):=Lib.hid (by rw [HM.out.2.2.2.2.1];have:=HBIG.out;omega)
   have HNEXT : Hid (∀ (wx : World) (j : Bs),j = (if decide (i = 0) = true then [] else [44]) ++ (if true = true then quote key ++ [58] else []) ++ t.out false true → Bld B b (acc ++ [123] ++ o ++ j) wx → (Below B w wx ∧ Spare b w wx) → ∃ (i' p' : Nat) (f' : F) (mid' : List Nd) (o' : Bs),Value.int .i64 ((pre2.length + t.flat.length : Nat) : Int) = .int .i64 (p' : Int) ∧ Value.int .i64 (wrap64 ((i : Int) + 1)) = .int .i64 (i' : Int) ∧ Hid (ks.flat = mid' ++ f'.flat ∧ p' = pre.length + 1 + mid'.length ∧ i' + f'.count = ks.count ∧ f'.count ≤ r.count ∧ o' ++ f'.out true (decide (i' = 0)) = ks.out true true ∧ ∀ t ∈ f'.trees,WriteOk t) ∧ Hid (Bld B b (acc ++ [123] ++ o') wx) ∧ Hid (Below B w wx ∧ Spare b w wx)):=Lib.hid (by
    intro wx j hj hbx hlx
    have hM:=HM.out
    refine ⟨i + 1,pre2.length + t.flat.length,r,mid ++ t.flat,o ++ j,rfl,?_,Lib.hid ⟨?_,?_,?_,Nat.le_refl _,?_,fun u hu => hM.2.2.2.2.2 u (hrest u hu)⟩,Lib.hid (by simpa using hbx),Lib.hid hlx⟩
    ·have h1:=hM.2.2.1
     have h2:=HNL.out
     have h3:=F.cnt_le ks
     have h4:=congrArg List.length HLS.out
     simp at h4
     rw [show wrap64 ((i : Int) + 1) = (i : Int) + 1 by have:=HL.out;unfold wrap64;omega]
     simp
    ·rw [hM.1,hfl]
     simp
    ·rw [hM.2.1]
     simp
     omega
    ·have:=hM.2.2.1
     omega
    ·have h5:=hM.2.2.2.2.1
     rw [hout true (decide (i = 0))] at h5
     rw [← h5,hj]
     simp)
   clear hin hrest hfl htl hkey hcnt hout hl2 hpre2 hl3 hpN
   by_cases hi : i = 0
   ·have d2 : decide (0 < i) = false:=decide_eq_false (by omega)
    have HI:=Lib.hid hi
    have HTXT : Hid (f.out true (decide (i = 0)) = (quote key ++ [58] ++ t.out false true) ++ r.out true false):=Lib.hid (by rw [HOUT.out];simp [hi])
    have HSZ2 : Hid (acc.length + 1 + o.length + (quote key).length + 1 + (t.out false true).length + 2 ≤ big + 1):=Lib.hid (by have h1:=HSZ.out;rw [HTXT.out] at h1;simp only [List.length_append,List.length_cons,List.length_nil] at h1;omega)
    clear hi
    obtain ⟨q0,q1,q2,q3,q4⟩:=node_at2 HC.out HNL.out HL3.out HBE.out
    rw [HKEY.out] at q3
    clear q0 q1 q2 q4
    go_wp2_with (first
     | (go_at_call 61;refine (quote_calls B b (str key) (acc ++ [123] ++ o) _ (by rw [str_size];have h1:=HSZ2.out;have h2:=quote_ge key;unfold big at h1;simp only [List.length_append,List.length_cons,List.length_nil] at h1 ⊢;omega) HBR.out).mono ?_;rintro e w4 ⟨rfl,hb4,hbel4,hs4⟩;have HB4 : Hid (Bld B b (acc ++ [123] ++ o ++ quote key) w4):=Lib.hid hb4;have HBL4 : Hid (Below B w w4):=Lib.hid (HBL.out.1.trans hbel4);have HS4 : Hid (Spare b w w4):=Lib.hid (HBL.out.2.trans hs4);have HBE4 : Hid (Below w0.heap.size w0 w4):=Lib.hid (HBEL.out.trans (HBL4.out.mono HBB.out));clear hb4 hbel4 hs4)
     | (go_at_call 73;refine (wb B b (acc ++ [123] ++ o ++ quote key) 58 58 rfl _ HB4.out (by have h1:=HSZ2.out;unfold big at h1;simp only [List.length_append,List.length_cons,List.length_nil] at h1 ⊢;omega) HB4.out.lt).mono ?_;rintro e w5 ⟨⟨y5,rfl⟩,hb5,hbel5,hs5⟩;have HB5 : Hid (Bld B b (acc ++ [123] ++ o ++ quote key ++ [58]) w5):=Lib.hid hb5;have HBL5 : Hid (Below B w w5):=Lib.hid (HBL4.out.trans hbel5);have HS5 : Hid (Spare b w w5):=Lib.hid (HS4.out.trans hs5);have HBE5 : Hid (Below w0.heap.size w0 w5):=Lib.hid (HBEL.out.trans (HBL5.out.mono HBB.out));clear hb5 hbel5 hs5)
     | (go_at_call 37;refine (HT.out.use B b ad cp N l pre2 (r.flat ++ post) (acc ++ [123] ++ o ++ quote key ++ [58]) w0 _ HNL.out HL2.out hcp HL.out (by have h1:=HSZ2.out;simp only [List.length_append,List.length_cons,List.length_nil] at h1 ⊢;omega) HC.out HBB.out HBE5.out HB5.out).mono ?_;rintro e w6 ⟨rfl,hb6,hbel6,hs6⟩;have HB6 : Hid (Bld B b (acc ++ [123] ++ o ++ quote key ++ [58] ++ t.out false true) w6):=Lib.hid hb6;have HBL6 : Hid (Below B w w6):=Lib.hid (HBL5.out.trans hbel6);have HS6 : Hid (Spare b w w6):=Lib.hid (HS5.out.trans hs6);have HBE6 : Hid (Below w0.heap.size w0 w6):=Lib.hid (HBEL.out.trans (HBL6.out.mono HBB.out));clear hb6 hbel6 hs6))
    go_roundg r.count
    case measure => have h1:=HM.out.2.2.2.1;have h2:=HCNT.out;omega
    case rel => exact HNEXT.out _ ((quote key ++ [58]) ++ t.out false true) (by simp [HI.out]) (by simpa using HB6.out) ⟨HBL6.out,HS6.out⟩
   ·have d2 : decide (0 < i) = true:=decide_eq_true (by omega)
    have HI:=Lib.hid hi
    have HTXT : Hid (f.out true (decide (i = 0)) = [44] ++ (quote key ++ [58] ++ t.out false true) ++ r.out true false):=Lib.hid (by rw [HOUT.out];simp [hi])
    have HSZ2 : Hid (acc.length + 1 + o.length + 1 + (quote key).length + 1 + (t.out false true).length + 2 ≤ big + 1):=Lib.hid (by have h1:=HSZ.out;rw [HTXT.out] at h1;simp only [List.length_append,List.length_cons,List.length_nil] at h1;omega)
    clear hi
    obtain ⟨q0,q1,q2,q3,q4⟩:=node_at2 HC.out HNL.out HL3.out HBE.out
    rw [HKEY.out] at q3
    clear q0 q1 q2 q4
    go_wp2_with (go_at_call 73;refine (wb B b (acc ++ [123] ++ o) 44 44 rfl _ HBR.out (by have h1:=HSZ2.out;unfold big at h1;simp only [List.length_append,List.length_cons,List.length_nil] at h1 ⊢;omega) HBR.out.lt).mono ?_;rintro e w4 ⟨⟨y4,rfl⟩,hb4,hbel4,hs4⟩;have HB4 : Hid (Bld B b (acc ++ [123] ++ o ++ [44]) w4):=Lib.hid hb4;have HBL4 : Hid (Below B w w4):=Lib.hid (HBL.out.1.trans hbel4);have HS4 : Hid (Spare b w w4):=Lib.hid (HBL.out.2.trans hs4);have HBE4 : Hid (Below w0.heap.size w0 w4):=Lib.hid (HBEL.out.trans (HBL4.out.mono HBB.out));clear hb4 hbel4 hs4;obtain ⟨k0,k1,k2,k3,k4⟩:=node_at2 HC.out HNL.out HLS.out HBE4.out;clear k1 k2 k3 k4;obtain ⟨q0,q1,q2,q3,q4⟩:=node_at2 HC.out HNL.out HL3.out HBE4.out;rw [HKEY.out] at q3;clear q0 q1 q2 q4)
    go_wp2_with (first
     | (go_at_call 61;refine (quote_calls B b (str key) (acc ++ [123] ++ o ++ [44]) _ (by rw [str_size];have h1:=HSZ2.out;have h2:=quote_ge key;unfold big at h1;simp only [List.length_append,List.length_cons,List.length_nil] at h1 ⊢;omega) HB4.out).mono ?_;rintro e w5 ⟨rfl,hb5,hbel5,hs5⟩;have HB5 : Hid (Bld B b (acc ++ [123] ++ o ++ [44] ++ quote key) w5):=Lib.hid hb5;have HBL5 : Hid (Below B w w5):=Lib.hid (HBL4.out.trans hbel5);have HS5 : Hid (Spare b w w5):=Lib.hid (HS4.out.trans hs5);have HBE5 : Hid (Below w0.heap.size w0 w5):=Lib.hid (HBEL.out.trans (HBL5.out.mono HBB.out));clear hb5 hbel5 hs5)
     | (go_at_call 73;refine (wb B b (acc ++ [123] ++ o ++ [44] ++ quote key) 58 58 rfl _ HB5.out (by have h1:=HSZ2.out;unfold big at h1;simp only [List.length_append,List.length_cons,List.length_nil] at h1 ⊢;omega) HB5.out.lt).mono ?_;rintro e w6 ⟨⟨y6,rfl⟩,hb6,hbel6,hs6⟩;have HB6 : Hid (Bld B b (acc ++ [123] ++ o ++ [44] ++ quote key ++ [58]) w6):=Lib.hid hb6;have HBL6 : Hid (Below B w w6):=Lib.hid (HBL5.out.trans hbel6);have HS6 : Hid (Spare b w w6):=Lib.hid (HS5.out.trans hs6);have HBE6 : Hid (Below w0.heap.size w0 w6):=Lib.hid (HBEL.out.trans (HBL6.out.mono HBB.out));clear hb6 hbel6 hs6)
     | (go_at_call 37;refine (HT.out.use B b ad cp N l pre2 (r.flat ++ post) (acc ++ [123] ++ o ++ [44] ++ quote key ++ [58]) w0 _ HNL.out HL2.out hcp HL.out (by have h1:=HSZ2.out;simp only [List.length_append,List.length_cons,List.length_nil] at h1 ⊢;omega) HC.out HBB.out HBE6.out HB6.out).mono ?_;rintro e w7 ⟨rfl,hb7,hbel7,hs7⟩;have HB7 : Hid (Bld B b (acc ++ [123] ++ o ++ [44] ++ quote key ++ [58] ++ t.out false true) w7):=Lib.hid hb7;have HBL7 : Hid (Below B w w7):=Lib.hid (HBL6.out.trans hbel7);have HS7 : Hid (Spare b w w7):=Lib.hid (HS6.out.trans hs7);have HBE7 : Hid (Below w0.heap.size w0 w7):=Lib.hid (HBEL.out.trans (HBL7.out.mono HBB.out));clear hb7 hbel7 hs7))
    go_roundg r.count
    case measure => have h1:=HM.out.2.2.2.1;have h2:=HCNT.out;omega
    case rel => exact HNEXT.out _ ([44] ++ (quote key ++ [58]) ++ t.out false true) (by simp [HI.out]) (by simpa using HB7.out) ⟨HBL7.out,HS7.out⟩
end Go.Proofs.YtadfkeipcebmfaaDoor.X
namespace Go.Proofs.YtadfkeipcebmfaaDoor.X
open Go.RowKit Go.Proofs.YtadfkeipcebmfaaDoorW.PrintWords
set_option linter.unusedVariables false
set_option linter.unusedSimpArgs false
theorem many_calls2 (k : Bs) (d : Int) (hd : d = 6 ∨ d = 7) (ks : F) (hks : ∀ t ∈ ks.trees,WriteOk t) (B b : Nat) (ad : Addr) (cp N : Nat) (pre post : List Nd) (acc : Bs) (w0 w : World) (hN : N = (pre ++ (F.node k d ks .nil).flat ++ post).length) (hcp : N ≤ cp) (hlen : N ≤ 1099511627776) (hbig : acc.length + ((F.node k d ks .nil).out false true).length ≤ big)
  (hC : Kd.C kN w0 (some ad) N (pre ++ (F.node k d ks .nil).flat ++ post)) (hB : w0.heap.size ≤ B) (hbel : Below w0.heap.size w0 w) (hbld : Bld B b acc w) :
  Calls Tryd.prog 62 #[.pointer (some ⟨b,0,none⟩),.slice (some ad) N cp,.int .i64 (pre.length : Int)] w fun e w' => e = .returned (.tuple #[]) ∧ Bld B b (acc ++ (F.node k d ks .nil).out false true) w' ∧ Below B w w' ∧ Spare b w w':=by
 rcases hd with rfl|rfl
 ·have h:=many_list k ks hks B b ad cp N pre post acc w0 w hN hcp hlen (by simp [F.out] at hbig;omega) hC hB hbel hbld
  simpa [F.out] using h
 ·have h:=many_obj k ks hks B b ad cp N pre post acc w0 w hN hcp hlen (by simp [F.out] at hbig;omega) hC hB hbel hbld
  simpa [F.out] using h
set_option maxHeartbeats 4000000 in
set_option maxRecDepth 100000 in
theorem write_node (k : Bs) (d : Int) (hd : d = 6 ∨ d = 7) (ks : F) (hks : ∀ t ∈ ks.trees,WriteOk t) : WriteOk (.node k d ks .nil):=by
 intro B b A cp pre post acc w0 w hcp hlen hbig hC hB hbel hbld
 generalize hl : pre ++ (F.node k d ks .nil).flat ++ post = l at hcp hlen hC ⊢
 have hls : l = pre ++ (⟨d,((ks.flat.length + 1 : Nat) : Int),(ks.count : Nat),str k,str []⟩ : Nd) :: (ks.flat ++ post):=by rw [← hl];simp [F.flat]
 have HLS:=Lib.hid hls
 have HLL:=Lib.hid hl
 obtain ⟨ad,rfl,_⟩:=node_at (x:=⟨d,((ks.flat.length + 1 : Nat) : Int),(ks.count : Nat),str k,str []⟩) (pre:=pre) (post:=ks.flat ++ post) (by rw [← hls];exact hC) hbel
 generalize hN : l.length = N at hcp hlen hC ⊢
 have hp : pre.length < N:=by rw [← hN,hls];simp
 have HNL:=Lib.hid hN.symm
 obtain ⟨k0,k1,k2,k3,k4⟩:=node_at2 hC HNL.out hls hbel
 simp only at k0 k1 k2 k3 k4
 have p1 : (0 ≤ (pre.length : Int)) = True:=eq_true (by omega)
 have p2 : ((pre.length : Int) < (N : Int)) = True:=eq_true (by omega)
 have hfl : (F.node k d ks .nil).flat.length = ks.flat.length + 1:=by simp [F.flat]
 have hsz : pre.length + (ks.flat.length + 1) ≤ N:=by rw [← hN,hls];simp
 rw [hfl]
 obtain ⟨Z,hZ⟩ : ∃ Z : Int,Z = ((ks.flat.length + 1 : Nat) : Int):=⟨_,rfl⟩
 have HRES : Hid ((((pre.length + (ks.flat.length + 1) : Nat)) : Int) = (pre.length : Int) + Z):=Lib.hid (by omega)
 have n1 : wrap64 ((pre.length : Int) + Z) = (pre.length : Int) + Z:=by unfold wrap64;omega
 rw [← hZ] at k1
 have HW1:=Lib.hid n1
 have HBIG:=Lib.hid hbig
 have HBLD:=Lib.hid hbld
 have HL:=Lib.hid hlen
 have HC:=Lib.hid hC
 have HBB:=Lib.hid hB
 have HBE:=Lib.hid hbel
 have HKS:=Lib.hid hks
 have HD:=Lib.hid hd
 clear hbig hbld hC hbel hN hlen hl hls hfl hsz hZ n1 hks hB
 have hal:=heap_alloc_new w (.cells #[.int .i64 d,.int .i64 Z,.int .i64 (ks.count : Nat),.string (str k),.string (str [])] 46 (0,0))
 have hbw : Below w.heap.size w (w.alloc (.cells #[.int .i64 d,.int .i64 Z,.int .i64 (ks.count : Nat),.string (str k),.string (str [])] 46 (0,0))):=(Below.refl _ _).alloc (Nat.le_refl _) _
 have x0:=(blk_cell hal 0).trans (rfl : _ = some (Value.int .i64 d))
 have x1:=(blk_cell hal 1).trans (rfl : _ = some (Value.int .i64 Z))
 have HBN : Hid (Bld B b acc (w.alloc (.cells #[.int .i64 d,.int .i64 Z,.int .i64 (ks.count : Nat),.string (str k),.string (str [])] 46 (0,0)))):=Lib.hid (HBLD.out.below hbw)
 have HBW:=Lib.hid (hbw.mono HBLD.out.lt)
 have HBA:=Lib.hid hbw
 have HLT:=Lib.hid (blk_lt hal)
 have HXX:=Lib.hid hal
 have HNE : Hid (w.heap.size ≠ b):=Lib.hid (by have:=HBLD.out.blt;omega)
 clear hal hbw
 rcases hd with rfl|rfl
 all_goals
  go_enter Tryd.func37,Tryd.ntmps37
  go_wp2_with (go_at_call 62;refine (many_calls2 k _ HD.out ks HKS.out B b ad cp N pre post acc w0 _ (by rw [HLL.out];exact HNL.out) hcp HL.out HBIG.out (by rw [HLL.out];exact HC.out) HBB.out (HBE.out.trans (HBW.out.mono HBB.out)) HBN.out).mono ?_;rintro e w3 ⟨rfl,hb3,hbel3,hs3⟩;have HB3:=Lib.hid hb3;have HBEL3:=Lib.hid hbel3;have HS3:=Lib.hid hs3;have y1 : w3.cell? ⟨w.heap.size,1,none⟩ = some (.int .i64 Z):=(blk_cell (hs3 _ _ _ HXX.out (by decide) HNE.out) 1).trans rfl;clear hb3 hbel3 hs3)
  go_ret
  rw [HRES.out,HW1.out]
  exact ⟨rfl,HB3.out,HBW.out.trans HBEL3.out,(Spare.of_below (HBA.out)).trans HS3.out⟩
def F.kinds : F → Bool
 | .nil => true
 | .leaf _ d _ r => decide (1 ≤ d) && decide (d ≤ 5) && r.kinds
 | .node _ d ks r => (d == 6 || d == 7) && ks.kinds && r.kinds
theorem write_all : ∀ f : F,f.kinds = true → ∀ t ∈ f.trees,WriteOk t
 | .nil,_,t,ht => by simp [F.trees] at ht
 | .leaf k d t r,h,u,hu => by
  simp only [F.kinds,Bool.and_eq_true,decide_eq_true_eq] at h
  simp only [F.trees,List.mem_cons] at hu
  rcases hu with rfl|hu
  ·exact write_leaf k d t h.1 
  ·exact write_all r h.2 u hu
 | .node k d ks r,h,u,hu => by
  simp only [F.kinds,Bool.and_eq_true,Bool.or_eq_true,beq_iff_eq] at h
  simp only [F.trees,List.mem_cons] at hu
  rcases hu with rfl|hu
  ·exact write_node k d h.1.1 ks (write_all ks h.1.2)
  ·exact write_all r h.2 u hu
end Go.Proofs.YtadfkeipcebmfaaDoor.X
namespace Go.Proofs.YtadfkeipcebmfaaDoor.X
open Go.RowKit Go.Proofs.YtadfkeipcebmfaaDoorW.PrintWords
set_option linter.unusedVariables false
set_option linter.unusedSimpArgs false
def isNum (t : Bs) : Bool:=match num t with
 | .ok [] _ => true
 | _ => false
def okN (x : Nd) (keyed : Bool) : Bool :=
 decide (1 ≤ x.f0) && decide (x.f0 ≤ 7) && decide (0 ≤ x.f2) && (decide (x.f2 ≤ 0) || decide (6 ≤ x.f0)) && (x.f3.data.toList.isEmpty || keyed) && Lib.validD x.f3.data.toList &&
 (if x.f0 = 4 then decide (x.f4.size ≤ 65536) && isNum x.f4.data.toList else if x.f0 = 5 then Lib.validD x.f4.data.toList else x.f4.data.toList.isEmpty)
def kids (one : List Nd → Option (F × List Nd)) : Nat → List Nd → Option (F × List Nd)
 | 0,l => some (.nil,l)
 | n + 1,l => match one l with
  | none => none
  | some (t,r) => match kids one n r with
   | none => none
   | some (f,r') => some (t.app f,r')
def dec : Nat → Bool → List Nd → Option (F × List Nd)
 | 0,_,_ => none
 | d + 1,keyed,l => match l with
  | [] => none
  | x :: r => if okN x keyed then match kids (dec d (x.f0 == 7)) x.f2.toNat r with
    | none => none
    | some (ks,r') => if x.f1 = ((r.length - r'.length + 1 : Nat) : Int) then some (if x.f0 < 6 then .leaf x.f3.data.toList x.f0 x.f4.data.toList .nil else .node x.f3.data.toList x.f0 ks .nil,r') else none
   else none
def tree? (l : List Nd) : Option F:=match dec 32 false l with
 | some (t,[]) => some t
 | _ => none
def F.one : F → Prop
 | .leaf _ _ _ .nil => True
 | .node _ _ _ .nil => True
 | _ => False
theorem F.one_count {t : F} (h : t.one) : t.count = 1:=by
 match t,h with
 | .leaf _ _ _ .nil,_ => rfl
 | .node _ _ _ .nil,_ => rfl
theorem str_back (s : ByteArray) : str s.data.toList = s:=by
 cases s
 rfl
def DecOk (one : List Nd → Option (F × List Nd)) : Prop:=∀ l t r,one l = some (t,r) → l = t.flat ++ r ∧ t.one ∧ t.kinds = true
theorem kinds_app : ∀ f g : F,(f.app g).kinds = (f.kinds && g.kinds)
 | .nil,g => by simp [F.app,F.kinds]
 | .leaf k d t r,g => by simp [F.app,F.kinds,kinds_app r g,Bool.and_assoc]
 | .node k d ks r,g => by simp [F.app,F.kinds,kinds_app r g,Bool.and_assoc]
theorem kids_ok {one : List Nd → Option (F × List Nd)} (h : DecOk one) : ∀ (n : Nat) (l : List Nd) (f : F) (r : List Nd),kids one n l = some (f,r) → l = f.flat ++ r ∧ f.count = n ∧ f.kinds = true
 | 0,l,f,r,e => by
  simp only [kids,Option.some.injEq,Prod.mk.injEq] at e
  obtain ⟨rfl,rfl⟩:=e
  exact ⟨rfl,rfl,rfl⟩
 | n + 1,l,f,r,e => by
  simp only [kids] at e
  split at e
  ·cases e
  ·rename_i t r1 h1
   split at e
   ·cases e
   ·rename_i f2 r2 h2
    simp only [Option.some.injEq,Prod.mk.injEq] at e
    obtain ⟨rfl,rfl⟩:=e
    obtain ⟨e1,e2,e3⟩:=h _ _ _ h1
    obtain ⟨e4,e5,e6⟩:=kids_ok h n _ _ _ h2
    refine ⟨?_,?_,?_⟩
    ·rw [F.flat_app,e1,e4,List.append_assoc]
    ·rw [F.count_app,F.one_count e2,e5]
     omega
    ·rw [kinds_app,e3,e6]
     rfl
theorem dec_ok : ∀ (d : Nat) (keyed : Bool),DecOk (dec d keyed)
 | 0,keyed,l,t,r,e => by cases e
 | d + 1,keyed,l,t,r,e => by
  simp only [dec] at e
  split at e
  ·cases e
  ·rename_i x r0
   split at e
   ·rename_i hok
    split at e
    ·cases e
    ·rename_i ks r' hk
     split at e
     ·rename_i hs
      simp only [Option.some.injEq,Prod.mk.injEq] at e
      obtain ⟨e1,rfl⟩:=e
      obtain ⟨k1,k2,k3⟩:=kids_ok (dec_ok d (x.f0 == 7)) _ _ _ _ hk
      simp only [okN,Bool.and_eq_true,decide_eq_true_eq,Bool.or_eq_true] at hok
      obtain ⟨⟨⟨⟨⟨⟨o1,o2⟩,o3⟩,o4⟩,o5⟩,o6⟩,o7⟩:=hok
      obtain ⟨f0,f1,f2,f3,f4⟩:=x
      simp only at *
      split at e1
      ·rename_i h6
       subst e1
       have hn : f2 = 0:=by omega
       subst hn
       have : ks = .nil:=by
        simp only [Int.toNat_zero,kids,Option.some.injEq,Prod.mk.injEq] at hk
        exact hk.1.symm
       subst this
       have hr : r0 = r':=by simpa [F.flat] using k1
       subst hr
       refine ⟨?_,trivial,?_⟩
       ·simp only [F.flat,str_back,List.nil_append,List.cons_append,List.cons.injEq,and_true]
        rw [hs]
        simp
       ·simp only [F.kinds,Bool.and_true,Bool.and_eq_true,decide_eq_true_eq]
        omega
      ·rename_i h6
       subst e1
       have hnil : f4.data.toList = []:=by
        rw [if_neg (by omega),if_neg (by omega)] at o7
        simpa using o7
       have hf4 : f4 = str []:=by rw [← hnil,str_back]
       refine ⟨?_,trivial,?_⟩
       ·simp only [F.flat,str_back,List.append_nil,List.cons_append,List.cons.injEq]
        refine ⟨?_,k1⟩
        rw [hs,k1,k2,hf4]
        simp only [List.length_append]
        congr 1
        ·omega
        ·omega
       ·simp only [F.kinds,Bool.and_true,Bool.and_eq_true,Bool.or_eq_true,beq_iff_eq]
        exact ⟨by omega,k3⟩
     ·cases e
   ·cases e
theorem tree_flat {l : List Nd} {t : F} (h : tree? l = some t) : l = t.flat ∧ t.one ∧ t.kinds = true:=by
 unfold tree? at h
 split at h
 ·rename_i t' h1
  injection h with h
  subst h
  obtain ⟨a,b,c⟩:=dec_ok 32 false _ _ _ h1
  exact ⟨by simpa using a,b,c⟩
 ·cases h
theorem one_pos {t : F} (h : t.one) : 1 ≤ t.flat.length:=by
 match t,h with
 | .leaf _ _ _ .nil,_ => simp [F.flat]
 | .node _ _ _ .nil,_ => simp [F.flat]
end Go.Proofs.YtadfkeipcebmfaaDoor.X
namespace Go.Proofs.YtadfkeipcebmfaaDoor.X
open Go.RowKit Go.Proofs.YtadfkeipcebmfaaDoorW.PrintWords Go.Proofs.YtadfkeipcebmfaaDoorW.PrintLast Go.Proofs.YtadfkeipcebmfaaDoorW.PrintMore
attribute [local go_sem] max2_int min2_int max_two min_two max_three min_three max_four min_four
set_option linter.unusedVariables false
set_option linter.unusedSimpArgs false
def jsontext_number.f (a0 : ByteArray) : Option (Bool):=if a0.toList = ([] : List UInt8) then (some false) else (if 0 < (a0.size : Int) then ((strings_IndexByte.f (⟨#[45,48,49,50,51,52,53,54,55,56,57]⟩ : ByteArray) (bt a0 0)).bind fun t143 => (if t143 < 0 then (some false) else ((jsontext_Parse.f a0).bind fun bt144 => (if bt144.2.2 = 0 then (if 0 < (bt144.1.length : Int) then (if ((rd_T46 bt144.1 0).f0) = 4 then (some (((rd_T46 bt144.1 0).f4).toList == a0.toList)) else (some false)) else (none)) else (some false))))) else (none))
set_option maxHeartbeats 8000000 in
set_option maxRecDepth 100000 in
theorem jsontext_number.calls (a0 : ByteArray) (r : Bool) (w : World) (hGU8 : GlobU8 w) (h : jsontext_number.f a0 = some r) :
  Calls Tryd.prog 74 #[.string a0] w fun e w' => e = .returned (.bool r) ∧ Below w.heap.size w w':=by
 have HGU8:=Aside0.mk hGU8
 clear hGU8
 have HB:=Aside0.mk (Below.refl w.heap.size w)
 have H : (if a0.toList = ([] : List UInt8) then (some false) else (if 0 < (a0.size : Int) then ((strings_IndexByte.f (⟨#[45,48,49,50,51,52,53,54,55,56,57]⟩ : ByteArray) (bt a0 0)).bind fun t143 => (if t143 < 0 then (some false) else ((jsontext_Parse.f a0).bind fun bt144 => (if bt144.2.2 = 0 then (if 0 < (bt144.1.length : Int) then (if ((rd_T46 bt144.1 0).f0) = 4 then (some (((rd_T46 bt144.1 0).f4).toList == a0.toList)) else (some false)) else (none)) else (some false))))) else (none))) = some r:=h
 clear h
 by_cases c2 : a0.toList = ([] : List UInt8)
 ·rw [if_pos c2] at H
  have c2b0 : (a0.toList == ([] : List UInt8)) = true:=beq_iff_eq.mpr c2
  have c2b1 : (a0.toList != ([] : List UInt8)) = false:=bne_eq_false_iff_eq.mpr c2
  clear c2
  obtain rfl:=Option.some.inj H
  go_enter Tryd.func74,Tryd.ntmps74
  go_wp2
  go_ret
  exact ⟨by first|rfl|(simp [errW_none,errW_some] <;> rfl)|(simp [*,errW_none,errW_some] <;> rfl),by repeat (first|(with_reducible first|exact HB.out|apply below_alloc|apply pw_below_drewN|apply below_drew1)|exact HB.out)⟩
 ·rw [if_neg c2] at H
  have c2b0 : (a0.toList == ([] : List UInt8)) = false:=beq_eq_false_iff_ne.mpr c2
  have c2b1 : (a0.toList != ([] : List UInt8)) = true:=bne_iff_ne.mpr c2
  by_cases c3 : 0 < (a0.size : Int)
  ·rw [if_pos c3] at H
   have c3b0 : decide (0 < (a0.size : Int)) = true:=decide_eq_true c3
   have c3b1 : decide (0 < a0.size) = true:=decide_eq_true (by omega)
   clear c3
   replace H:=Option.bind_eq_some_iff.mp H
   obtain ⟨t143,A50,H⟩:=H
   replace H : (if t143 < 0 then (some false) else ((jsontext_Parse.f a0).bind fun bt144 => (if bt144.2.2 = 0 then (if 0 < (bt144.1.length : Int) then (if ((rd_T46 bt144.1 0).f0) = 4 then (some (((rd_T46 bt144.1 0).f4).toList == a0.toList)) else (some false)) else (none)) else (some false)))) = some r:=H
   have A5:=Aside0.mk A50
   clear A50
   by_cases c6 : t143 < 0
   ·rw [if_pos c6] at H
    have c6b0 : decide (t143 < 0) = true:=decide_eq_true c6
    clear c6
    obtain rfl:=Option.some.inj H
    have p4 : 0 ≤ (0 : Int):=(by omega)
    have q4 : 0 < a0.size:=(by have : (0 : Int) < (a0.size : Int):=of_decide_eq_true (by first|(with_reducible assumption)|assumption);omega)
    have hx4 : ∀ h : 0 < a0.size,((a0[0]'h).toNat : Int) = bt a0 0:=bt_at a0 0
    clear p4
    have qi4 : (0 < (a0.size : Int)) = True:=eq_true (of_decide_eq_true (by first|(with_reducible assumption)|assumption))
    replace q4:=eq_true q4
    go_enter Tryd.func74,Tryd.ntmps74
    go_wp2_with (first|(go_at_call 45;(with_reducible refine (strings_IndexByte.calls (⟨#[45,48,49,50,51,52,53,54,55,56,57]⟩ : ByteArray) (bt a0 0) t143 _ A5.out).mono ?_);rintro e w' ⟨rfl,⟨nd,rfl⟩⟩))
    go_ret
    exact ⟨by first|rfl|(simp [errW_none,errW_some] <;> rfl)|(simp [*,errW_none,errW_some] <;> rfl),by repeat (first|(with_reducible first|exact HB.out|apply below_alloc|apply pw_below_drewN|apply below_drew1)|exact HB.out)⟩
   ·rw [if_neg c6] at H
    have c6b0 : decide (t143 < 0) = false:=decide_eq_false c6
    clear c6
    replace H:=Option.bind_eq_some_iff.mp H
    obtain ⟨⟨t144,t145,t146⟩,A70,H⟩:=H
    replace H : (if t146 = 0 then (if 0 < (t144.length : Int) then (if ((rd_T46 t144 0).f0) = 4 then (some (((rd_T46 t144 0).f4).toList == a0.toList)) else (some false)) else (none)) else (some false)) = some r:=H
    have A7:=Aside0.mk A70
    clear A70
    by_cases c8 : t146 = 0
    ·rw [if_pos c8] at H
     have c8b0 : (t146 == 0) = true:=beq_iff_eq.mpr c8
     have c8b1 : (t146 != 0) = false:=bne_eq_false_iff_eq.mpr c8
     clear c8
     by_cases c9 : 0 < (t144.length : Int)
     ·rw [if_pos c9] at H
      have c9b0 : decide (0 < (t144.length : Int)) = true:=decide_eq_true c9
      have c9b1 : decide (0 < t144.length) = true:=decide_eq_true (by omega)
      clear c9
      by_cases c10 : ((rd_T46 t144 0).f0) = 4
      ·rw [if_pos c10] at H
       have c10b0 : (((rd_T46 t144 0).f0) == 4) = true:=beq_iff_eq.mpr c10
       have c10b1 : (((rd_T46 t144 0).f0) != 4) = false:=bne_eq_false_iff_eq.mpr c10
       clear c10
       obtain rfl:=Option.some.inj H
       have p4 : 0 ≤ (0 : Int):=(by omega)
       have q4 : 0 < a0.size:=(by have : (0 : Int) < (a0.size : Int):=of_decide_eq_true (by first|(with_reducible assumption)|assumption);omega)
       have hx4 : ∀ h : 0 < a0.size,((a0[0]'h).toNat : Int) = bt a0 0:=bt_at a0 0
       clear p4
       have qi4 : (0 < (a0.size : Int)) = True:=eq_true (of_decide_eq_true (by first|(with_reducible assumption)|assumption))
       replace q4:=eq_true q4
       go_enter Tryd.func74,Tryd.ntmps74
       go_wp2_with (first|(go_at_call 45;(with_reducible refine (strings_IndexByte.calls (⟨#[45,48,49,50,51,52,53,54,55,56,57]⟩ : ByteArray) (bt a0 0) t143 _ A5.out).mono ?_);rintro e w' ⟨rfl,⟨nd,rfl⟩⟩)|((with_reducible refine gate_callee (f:=10) rfl ?_);refine goesL_ (some 16) rfl rfl Tryd.func10 (by kernel_rfl) rfl #[.string a0] rfl (by (try simp only [List.map_toArray,List.map_cons,List.map_nil]);first|done|rfl|(simp only [List.length_drop,List.length_take];rfl)) ?_;(with_reducible refine (jsontext_Parse.calls a0 t144 t145 t146 _ ?side1 A7.out).mono ?_);(case side1 => first|exact HGU8.out|exact GlobU8.below HGU8.out (by repeat (first|(with_reducible first|exact HB.out|apply below_alloc|apply pw_below_drewN|apply below_drew1)|exact HB.out))|exact GlobU8.drawn HGU8.out (by repeat (first|exact Drawn0.refl _|apply Drawn0.step)));rintro e w11 ⟨v147,rfl,ho0,hb⟩;refine ⟨_,rfl,?_⟩;have n0_:=Aside0.mk (Kd.R_lower ho0 (below_size (by repeat (first|(with_reducible first|exact HB.out|apply below_alloc|apply pw_below_drewN|apply below_drew1)|exact HB.out))));have n1_:=Aside0.mk (below_step (by repeat (first|(with_reducible first|exact HB.out|apply below_alloc|apply pw_below_drewN|apply below_drew1)|exact HB.out)) hb);clear HB;have HO148:=n0_;have HB:=n1_;clear n0_ n1_;(try clear hb);(try clear hb2);(try clear hk);(try clear hi);(try clear ho0);obtain ⟨Ao12,co12,eo12⟩:=Kd.R_slice HO148.out;subst eo12;have p149 : 0 ≤ (0 : Int):=(by omega);have q149 : 0 < (t144.length : Int):=of_decide_eq_true (by first|(with_reducible assumption)|assumption);obtain ⟨ad149,e149,hx149_0,hx149_1,hx149_2,hx149_3,hx149_4⟩:=at_T46 (Kd.R_reads' HO148.out).2.2 0 p149 q149;cases e149;have qi149 : (0 < t144.length) = True:=eq_true (by omega);(try rw [show ((0 : Int)).toNat = 0 from rfl] at hx149_0);(try rw [show 0 * 5 = 0 from rfl] at hx149_0);(try rw [Addr.add_zero'] at hx149_0);(try rw [show ((0 : Int)).toNat = 0 from rfl] at hx149_1);(try rw [show 0 * 5 = 0 from rfl] at hx149_1);(try rw [Addr.add_zero'] at hx149_1);(try rw [show ((0 : Int)).toNat = 0 from rfl] at hx149_2);(try rw [show 0 * 5 = 0 from rfl] at hx149_2);(try rw [Addr.add_zero'] at hx149_2);(try rw [show ((0 : Int)).toNat = 0 from rfl] at hx149_3);(try rw [show 0 * 5 = 0 from rfl] at hx149_3);(try rw [Addr.add_zero'] at hx149_3);(try rw [show ((0 : Int)).toNat = 0 from rfl] at hx149_4);(try rw [show 0 * 5 = 0 from rfl] at hx149_4);(try rw [Addr.add_zero'] at hx149_4);replace p149:=eq_true p149;replace q149:=eq_true q149;have p150 : 0 ≤ (0 : Int):=(by omega);have q150 : 0 < (t144.length : Int):=of_decide_eq_true (by first|(with_reducible assumption)|assumption);obtain ⟨ad150,e150,hx150_0,hx150_1,hx150_2,hx150_3,hx150_4⟩:=at_T46 (Kd.R_reads' HO148.out).2.2 0 p150 q150;obtain rfl : ad149 = ad150:=(by injection e150);have qi150 : (0 < t144.length) = True:=eq_true (by omega);(try rw [show ((0 : Int)).toNat = 0 from rfl] at hx150_0);(try rw [show 0 * 5 = 0 from rfl] at hx150_0);(try rw [Addr.add_zero'] at hx150_0);(try rw [show ((0 : Int)).toNat = 0 from rfl] at hx150_1);(try rw [show 0 * 5 = 0 from rfl] at hx150_1);(try rw [Addr.add_zero'] at hx150_1);(try rw [show ((0 : Int)).toNat = 0 from rfl] at hx150_2);(try rw [show 0 * 5 = 0 from rfl] at hx150_2);(try rw [Addr.add_zero'] at hx150_2);(try rw [show ((0 : Int)).toNat = 0 from rfl] at hx150_3);(try rw [show 0 * 5 = 0 from rfl] at hx150_3);(try rw [Addr.add_zero'] at hx150_3);(try rw [show ((0 : Int)).toNat = 0 from rfl] at hx150_4);(try rw [show 0 * 5 = 0 from rfl] at hx150_4);(try rw [Addr.add_zero'] at hx150_4);replace p150:=eq_true p150;replace q150:=eq_true q150))
       go_ret
       exact ⟨by first|rfl|(simp [errW_none,errW_some] <;> rfl)|(simp [*,errW_none,errW_some] <;> rfl),by repeat (first|(with_reducible first|exact HB.out|apply below_alloc|apply pw_below_drewN|apply below_drew1)|exact HB.out)⟩
      ·rw [if_neg c10] at H
       have c10b0 : (((rd_T46 t144 0).f0) == 4) = false:=beq_eq_false_iff_ne.mpr c10
       have c10b1 : (((rd_T46 t144 0).f0) != 4) = true:=bne_iff_ne.mpr c10
       obtain rfl:=Option.some.inj H
       have p4 : 0 ≤ (0 : Int):=(by omega)
       have q4 : 0 < a0.size:=(by have : (0 : Int) < (a0.size : Int):=of_decide_eq_true (by first|(with_reducible assumption)|assumption);omega)
       have hx4 : ∀ h : 0 < a0.size,((a0[0]'h).toNat : Int) = bt a0 0:=bt_at a0 0
       clear p4
       have qi4 : (0 < (a0.size : Int)) = True:=eq_true (of_decide_eq_true (by first|(with_reducible assumption)|assumption))
       replace q4:=eq_true q4
       go_enter Tryd.func74,Tryd.ntmps74
       go_wp2_with (first|(go_at_call 45;(with_reducible refine (strings_IndexByte.calls (⟨#[45,48,49,50,51,52,53,54,55,56,57]⟩ : ByteArray) (bt a0 0) t143 _ A5.out).mono ?_);rintro e w' ⟨rfl,⟨nd,rfl⟩⟩)|((with_reducible refine gate_callee (f:=10) rfl ?_);refine goesL_ (some 16) rfl rfl Tryd.func10 (by kernel_rfl) rfl #[.string a0] rfl (by (try simp only [List.map_toArray,List.map_cons,List.map_nil]);first|done|rfl|(simp only [List.length_drop,List.length_take];rfl)) ?_;(with_reducible refine (jsontext_Parse.calls a0 t144 t145 t146 _ ?side1 A7.out).mono ?_);(case side1 => first|exact HGU8.out|exact GlobU8.below HGU8.out (by repeat (first|(with_reducible first|exact HB.out|apply below_alloc|apply pw_below_drewN|apply below_drew1)|exact HB.out))|exact GlobU8.drawn HGU8.out (by repeat (first|exact Drawn0.refl _|apply Drawn0.step)));rintro e w13 ⟨v147,rfl,ho0,hb⟩;refine ⟨_,rfl,?_⟩;have n0_:=Aside0.mk (Kd.R_lower ho0 (below_size (by repeat (first|(with_reducible first|exact HB.out|apply below_alloc|apply pw_below_drewN|apply below_drew1)|exact HB.out))));have n1_:=Aside0.mk (below_step (by repeat (first|(with_reducible first|exact HB.out|apply below_alloc|apply pw_below_drewN|apply below_drew1)|exact HB.out)) hb);clear HB;have HO148:=n0_;have HB:=n1_;clear n0_ n1_;(try clear hb);(try clear hb2);(try clear hk);(try clear hi);(try clear ho0);obtain ⟨Ao14,co14,eo14⟩:=Kd.R_slice HO148.out;subst eo14;have p149 : 0 ≤ (0 : Int):=(by omega);have q149 : 0 < (t144.length : Int):=of_decide_eq_true (by first|(with_reducible assumption)|assumption);obtain ⟨ad149,e149,hx149_0,hx149_1,hx149_2,hx149_3,hx149_4⟩:=at_T46 (Kd.R_reads' HO148.out).2.2 0 p149 q149;cases e149;have qi149 : (0 < t144.length) = True:=eq_true (by omega);(try rw [show ((0 : Int)).toNat = 0 from rfl] at hx149_0);(try rw [show 0 * 5 = 0 from rfl] at hx149_0);(try rw [Addr.add_zero'] at hx149_0);(try rw [show ((0 : Int)).toNat = 0 from rfl] at hx149_1);(try rw [show 0 * 5 = 0 from rfl] at hx149_1);(try rw [Addr.add_zero'] at hx149_1);(try rw [show ((0 : Int)).toNat = 0 from rfl] at hx149_2);(try rw [show 0 * 5 = 0 from rfl] at hx149_2);(try rw [Addr.add_zero'] at hx149_2);(try rw [show ((0 : Int)).toNat = 0 from rfl] at hx149_3);(try rw [show 0 * 5 = 0 from rfl] at hx149_3);(try rw [Addr.add_zero'] at hx149_3);(try rw [show ((0 : Int)).toNat = 0 from rfl] at hx149_4);(try rw [show 0 * 5 = 0 from rfl] at hx149_4);(try rw [Addr.add_zero'] at hx149_4);replace p149:=eq_true p149;replace q149:=eq_true q149))
       go_ret
       exact ⟨by first|rfl|(simp [errW_none,errW_some] <;> rfl)|(simp [*,errW_none,errW_some] <;> rfl),by repeat (first|(with_reducible first|exact HB.out|apply below_alloc|apply pw_below_drewN|apply below_drew1)|exact HB.out)⟩
     ·rw [if_neg c9] at H
      exact absurd H (by simp)
    ·rw [if_neg c8] at H
     have c8b0 : (t146 == 0) = false:=beq_eq_false_iff_ne.mpr c8
     have c8b1 : (t146 != 0) = true:=bne_iff_ne.mpr c8
     obtain rfl:=Option.some.inj H
     have p4 : 0 ≤ (0 : Int):=(by omega)
     have q4 : 0 < a0.size:=(by have : (0 : Int) < (a0.size : Int):=of_decide_eq_true (by first|(with_reducible assumption)|assumption);omega)
     have hx4 : ∀ h : 0 < a0.size,((a0[0]'h).toNat : Int) = bt a0 0:=bt_at a0 0
     clear p4
     have qi4 : (0 < (a0.size : Int)) = True:=eq_true (of_decide_eq_true (by first|(with_reducible assumption)|assumption))
     replace q4:=eq_true q4
     go_enter Tryd.func74,Tryd.ntmps74
     go_wp2_with (first|(go_at_call 45;(with_reducible refine (strings_IndexByte.calls (⟨#[45,48,49,50,51,52,53,54,55,56,57]⟩ : ByteArray) (bt a0 0) t143 _ A5.out).mono ?_);rintro e w' ⟨rfl,⟨nd,rfl⟩⟩)|((with_reducible refine gate_callee (f:=10) rfl ?_);refine goesL_ (some 16) rfl rfl Tryd.func10 (by kernel_rfl) rfl #[.string a0] rfl (by (try simp only [List.map_toArray,List.map_cons,List.map_nil]);first|done|rfl|(simp only [List.length_drop,List.length_take];rfl)) ?_;(with_reducible refine (jsontext_Parse.calls a0 t144 t145 t146 _ ?side1 A7.out).mono ?_);(case side1 => first|exact HGU8.out|exact GlobU8.below HGU8.out (by repeat (first|(with_reducible first|exact HB.out|apply below_alloc|apply pw_below_drewN|apply below_drew1)|exact HB.out))|exact GlobU8.drawn HGU8.out (by repeat (first|exact Drawn0.refl _|apply Drawn0.step)));rintro e w15 ⟨v147,rfl,ho0,hb⟩;refine ⟨_,rfl,?_⟩;have n0_:=Aside0.mk (Kd.R_lower ho0 (below_size (by repeat (first|(with_reducible first|exact HB.out|apply below_alloc|apply pw_below_drewN|apply below_drew1)|exact HB.out))));have n1_:=Aside0.mk (below_step (by repeat (first|(with_reducible first|exact HB.out|apply below_alloc|apply pw_below_drewN|apply below_drew1)|exact HB.out)) hb);clear HB;have HO148:=n0_;have HB:=n1_;clear n0_ n1_;(try clear hb);(try clear hb2);(try clear hk);(try clear hi);(try clear ho0)))
     go_ret
     exact ⟨by first|rfl|(simp [errW_none,errW_some] <;> rfl)|(simp [*,errW_none,errW_some] <;> rfl),by repeat (first|(with_reducible first|exact HB.out|apply below_alloc|apply pw_below_drewN|apply below_drew1)|exact HB.out)⟩
  ·rw [if_neg c3] at H
   exact absurd H (by simp)
end Go.Proofs.YtadfkeipcebmfaaDoor.X
namespace Go.Proofs.YtadfkeipcebmfaaDoor.X
open Go.RowKit Go.Proofs.YtadfkeipcebmfaaDoorW.PrintWords Go.Proofs.YtadfkeipcebmfaaDoorW.PrintLast Go.Proofs.YtadfkeipcebmfaaDoorW.PrintMore
attribute [local go_sem] max2_int min2_int max_two min_two max_three min_three max_four min_four
set_option linter.unusedVariables false
set_option linter.unusedSimpArgs false
mutual
def jsontext_wrong.j0 : Nat → Bool → Bool → Int → Int → Int → ByteArray → ByteArray → Option (Bool)
 | 0,_,_,_,_,_,_,_ => none
 | k + 1,x1,x7,x152000,x152001,x152002,x152003,x152004 => if x7 = true then (some true) else (if x152002 > 0 then (jsontext_wrong.j1 k x1 (decide (x152000 < 6)) x152000 x152001 x152002 x152003 x152004) else (jsontext_wrong.j1 k x1 false x152000 x152001 x152002 x152003 x152004))
def jsontext_wrong.j1 : Nat → Bool → Bool → Int → Int → Int → ByteArray → ByteArray → Option (Bool)
 | 0,_,_,_,_,_,_,_ => none
 | k + 1,x1,x30,x152000,x152001,x152002,x152003,x152004 => if x30 = true then (jsontext_wrong.j2 k x30 x152000 x152001 x152002 x152003 x152004) else (if x152003.toList = ([] : List UInt8) then ((utf8_ValidString.f x152003).bind fun t152 => (jsontext_wrong.j2 k (!t152) x152000 x152001 x152002 x152003 x152004)) else (if x1 = true then ((utf8_ValidString.f x152003).bind fun t153 => (jsontext_wrong.j2 k (!t153) x152000 x152001 x152002 x152003 x152004)) else (jsontext_wrong.j2 k (!x1) x152000 x152001 x152002 x152003 x152004)))
def jsontext_wrong.j2 : Nat → Bool → Int → Int → Int → ByteArray → ByteArray → Option (Bool)
 | 0,_,_,_,_,_,_ => none
 | k + 1,x30,x152000,x152001,x152002,x152003,x152004 => if x30 = true then (some true) else (if x152000 = 4 then (if (x152004.size : Int) > 65536 then (some true) else ((jsontext_number.f x152004).bind fun t154 => (some (!t154)))) else (if x152000 = 5 then ((utf8_ValidString.f x152004).bind fun t155 => (some (!t155))) else (some (x152004.toList != ([] : List UInt8)))))
end
def jsontext_wrong.f (k : Nat) (a0_0 : Int) (a0_1 : Int) (a0_2 : Int) (a0_3 : ByteArray) (a0_4 : ByteArray) (a1 : Bool) (a2 : Int) : Option (Bool):=if a0_0 < 1 then (jsontext_wrong.j0 k a1 true a0_0 a0_1 a0_2 a0_3 a0_4) else (if a0_0 > 7 then (jsontext_wrong.j0 k a1 true a0_0 a0_1 a0_2 a0_3 a0_4) else (if a0_1 < 1 then (jsontext_wrong.j0 k a1 true a0_0 a0_1 a0_2 a0_3 a0_4) else (if a0_2 < 0 then (jsontext_wrong.j0 k a1 true a0_0 a0_1 a0_2 a0_3 a0_4) else (jsontext_wrong.j0 k a1 (decide (a2 ≥ 32)) a0_0 a0_1 a0_2 a0_3 a0_4))))
set_option maxHeartbeats 8000000 in
set_option maxRecDepth 100000 in
theorem jsontext_wrong.calls (k : Nat) (a0_0 : Int) (a0_1 : Int) (a0_2 : Int) (a0_3 : ByteArray) (a0_4 : ByteArray) (a1 : Bool) (a2 : Int) (r : Bool) (w : World) (hGU8 : GlobU8 w) (h : jsontext_wrong.f k a0_0 a0_1 a0_2 a0_3 a0_4 a1 a2 = some r) :
  Calls Tryd.prog 63 #[.agg #[.int .i64 a0_0,.int .i64 a0_1,.int .i64 a0_2,.string a0_3,.string a0_4],.bool a1,.int .i64 a2] w fun e w' => e = .returned (.bool r) ∧ Below w.heap.size w w':=by
 have hu46:=Tryd.underlying46
 have HGU8:=Aside0.mk hGU8
 clear hGU8
 have HB:=Aside0.mk (Below.refl w.heap.size w)
 have H : (if a0_0 < 1 then (jsontext_wrong.j0 k a1 true a0_0 a0_1 a0_2 a0_3 a0_4) else (if a0_0 > 7 then (jsontext_wrong.j0 k a1 true a0_0 a0_1 a0_2 a0_3 a0_4) else (if a0_1 < 1 then (jsontext_wrong.j0 k a1 true a0_0 a0_1 a0_2 a0_3 a0_4) else (if a0_2 < 0 then (jsontext_wrong.j0 k a1 true a0_0 a0_1 a0_2 a0_3 a0_4) else (jsontext_wrong.j0 k a1 (decide (a2 ≥ 32)) a0_0 a0_1 a0_2 a0_3 a0_4))))) = some r:=h
 clear h
 have HC4:=Aside0.mk H
 clear H
 go_enter Tryd.func63,Tryd.ntmps63
 go_upto_region 1 with (first|((with_reducible refine gate_dst (N:=3) rfl ?_);refine box_event ?hg (N:=3) ?hd (cs:=#[.int .i64 a0_0,.int .i64 a0_1,.int .i64 a0_2,.string a0_3,.string a0_4]) (t:=46) ?hr ?_;(case hd => rfl);(case hg => rfl);(case hr => first|(go_simp;done)|(go_simp;rfl));intro gb151 hg w5 hbox hb;have n0_:=Aside0.mk (below_step (by repeat (first|(with_reducible first|exact HB.out|apply below_alloc|apply pw_below_drewN|apply below_drew1)|exact HB.out)) hb);have n1_:=Aside0.mk (hbox);have n2_:=Aside0.mk ((by rw [hg];exact (below_size (by repeat (first|(with_reducible first|exact HB.out|apply below_alloc|apply pw_below_drewN|apply below_drew1)|exact HB.out))) : w.heap.size ≤ gb151));have n3_:=Aside0.mk ((by rw [hg];exact (below_size (by repeat (first|(with_reducible first|exact HB.out|apply below_alloc|apply pw_below_drewN|apply below_drew1)|exact HB.out))) : w.heap.size ≤ gb151));clear HB;have HB:=n0_;have BK151:=n1_;have GW151:=n2_;have GE151:=n3_;clear n0_ n1_ n2_ n3_;clear hb hbox hg))
 (try simp only [Act.put,List.setIfInBounds_toArray,List.set_cons_zero,List.set_cons_succ])
 go_cut [7] (fun v7 wc => ∃ (kq : Nat) (x7_3 : Bool),v7 = .bool x7_3 ∧ Aside0 (jsontext_wrong.j0 kq a1 x7_3 a0_0 a0_1 a0_2 a0_3 a0_4 = some r) ∧ Aside0 (kq ≤ k) ∧ Aside0 (wc.heap[gb151]? = some (.cells #[.int .i64 a0_0,.int .i64 a0_1,.int .i64 a0_2,.string a0_3,.string a0_4] 46 (0,0))) ∧ Aside0 (Below w.heap.size w wc))
 case first =>
  have H:=HC4.out
  clear HC4
  by_cases c6 : a0_0 < 1
  ·rw [if_pos c6] at H
   have c6b0 : decide (a0_0 < 1) = true:=decide_eq_true c6
   clear c6
   (first|rw [c6b0]|(simp only [i64_w,i32_w];rw [c6b0])|skip)
   have H':=Aside0.mk H
   clear H
   have hcz7_0 : w5.cell? ⟨gb151,0,none⟩ = some (.int .i64 a0_0):=(blk_cell BK151.out 0).trans rfl
   have hcz7_1 : w5.cell? ⟨gb151,1,none⟩ = some (.int .i64 a0_1):=(blk_cell BK151.out 1).trans rfl
   have hcz7_2 : w5.cell? ⟨gb151,2,none⟩ = some (.int .i64 a0_2):=(blk_cell BK151.out 2).trans rfl
   have hcz7_3 : w5.cell? ⟨gb151,3,none⟩ = some (.string a0_3):=(blk_cell BK151.out 3).trans rfl
   have hcz7_4 : w5.cell? ⟨gb151,4,none⟩ = some (.string a0_4):=(blk_cell BK151.out 4).trans rfl
   have hfz7_0:=blk_frozen BK151.out 0
   have hfz7_1:=blk_frozen BK151.out 1
   have hfz7_2:=blk_frozen BK151.out 2
   have hfz7_3:=blk_frozen BK151.out 3
   have hfz7_4:=blk_frozen BK151.out 4
   go_wp2
   go_meet
   case rel => exact ⟨_,(true),(by first|rfl|(simp;done)|(simp;decide +kernel)|(simp [*];done)),(by first|exact H'|(subst_vars;exact H')),⟨by first|omega|exact Nat.le_refl _⟩,⟨by (with_reducible repeat (first|refine blk_drewN ?_ _|refine blk_drew ?_|refine blk_alloc ?_ _));exact BK151.out⟩,⟨by repeat (first|(with_reducible first|exact HB.out|apply below_alloc|apply pw_below_drewN|apply below_drew1|refine below_set ?_ GE151.out)|exact HB.out)⟩⟩
  ·rw [if_neg c6] at H
   have c6b0 : decide (a0_0 < 1) = false:=decide_eq_false c6
   clear c6
   (first|rw [c6b0]|(simp only [i64_w,i32_w];rw [c6b0])|skip)
   by_cases c8 : a0_0 > 7
   ·rw [if_pos c8] at H
    have c8b0 : decide (7 < a0_0) = true:=decide_eq_true c8
    clear c8
    have H':=Aside0.mk H
    clear H
    have hcz9_0 : w5.cell? ⟨gb151,0,none⟩ = some (.int .i64 a0_0):=(blk_cell BK151.out 0).trans rfl
    have hcz9_1 : w5.cell? ⟨gb151,1,none⟩ = some (.int .i64 a0_1):=(blk_cell BK151.out 1).trans rfl
    have hcz9_2 : w5.cell? ⟨gb151,2,none⟩ = some (.int .i64 a0_2):=(blk_cell BK151.out 2).trans rfl
    have hcz9_3 : w5.cell? ⟨gb151,3,none⟩ = some (.string a0_3):=(blk_cell BK151.out 3).trans rfl
    have hcz9_4 : w5.cell? ⟨gb151,4,none⟩ = some (.string a0_4):=(blk_cell BK151.out 4).trans rfl
    have hfz9_0:=blk_frozen BK151.out 0
    have hfz9_1:=blk_frozen BK151.out 1
    have hfz9_2:=blk_frozen BK151.out 2
    have hfz9_3:=blk_frozen BK151.out 3
    have hfz9_4:=blk_frozen BK151.out 4
    go_wp2
    go_meet
    case rel => exact ⟨_,(true),(by first|rfl|(simp;done)|(simp;decide +kernel)|(simp [*];done)),(by first|exact H'|(subst_vars;exact H')),⟨by first|omega|exact Nat.le_refl _⟩,⟨by (with_reducible repeat (first|refine blk_drewN ?_ _|refine blk_drew ?_|refine blk_alloc ?_ _));exact BK151.out⟩,⟨by repeat (first|(with_reducible first|exact HB.out|apply below_alloc|apply pw_below_drewN|apply below_drew1|refine below_set ?_ GE151.out)|exact HB.out)⟩⟩
   ·rw [if_neg c8] at H
    have c8b0 : decide (7 < a0_0) = false:=decide_eq_false c8
    clear c8
    by_cases c10 : a0_1 < 1
    ·rw [if_pos c10] at H
     have c10b0 : decide (a0_1 < 1) = true:=decide_eq_true c10
     clear c10
     have H':=Aside0.mk H
     clear H
     have hcz11_0 : w5.cell? ⟨gb151,0,none⟩ = some (.int .i64 a0_0):=(blk_cell BK151.out 0).trans rfl
     have hcz11_1 : w5.cell? ⟨gb151,1,none⟩ = some (.int .i64 a0_1):=(blk_cell BK151.out 1).trans rfl
     have hcz11_2 : w5.cell? ⟨gb151,2,none⟩ = some (.int .i64 a0_2):=(blk_cell BK151.out 2).trans rfl
     have hcz11_3 : w5.cell? ⟨gb151,3,none⟩ = some (.string a0_3):=(blk_cell BK151.out 3).trans rfl
     have hcz11_4 : w5.cell? ⟨gb151,4,none⟩ = some (.string a0_4):=(blk_cell BK151.out 4).trans rfl
     have hfz11_0:=blk_frozen BK151.out 0
     have hfz11_1:=blk_frozen BK151.out 1
     have hfz11_2:=blk_frozen BK151.out 2
     have hfz11_3:=blk_frozen BK151.out 3
     have hfz11_4:=blk_frozen BK151.out 4
     go_wp2
     go_meet
     case rel => exact ⟨_,(true),(by first|rfl|(simp;done)|(simp;decide +kernel)|(simp [*];done)),(by first|exact H'|(subst_vars;exact H')),⟨by first|omega|exact Nat.le_refl _⟩,⟨by (with_reducible repeat (first|refine blk_drewN ?_ _|refine blk_drew ?_|refine blk_alloc ?_ _));exact BK151.out⟩,⟨by repeat (first|(with_reducible first|exact HB.out|apply below_alloc|apply pw_below_drewN|apply below_drew1|refine below_set ?_ GE151.out)|exact HB.out)⟩⟩
    ·rw [if_neg c10] at H
     have c10b0 : decide (a0_1 < 1) = false:=decide_eq_false c10
     clear c10
     by_cases c12 : a0_2 < 0
     ·rw [if_pos c12] at H
      have c12b0 : decide (a0_2 < 0) = true:=decide_eq_true c12
      clear c12
      have H':=Aside0.mk H
      clear H
      have hcz13_0 : w5.cell? ⟨gb151,0,none⟩ = some (.int .i64 a0_0):=(blk_cell BK151.out 0).trans rfl
      have hcz13_1 : w5.cell? ⟨gb151,1,none⟩ = some (.int .i64 a0_1):=(blk_cell BK151.out 1).trans rfl
      have hcz13_2 : w5.cell? ⟨gb151,2,none⟩ = some (.int .i64 a0_2):=(blk_cell BK151.out 2).trans rfl
      have hcz13_3 : w5.cell? ⟨gb151,3,none⟩ = some (.string a0_3):=(blk_cell BK151.out 3).trans rfl
      have hcz13_4 : w5.cell? ⟨gb151,4,none⟩ = some (.string a0_4):=(blk_cell BK151.out 4).trans rfl
      have hfz13_0:=blk_frozen BK151.out 0
      have hfz13_1:=blk_frozen BK151.out 1
      have hfz13_2:=blk_frozen BK151.out 2
      have hfz13_3:=blk_frozen BK151.out 3
      have hfz13_4:=blk_frozen BK151.out 4
      go_wp2
      go_meet
      case rel => exact ⟨_,(true),(by first|rfl|(simp;done)|(simp;decide +kernel)|(simp [*];done)),(by first|exact H'|(subst_vars;exact H')),⟨by first|omega|exact Nat.le_refl _⟩,⟨by (with_reducible repeat (first|refine blk_drewN ?_ _|refine blk_drew ?_|refine blk_alloc ?_ _));exact BK151.out⟩,⟨by repeat (first|(with_reducible first|exact HB.out|apply below_alloc|apply pw_below_drewN|apply below_drew1|refine below_set ?_ GE151.out)|exact HB.out)⟩⟩
     ·rw [if_neg c12] at H
      have c12b0 : decide (a0_2 < 0) = false:=decide_eq_false c12
      clear c12
      have H':=Aside0.mk H
      clear H
      have hcz14_0 : w5.cell? ⟨gb151,0,none⟩ = some (.int .i64 a0_0):=(blk_cell BK151.out 0).trans rfl
      have hcz14_1 : w5.cell? ⟨gb151,1,none⟩ = some (.int .i64 a0_1):=(blk_cell BK151.out 1).trans rfl
      have hcz14_2 : w5.cell? ⟨gb151,2,none⟩ = some (.int .i64 a0_2):=(blk_cell BK151.out 2).trans rfl
      have hcz14_3 : w5.cell? ⟨gb151,3,none⟩ = some (.string a0_3):=(blk_cell BK151.out 3).trans rfl
      have hcz14_4 : w5.cell? ⟨gb151,4,none⟩ = some (.string a0_4):=(blk_cell BK151.out 4).trans rfl
      have hfz14_0:=blk_frozen BK151.out 0
      have hfz14_1:=blk_frozen BK151.out 1
      have hfz14_2:=blk_frozen BK151.out 2
      have hfz14_3:=blk_frozen BK151.out 3
      have hfz14_4:=blk_frozen BK151.out 4
      go_wp2
      go_meet
      case rel => exact ⟨_,(decide (a2 ≥ 32)),(by first|rfl|(simp;done)|(simp;decide +kernel)|(simp [*];done)),(by first|exact H'|(subst_vars;exact H')),⟨by first|omega|exact Nat.le_refl _⟩,⟨by (with_reducible repeat (first|refine blk_drewN ?_ _|refine blk_drew ?_|refine blk_alloc ?_ _));exact BK151.out⟩,⟨by repeat (first|(with_reducible first|exact HB.out|apply below_alloc|apply pw_below_drewN|apply below_drew1|refine below_set ?_ GE151.out)|exact HB.out)⟩⟩
 case rest =>
  clear HC4
  try clear c1
  try clear p2
  try clear c6
  try clear c6b0
  try clear c8
  try clear c8b0
  try clear c10
  try clear c10b0
  try clear c12
  try clear c12b0
  try clear hcz11_0
  try clear hcz11_1
  try clear hcz11_2
  try clear hcz11_3
  try clear hcz11_4
  try clear hcz13_0
  try clear hcz13_1
  try clear hcz13_2
  try clear hcz13_3
  try clear hcz13_4
  try clear hcz14_0
  try clear hcz14_1
  try clear hcz14_2
  try clear hcz14_3
  try clear hcz14_4
  try clear hcz7_0
  try clear hcz7_1
  try clear hcz7_2
  try clear hcz7_3
  try clear hcz7_4
  try clear hcz9_0
  try clear hcz9_1
  try clear hcz9_2
  try clear hcz9_3
  try clear hcz9_4
  try clear hfz11_0
  try clear hfz11_1
  try clear hfz11_2
  try clear hfz11_3
  try clear hfz11_4
  try clear hfz13_0
  try clear hfz13_1
  try clear hfz13_2
  try clear hfz13_3
  try clear hfz13_4
  try clear hfz14_0
  try clear hfz14_1
  try clear hfz14_2
  try clear hfz14_3
  try clear hfz14_4
  try clear hfz7_0
  try clear hfz7_1
  try clear hfz7_2
  try clear hfz7_3
  try clear hfz7_4
  try clear hfz9_0
  try clear hfz9_1
  try clear hfz9_2
  try clear hfz9_3
  try clear hfz9_4
  obtain ⟨kq,x7_3,rfl,HA,HJ3,BK151,HB⟩:=hcut
  cases kq with
  | zero => exact absurd HA.out (by simp [jsontext_wrong.j0])
  | succ kj3 =>
   have H:=HA.out
   clear HA
   simp only [jsontext_wrong.j0] at H
   by_cases c15 : x7_3 = true
   ·subst c15
    have H1 : (some true) = some r:=by rw [if_pos rfl] at H;exact H
    clear H
    have H:=H1
    clear H1
    obtain rfl:=Option.some.inj H
    go_wp2
    go_ret
    exact ⟨by first|rfl|(simp [errW_none,errW_some] <;> rfl)|(simp [*,errW_none,errW_some] <;> rfl)|(simp [errW_none,errW_some,show ∀ l : List UInt8,(l != []) = !l.isEmpty from fun l => by cases l <;> rfl]),by repeat (first|(with_reducible first|exact HB.out|apply below_alloc|apply pw_below_drewN|apply below_drew1|refine below_set ?_ GE151.out)|exact HB.out)⟩
   ·replace c15:=Bool.eq_false_iff.mpr c15
    subst c15
    have H1 : (if a0_2 > 0 then (jsontext_wrong.j1 kj3 a1 (decide (a0_0 < 6)) a0_0 a0_1 a0_2 a0_3 a0_4) else (jsontext_wrong.j1 kj3 a1 false a0_0 a0_1 a0_2 a0_3 a0_4)) = some r:=by rw [if_neg (show ¬ (false = true) by decide)] at H;exact H
    clear H
    have H:=H1
    clear H1
    have HC16:=Aside0.mk H
    clear H
    go_upto_region 3 with (fail)
    go_cut [30] (fun v30 wc => ∃ (kq : Nat) (x30_15 : Bool),v30 = .bool x30_15 ∧ Aside0 (jsontext_wrong.j1 kq a1 x30_15 a0_0 a0_1 a0_2 a0_3 a0_4 = some r) ∧ Aside0 (kq ≤ kj3) ∧ Aside0 (wc.heap[gb151]? = some (.cells #[.int .i64 a0_0,.int .i64 a0_1,.int .i64 a0_2,.string a0_3,.string a0_4] 46 (0,0))) ∧ Aside0 (Below w.heap.size w wc))
    case first =>
     have H:=HC16.out
     clear HC16
     by_cases c17 : a0_2 > 0
     ·rw [if_pos c17] at H
      have c17b0 : decide (0 < a0_2) = true:=decide_eq_true c17
      clear c17
      (first|rw [c17b0]|(simp only [i64_w,i32_w];rw [c17b0])|skip)
      have H':=Aside0.mk H
      clear H
      have hcz18_0 : wc.cell? ⟨gb151,0,none⟩ = some (.int .i64 a0_0):=(blk_cell BK151.out 0).trans rfl
      have hcz18_1 : wc.cell? ⟨gb151,1,none⟩ = some (.int .i64 a0_1):=(blk_cell BK151.out 1).trans rfl
      have hcz18_2 : wc.cell? ⟨gb151,2,none⟩ = some (.int .i64 a0_2):=(blk_cell BK151.out 2).trans rfl
      have hcz18_3 : wc.cell? ⟨gb151,3,none⟩ = some (.string a0_3):=(blk_cell BK151.out 3).trans rfl
      have hcz18_4 : wc.cell? ⟨gb151,4,none⟩ = some (.string a0_4):=(blk_cell BK151.out 4).trans rfl
      have hfz18_0:=blk_frozen BK151.out 0
      have hfz18_1:=blk_frozen BK151.out 1
      have hfz18_2:=blk_frozen BK151.out 2
      have hfz18_3:=blk_frozen BK151.out 3
      have hfz18_4:=blk_frozen BK151.out 4
      go_wp2
      go_meet
      case rel => exact ⟨_,(decide (a0_0 < 6)),(by first|rfl|(simp;done)|(simp;decide +kernel)|(simp [*];done)),(by first|exact H'|(subst_vars;exact H')),⟨by have:=HJ3.out;first|omega|exact Nat.le_refl _⟩,⟨by (with_reducible repeat (first|refine blk_drewN ?_ _|refine blk_drew ?_|refine blk_alloc ?_ _));exact BK151.out⟩,⟨by repeat (first|(with_reducible first|exact HB.out|apply below_alloc|apply pw_below_drewN|apply below_drew1|refine below_set ?_ GE151.out)|exact HB.out)⟩⟩
     ·rw [if_neg c17] at H
      have c17b0 : decide (0 < a0_2) = false:=decide_eq_false c17
      clear c17
      (first|rw [c17b0]|(simp only [i64_w,i32_w];rw [c17b0])|skip)
      have H':=Aside0.mk H
      clear H
      have hcz19_0 : wc.cell? ⟨gb151,0,none⟩ = some (.int .i64 a0_0):=(blk_cell BK151.out 0).trans rfl
      have hcz19_1 : wc.cell? ⟨gb151,1,none⟩ = some (.int .i64 a0_1):=(blk_cell BK151.out 1).trans rfl
      have hcz19_2 : wc.cell? ⟨gb151,2,none⟩ = some (.int .i64 a0_2):=(blk_cell BK151.out 2).trans rfl
      have hcz19_3 : wc.cell? ⟨gb151,3,none⟩ = some (.string a0_3):=(blk_cell BK151.out 3).trans rfl
      have hcz19_4 : wc.cell? ⟨gb151,4,none⟩ = some (.string a0_4):=(blk_cell BK151.out 4).trans rfl
      have hfz19_0:=blk_frozen BK151.out 0
      have hfz19_1:=blk_frozen BK151.out 1
      have hfz19_2:=blk_frozen BK151.out 2
      have hfz19_3:=blk_frozen BK151.out 3
      have hfz19_4:=blk_frozen BK151.out 4
      go_wp2
      go_meet
      case rel => exact ⟨_,(false),(by first|rfl|(simp;done)|(simp;decide +kernel)|(simp [*];done)),(by first|exact H'|(subst_vars;exact H')),⟨by have:=HJ3.out;first|omega|exact Nat.le_refl _⟩,⟨by (with_reducible repeat (first|refine blk_drewN ?_ _|refine blk_drew ?_|refine blk_alloc ?_ _));exact BK151.out⟩,⟨by repeat (first|(with_reducible first|exact HB.out|apply below_alloc|apply pw_below_drewN|apply below_drew1|refine below_set ?_ GE151.out)|exact HB.out)⟩⟩
    case rest =>
     clear HC16
     try clear c1
     try clear p2
     try clear c6
     try clear c6b0
     try clear c8
     try clear c8b0
     try clear c10
     try clear c10b0
     try clear c12
     try clear c12b0
     try clear c15
     try clear c17
     try clear c17b0
     try clear hcz11_0
     try clear hcz11_1
     try clear hcz11_2
     try clear hcz11_3
     try clear hcz11_4
     try clear hcz13_0
     try clear hcz13_1
     try clear hcz13_2
     try clear hcz13_3
     try clear hcz13_4
     try clear hcz14_0
     try clear hcz14_1
     try clear hcz14_2
     try clear hcz14_3
     try clear hcz14_4
     try clear hcz18_0
     try clear hcz18_1
     try clear hcz18_2
     try clear hcz18_3
     try clear hcz18_4
     try clear hcz19_0
     try clear hcz19_1
     try clear hcz19_2
     try clear hcz19_3
     try clear hcz19_4
     try clear hcz7_0
     try clear hcz7_1
     try clear hcz7_2
     try clear hcz7_3
     try clear hcz7_4
     try clear hcz9_0
     try clear hcz9_1
     try clear hcz9_2
     try clear hcz9_3
     try clear hcz9_4
     try clear hfz11_0
     try clear hfz11_1
     try clear hfz11_2
     try clear hfz11_3
     try clear hfz11_4
     try clear hfz13_0
     try clear hfz13_1
     try clear hfz13_2
     try clear hfz13_3
     try clear hfz13_4
     try clear hfz14_0
     try clear hfz14_1
     try clear hfz14_2
     try clear hfz14_3
     try clear hfz14_4
     try clear hfz18_0
     try clear hfz18_1
     try clear hfz18_2
     try clear hfz18_3
     try clear hfz18_4
     try clear hfz19_0
     try clear hfz19_1
     try clear hfz19_2
     try clear hfz19_3
     try clear hfz19_4
     try clear hfz7_0
     try clear hfz7_1
     try clear hfz7_2
     try clear hfz7_3
     try clear hfz7_4
     try clear hfz9_0
     try clear hfz9_1
     try clear hfz9_2
     try clear hfz9_3
     try clear hfz9_4
     try clear p2
     obtain ⟨kq,x30_15,rfl,HA,HJ15,BK151,HB⟩:=hcut
     cases kq with
     | zero => exact absurd HA.out (by simp [jsontext_wrong.j1])
     | succ kj15 =>
      have H:=HA.out
      clear HA
      simp only [jsontext_wrong.j1] at H
      have HC20:=Aside0.mk H
      clear H
      go_upto_if 30 with (fail)
      go_cut [30] (fun v30 wc => ∃ (kq : Nat) (x30_19 : Bool),v30 = .bool x30_19 ∧ Aside0 (jsontext_wrong.j2 kq x30_19 a0_0 a0_1 a0_2 a0_3 a0_4 = some r) ∧ Aside0 (kq ≤ kj15) ∧ Aside0 (wc.heap[gb151]? = some (.cells #[.int .i64 a0_0,.int .i64 a0_1,.int .i64 a0_2,.string a0_3,.string a0_4] 46 (0,0))) ∧ Aside0 (Below w.heap.size w wc))
      case first =>
       have H:=HC20.out
       clear HC20
       by_cases c21 : x30_15 = true
       ·subst c21
        have H1 : (jsontext_wrong.j2 kj15 true a0_0 a0_1 a0_2 a0_3 a0_4) = some r:=by rw [if_pos rfl] at H;exact H
        clear H
        have H:=H1
        clear H1
        have H':=Aside0.mk H
        clear H
        go_wp2
        go_meet
        case rel => exact ⟨_,(true),(by first|rfl|(simp;done)|(simp;decide +kernel)|(simp [*];done)),(by first|exact H'|(subst_vars;exact H')),⟨by have:=HJ3.out;have:=HJ15.out;first|omega|exact Nat.le_refl _⟩,⟨by (with_reducible repeat (first|refine blk_drewN ?_ _|refine blk_drew ?_|refine blk_alloc ?_ _));exact BK151.out⟩,⟨by repeat (first|(with_reducible first|exact HB.out|apply below_alloc|apply pw_below_drewN|apply below_drew1|refine below_set ?_ GE151.out)|exact HB.out)⟩⟩
       ·replace c21:=Bool.eq_false_iff.mpr c21
        subst c21
        have H1 : (if a0_3.toList = ([] : List UInt8) then ((utf8_ValidString.f a0_3).bind fun t152 => (jsontext_wrong.j2 kj15 (!t152) a0_0 a0_1 a0_2 a0_3 a0_4)) else (if a1 = true then ((utf8_ValidString.f a0_3).bind fun t153 => (jsontext_wrong.j2 kj15 (!t153) a0_0 a0_1 a0_2 a0_3 a0_4)) else (jsontext_wrong.j2 kj15 (!a1) a0_0 a0_1 a0_2 a0_3 a0_4))) = some r:=by rw [if_neg (show ¬ (false = true) by decide)] at H;exact H
        clear H
        have H:=H1
        clear H1
        by_cases c22 : a0_3.toList = ([] : List UInt8)
        ·rw [if_pos c22] at H
         have c22b0 : (a0_3.toList == ([] : List UInt8)) = true:=beq_iff_eq.mpr c22
         have c22b1 : (a0_3.toList != ([] : List UInt8)) = false:=bne_eq_false_iff_eq.mpr c22
         clear c22
         (first|rw [c22b0]|(simp only [i64_w,i32_w];rw [c22b0])|skip)
         replace H:=Option.bind_eq_some_iff.mp H
         obtain ⟨t152,A230,H⟩:=H
         replace H : (jsontext_wrong.j2 kj15 (!t152) a0_0 a0_1 a0_2 a0_3 a0_4) = some r:=H
         have A23:=Aside0.mk A230
         clear A230
         have H':=Aside0.mk H
         clear H
         have hcz24_0 : wc.cell? ⟨gb151,0,none⟩ = some (.int .i64 a0_0):=(blk_cell BK151.out 0).trans rfl
         have hcz24_1 : wc.cell? ⟨gb151,1,none⟩ = some (.int .i64 a0_1):=(blk_cell BK151.out 1).trans rfl
         have hcz24_2 : wc.cell? ⟨gb151,2,none⟩ = some (.int .i64 a0_2):=(blk_cell BK151.out 2).trans rfl
         have hcz24_3 : wc.cell? ⟨gb151,3,none⟩ = some (.string a0_3):=(blk_cell BK151.out 3).trans rfl
         have hcz24_4 : wc.cell? ⟨gb151,4,none⟩ = some (.string a0_4):=(blk_cell BK151.out 4).trans rfl
         have hfz24_0:=blk_frozen BK151.out 0
         have hfz24_1:=blk_frozen BK151.out 1
         have hfz24_2:=blk_frozen BK151.out 2
         have hfz24_3:=blk_frozen BK151.out 3
         have hfz24_4:=blk_frozen BK151.out 4
         go_wp2_with (first|((with_reducible refine gate_callee (f:=64) rfl ?_);refine goesL_ (some 48) rfl rfl Tryd.func64 (by kernel_rfl) rfl #[.string a0_3] rfl (by (try simp only [List.map_toArray,List.map_cons,List.map_nil]);first|done|rfl|(simp only [List.length_drop,List.length_take];rfl)) ?_;(with_reducible refine (utf8_ValidString.calls a0_3 t152 _ ?side1 A23.out).mono ?_);(case side1 => first|exact HGU8.out|exact GlobU8.below HGU8.out (by repeat (first|(with_reducible first|exact HB.out|apply below_alloc|apply pw_below_drewN|apply below_drew1|refine below_set ?_ GE151.out)|exact HB.out))|exact GlobU8.drawn HGU8.out (by repeat (first|exact Drawn0.refl _|apply Drawn0.step)));rintro e w25 ⟨rfl,hb⟩;refine ⟨_,rfl,?_⟩;have n0_:=Aside0.mk (blk_below (g:=gb151) (o:=.cells #[.int .i64 a0_0,.int .i64 a0_1,.int .i64 a0_2,.string a0_3,.string a0_4] 46 (0,0)) (by (with_reducible repeat (first|refine blk_drewN ?_ _|refine blk_drew ?_|refine blk_alloc ?_ _));exact BK151.out) hb);have n1_:=Aside0.mk (below_step (by repeat (first|(with_reducible first|exact HB.out|apply below_alloc|apply pw_below_drewN|apply below_drew1|refine below_set ?_ GE151.out)|exact HB.out)) hb);clear BK151;clear HB;have BK151:=n0_;have HB:=n1_;clear n0_ n1_;(try clear hb);(try clear hb2);(try clear hk);(try clear hi)))
         go_meet
         case rel => exact ⟨_,(!t152),(by first|rfl|(simp;done)|(simp;decide +kernel)|(simp [*];done)),(by first|exact H'|(subst_vars;exact H')),⟨by have:=HJ3.out;have:=HJ15.out;first|omega|exact Nat.le_refl _⟩,⟨by (with_reducible repeat (first|refine blk_drewN ?_ _|refine blk_drew ?_|refine blk_alloc ?_ _));exact BK151.out⟩,⟨by repeat (first|(with_reducible first|exact HB.out|apply below_alloc|apply pw_below_drewN|apply below_drew1|refine below_set ?_ GE151.out)|exact HB.out)⟩⟩
        ·rw [if_neg c22] at H
         have c22b0 : (a0_3.toList == ([] : List UInt8)) = false:=beq_eq_false_iff_ne.mpr c22
         have c22b1 : (a0_3.toList != ([] : List UInt8)) = true:=bne_iff_ne.mpr c22
         (first|rw [c22b0]|(simp only [i64_w,i32_w];rw [c22b0])|skip)
         by_cases c26 : a1 = true
         ·subst c26
          have H1 : ((utf8_ValidString.f a0_3).bind fun t153 => (jsontext_wrong.j2 kj15 (!t153) a0_0 a0_1 a0_2 a0_3 a0_4)) = some r:=by rw [if_pos rfl] at H;exact H
          clear H
          have H:=H1
          clear H1
          replace H:=Option.bind_eq_some_iff.mp H
          obtain ⟨t153,A270,H⟩:=H
          replace H : (jsontext_wrong.j2 kj15 (!t153) a0_0 a0_1 a0_2 a0_3 a0_4) = some r:=H
          have A27:=Aside0.mk A270
          clear A270
          have H':=Aside0.mk H
          clear H
          have hcz28_0 : wc.cell? ⟨gb151,0,none⟩ = some (.int .i64 a0_0):=(blk_cell BK151.out 0).trans rfl
          have hcz28_1 : wc.cell? ⟨gb151,1,none⟩ = some (.int .i64 a0_1):=(blk_cell BK151.out 1).trans rfl
          have hcz28_2 : wc.cell? ⟨gb151,2,none⟩ = some (.int .i64 a0_2):=(blk_cell BK151.out 2).trans rfl
          have hcz28_3 : wc.cell? ⟨gb151,3,none⟩ = some (.string a0_3):=(blk_cell BK151.out 3).trans rfl
          have hcz28_4 : wc.cell? ⟨gb151,4,none⟩ = some (.string a0_4):=(blk_cell BK151.out 4).trans rfl
          have hfz28_0:=blk_frozen BK151.out 0
          have hfz28_1:=blk_frozen BK151.out 1
          have hfz28_2:=blk_frozen BK151.out 2
          have hfz28_3:=blk_frozen BK151.out 3
          have hfz28_4:=blk_frozen BK151.out 4
          go_wp2_with (first|((with_reducible refine gate_callee (f:=64) rfl ?_);refine goesL_ (some 48) rfl rfl Tryd.func64 (by kernel_rfl) rfl #[.string a0_3] rfl (by (try simp only [List.map_toArray,List.map_cons,List.map_nil]);first|done|rfl|(simp only [List.length_drop,List.length_take];rfl)) ?_;(with_reducible refine (utf8_ValidString.calls a0_3 t153 _ ?side1 A27.out).mono ?_);(case side1 => first|exact HGU8.out|exact GlobU8.below HGU8.out (by repeat (first|(with_reducible first|exact HB.out|apply below_alloc|apply pw_below_drewN|apply below_drew1|refine below_set ?_ GE151.out)|exact HB.out))|exact GlobU8.drawn HGU8.out (by repeat (first|exact Drawn0.refl _|apply Drawn0.step)));rintro e w29 ⟨rfl,hb⟩;refine ⟨_,rfl,?_⟩;have n0_:=Aside0.mk (blk_below (g:=gb151) (o:=.cells #[.int .i64 a0_0,.int .i64 a0_1,.int .i64 a0_2,.string a0_3,.string a0_4] 46 (0,0)) (by (with_reducible repeat (first|refine blk_drewN ?_ _|refine blk_drew ?_|refine blk_alloc ?_ _));exact BK151.out) hb);have n1_:=Aside0.mk (below_step (by repeat (first|(with_reducible first|exact HB.out|apply below_alloc|apply pw_below_drewN|apply below_drew1|refine below_set ?_ GE151.out)|exact HB.out)) hb);clear BK151;clear HB;have BK151:=n0_;have HB:=n1_;clear n0_ n1_;(try clear hb);(try clear hb2);(try clear hk);(try clear hi)))
          go_meet
          case rel => exact ⟨_,(!t153),(by first|rfl|(simp;done)|(simp;decide +kernel)|(simp [*];done)),(by first|exact H'|(subst_vars;exact H')),⟨by have:=HJ3.out;have:=HJ15.out;first|omega|exact Nat.le_refl _⟩,⟨by (with_reducible repeat (first|refine blk_drewN ?_ _|refine blk_drew ?_|refine blk_alloc ?_ _));exact BK151.out⟩,⟨by repeat (first|(with_reducible first|exact HB.out|apply below_alloc|apply pw_below_drewN|apply below_drew1|refine below_set ?_ GE151.out)|exact HB.out)⟩⟩
         ·replace c26:=Bool.eq_false_iff.mpr c26
          subst c26
          have H1 : (jsontext_wrong.j2 kj15 (!false) a0_0 a0_1 a0_2 a0_3 a0_4) = some r:=by rw [if_neg (show ¬ (false = true) by decide)] at H;exact H
          clear H
          have H:=H1
          clear H1
          have H':=Aside0.mk H
          clear H
          have hcz30_0 : wc.cell? ⟨gb151,0,none⟩ = some (.int .i64 a0_0):=(blk_cell BK151.out 0).trans rfl
          have hcz30_1 : wc.cell? ⟨gb151,1,none⟩ = some (.int .i64 a0_1):=(blk_cell BK151.out 1).trans rfl
          have hcz30_2 : wc.cell? ⟨gb151,2,none⟩ = some (.int .i64 a0_2):=(blk_cell BK151.out 2).trans rfl
          have hcz30_3 : wc.cell? ⟨gb151,3,none⟩ = some (.string a0_3):=(blk_cell BK151.out 3).trans rfl
          have hcz30_4 : wc.cell? ⟨gb151,4,none⟩ = some (.string a0_4):=(blk_cell BK151.out 4).trans rfl
          have hfz30_0:=blk_frozen BK151.out 0
          have hfz30_1:=blk_frozen BK151.out 1
          have hfz30_2:=blk_frozen BK151.out 2
          have hfz30_3:=blk_frozen BK151.out 3
          have hfz30_4:=blk_frozen BK151.out 4
          go_wp2
          go_meet
          case rel => exact ⟨_,(!false),(by first|rfl|(simp;done)|(simp;decide +kernel)|(simp [*];done)),(by first|exact H'|(subst_vars;exact H')),⟨by have:=HJ3.out;have:=HJ15.out;first|omega|exact Nat.le_refl _⟩,⟨by (with_reducible repeat (first|refine blk_drewN ?_ _|refine blk_drew ?_|refine blk_alloc ?_ _));exact BK151.out⟩,⟨by repeat (first|(with_reducible first|exact HB.out|apply below_alloc|apply pw_below_drewN|apply below_drew1|refine below_set ?_ GE151.out)|exact HB.out)⟩⟩
      case rest =>
       clear HC20
       try clear c1
       try clear c2
       try clear p2
       try clear c6
       try clear c6b0
       try clear c8
       try clear c8b0
       try clear c10
       try clear c10b0
       try clear c12
       try clear c12b0
       try clear c15
       try clear c17
       try clear c17b0
       try clear c21
       try clear c22
       try clear c22b0
       try clear c22b1
       try clear c26
       try clear hcz11_0
       try clear hcz11_1
       try clear hcz11_2
       try clear hcz11_3
       try clear hcz11_4
       try clear hcz13_0
       try clear hcz13_1
       try clear hcz13_2
       try clear hcz13_3
       try clear hcz13_4
       try clear hcz14_0
       try clear hcz14_1
       try clear hcz14_2
       try clear hcz14_3
       try clear hcz14_4
       try clear hcz18_0
       try clear hcz18_1
       try clear hcz18_2
       try clear hcz18_3
       try clear hcz18_4
       try clear hcz19_0
       try clear hcz19_1
       try clear hcz19_2
       try clear hcz19_3
       try clear hcz19_4
       try clear hcz24_0
       try clear hcz24_1
       try clear hcz24_2
       try clear hcz24_3
       try clear hcz24_4
       try clear hcz28_0
       try clear hcz28_1
       try clear hcz28_2
       try clear hcz28_3
       try clear hcz28_4
       try clear hcz30_0
       try clear hcz30_1
       try clear hcz30_2
       try clear hcz30_3
       try clear hcz30_4
       try clear hcz7_0
       try clear hcz7_1
       try clear hcz7_2
       try clear hcz7_3
       try clear hcz7_4
       try clear hcz9_0
       try clear hcz9_1
       try clear hcz9_2
       try clear hcz9_3
       try clear hcz9_4
       try clear hfz11_0
       try clear hfz11_1
       try clear hfz11_2
       try clear hfz11_3
       try clear hfz11_4
       try clear hfz13_0
       try clear hfz13_1
       try clear hfz13_2
       try clear hfz13_3
       try clear hfz13_4
       try clear hfz14_0
       try clear hfz14_1
       try clear hfz14_2
       try clear hfz14_3
       try clear hfz14_4
       try clear hfz18_0
       try clear hfz18_1
       try clear hfz18_2
       try clear hfz18_3
       try clear hfz18_4
       try clear hfz19_0
       try clear hfz19_1
       try clear hfz19_2
       try clear hfz19_3
       try clear hfz19_4
       try clear hfz24_0
       try clear hfz24_1
       try clear hfz24_2
       try clear hfz24_3
       try clear hfz24_4
       try clear hfz28_0
       try clear hfz28_1
       try clear hfz28_2
       try clear hfz28_3
       try clear hfz28_4
       try clear hfz30_0
       try clear hfz30_1
       try clear hfz30_2
       try clear hfz30_3
       try clear hfz30_4
       try clear hfz7_0
       try clear hfz7_1
       try clear hfz7_2
       try clear hfz7_3
       try clear hfz7_4
       try clear hfz9_0
       try clear hfz9_1
       try clear hfz9_2
       try clear hfz9_3
       try clear hfz9_4
       try clear p2
       obtain ⟨kq,x30_19,rfl,HA,HJ19,BK151,HB⟩:=hcut
       cases kq with
       | zero => exact absurd HA.out (by simp [jsontext_wrong.j2])
       | succ kj19 =>
        have H:=HA.out
        clear HA
        simp only [jsontext_wrong.j2] at H
        by_cases c31 : x30_19 = true
        ·subst c31
         have H1 : (some true) = some r:=by rw [if_pos rfl] at H;exact H
         clear H
         have H:=H1
         clear H1
         obtain rfl:=Option.some.inj H
         go_wp2
         go_ret
         exact ⟨by first|rfl|(simp [errW_none,errW_some] <;> rfl)|(simp [*,errW_none,errW_some] <;> rfl)|(simp [errW_none,errW_some,show ∀ l : List UInt8,(l != []) = !l.isEmpty from fun l => by cases l <;> rfl]),by repeat (first|(with_reducible first|exact HB.out|apply below_alloc|apply pw_below_drewN|apply below_drew1|refine below_set ?_ GE151.out)|exact HB.out)⟩
        ·replace c31:=Bool.eq_false_iff.mpr c31
         subst c31
         have H1 : (if a0_0 = 4 then (if (a0_4.size : Int) > 65536 then (some true) else ((jsontext_number.f a0_4).bind fun t154 => (some (!t154)))) else (if a0_0 = 5 then ((utf8_ValidString.f a0_4).bind fun t155 => (some (!t155))) else (some (a0_4.toList != ([] : List UInt8))))) = some r:=by rw [if_neg (show ¬ (false = true) by decide)] at H;exact H
         clear H
         have H:=H1
         clear H1
         by_cases c32 : a0_0 = 4
         ·rw [if_pos c32] at H
          have c32b0 : (a0_0 == 4) = true:=beq_iff_eq.mpr c32
          have c32b1 : (a0_0 != 4) = false:=bne_eq_false_iff_eq.mpr c32
          clear c32
          by_cases c33 : (a0_4.size : Int) > 65536
          ·rw [if_pos c33] at H
           have c33b0 : decide (65536 < (a0_4.size : Int)) = true:=decide_eq_true c33
           have c33b1 : decide (65536 < a0_4.size) = true:=decide_eq_true (by omega)
           clear c33
           obtain rfl:=Option.some.inj H
           have hcz34_0 : wc.cell? ⟨gb151,0,none⟩ = some (.int .i64 a0_0):=(blk_cell BK151.out 0).trans rfl
           have hcz34_1 : wc.cell? ⟨gb151,1,none⟩ = some (.int .i64 a0_1):=(blk_cell BK151.out 1).trans rfl
           have hcz34_2 : wc.cell? ⟨gb151,2,none⟩ = some (.int .i64 a0_2):=(blk_cell BK151.out 2).trans rfl
           have hcz34_3 : wc.cell? ⟨gb151,3,none⟩ = some (.string a0_3):=(blk_cell BK151.out 3).trans rfl
           have hcz34_4 : wc.cell? ⟨gb151,4,none⟩ = some (.string a0_4):=(blk_cell BK151.out 4).trans rfl
           have hfz34_0:=blk_frozen BK151.out 0
           have hfz34_1:=blk_frozen BK151.out 1
           have hfz34_2:=blk_frozen BK151.out 2
           have hfz34_3:=blk_frozen BK151.out 3
           have hfz34_4:=blk_frozen BK151.out 4
           go_wp2
           go_ret
           exact ⟨by first|rfl|(simp [errW_none,errW_some] <;> rfl)|(simp [*,errW_none,errW_some] <;> rfl)|(simp [errW_none,errW_some,show ∀ l : List UInt8,(l != []) = !l.isEmpty from fun l => by cases l <;> rfl]),by repeat (first|(with_reducible first|exact HB.out|apply below_alloc|apply pw_below_drewN|apply below_drew1|refine below_set ?_ GE151.out)|exact HB.out)⟩
          ·rw [if_neg c33] at H
           have c33b0 : decide (65536 < (a0_4.size : Int)) = false:=decide_eq_false c33
           have c33b1 : decide (65536 < a0_4.size) = false:=decide_eq_false (by omega)
           clear c33
           replace H:=Option.bind_eq_some_iff.mp H
           obtain ⟨t154,A350,H⟩:=H
           replace H : (some (!t154)) = some r:=H
           have A35:=Aside0.mk A350
           clear A350
           obtain rfl:=Option.some.inj H
           have hcz36_0 : wc.cell? ⟨gb151,0,none⟩ = some (.int .i64 a0_0):=(blk_cell BK151.out 0).trans rfl
           have hcz36_1 : wc.cell? ⟨gb151,1,none⟩ = some (.int .i64 a0_1):=(blk_cell BK151.out 1).trans rfl
           have hcz36_2 : wc.cell? ⟨gb151,2,none⟩ = some (.int .i64 a0_2):=(blk_cell BK151.out 2).trans rfl
           have hcz36_3 : wc.cell? ⟨gb151,3,none⟩ = some (.string a0_3):=(blk_cell BK151.out 3).trans rfl
           have hcz36_4 : wc.cell? ⟨gb151,4,none⟩ = some (.string a0_4):=(blk_cell BK151.out 4).trans rfl
           have hfz36_0:=blk_frozen BK151.out 0
           have hfz36_1:=blk_frozen BK151.out 1
           have hfz36_2:=blk_frozen BK151.out 2
           have hfz36_3:=blk_frozen BK151.out 3
           have hfz36_4:=blk_frozen BK151.out 4
           go_wp2_with (first|(go_at_call 74;(with_reducible refine (jsontext_number.calls a0_4 t154 _ ?side1 A35.out).mono ?_);(case side1 => first|exact HGU8.out|exact GlobU8.below HGU8.out (by repeat (first|(with_reducible first|exact HB.out|apply below_alloc|apply pw_below_drewN|apply below_drew1|refine below_set ?_ GE151.out)|exact HB.out))|exact GlobU8.drawn HGU8.out (by repeat (first|exact Drawn0.refl _|apply Drawn0.step)));rintro e w37 ⟨rfl,hb⟩;have n0_:=Aside0.mk (blk_below (g:=gb151) (o:=.cells #[.int .i64 a0_0,.int .i64 a0_1,.int .i64 a0_2,.string a0_3,.string a0_4] 46 (0,0)) (by (with_reducible repeat (first|refine blk_drewN ?_ _|refine blk_drew ?_|refine blk_alloc ?_ _));exact BK151.out) hb);have n1_:=Aside0.mk (below_step (by repeat (first|(with_reducible first|exact HB.out|apply below_alloc|apply pw_below_drewN|apply below_drew1|refine below_set ?_ GE151.out)|exact HB.out)) hb);clear BK151;clear HB;have BK151:=n0_;have HB:=n1_;clear n0_ n1_;(try clear hb);(try clear hb2);(try clear hk);(try clear hi)))
           go_ret
           exact ⟨by first|rfl|(simp [errW_none,errW_some] <;> rfl)|(simp [*,errW_none,errW_some] <;> rfl)|(simp [errW_none,errW_some,show ∀ l : List UInt8,(l != []) = !l.isEmpty from fun l => by cases l <;> rfl]),by repeat (first|(with_reducible first|exact HB.out|apply below_alloc|apply pw_below_drewN|apply below_drew1|refine below_set ?_ GE151.out)|exact HB.out)⟩
         ·rw [if_neg c32] at H
          have c32b0 : (a0_0 == 4) = false:=beq_eq_false_iff_ne.mpr c32
          have c32b1 : (a0_0 != 4) = true:=bne_iff_ne.mpr c32
          by_cases c38 : a0_0 = 5
          ·rw [if_pos c38] at H
           have c38b0 : (a0_0 == 5) = true:=beq_iff_eq.mpr c38
           have c38b1 : (a0_0 != 5) = false:=bne_eq_false_iff_eq.mpr c38
           clear c38
           replace H:=Option.bind_eq_some_iff.mp H
           obtain ⟨t155,A390,H⟩:=H
           replace H : (some (!t155)) = some r:=H
           have A39:=Aside0.mk A390
           clear A390
           obtain rfl:=Option.some.inj H
           have hcz40_0 : wc.cell? ⟨gb151,0,none⟩ = some (.int .i64 a0_0):=(blk_cell BK151.out 0).trans rfl
           have hcz40_1 : wc.cell? ⟨gb151,1,none⟩ = some (.int .i64 a0_1):=(blk_cell BK151.out 1).trans rfl
           have hcz40_2 : wc.cell? ⟨gb151,2,none⟩ = some (.int .i64 a0_2):=(blk_cell BK151.out 2).trans rfl
           have hcz40_3 : wc.cell? ⟨gb151,3,none⟩ = some (.string a0_3):=(blk_cell BK151.out 3).trans rfl
           have hcz40_4 : wc.cell? ⟨gb151,4,none⟩ = some (.string a0_4):=(blk_cell BK151.out 4).trans rfl
           have hfz40_0:=blk_frozen BK151.out 0
           have hfz40_1:=blk_frozen BK151.out 1
           have hfz40_2:=blk_frozen BK151.out 2
           have hfz40_3:=blk_frozen BK151.out 3
           have hfz40_4:=blk_frozen BK151.out 4
           go_wp2_with (first|((with_reducible refine gate_callee (f:=64) rfl ?_);refine goesL_ (some 70) rfl rfl Tryd.func64 (by kernel_rfl) rfl #[.string a0_4] rfl (by (try simp only [List.map_toArray,List.map_cons,List.map_nil]);first|done|rfl|(simp only [List.length_drop,List.length_take];rfl)) ?_;(with_reducible refine (utf8_ValidString.calls a0_4 t155 _ ?side1 A39.out).mono ?_);(case side1 => first|exact HGU8.out|exact GlobU8.below HGU8.out (by repeat (first|(with_reducible first|exact HB.out|apply below_alloc|apply pw_below_drewN|apply below_drew1|refine below_set ?_ GE151.out)|exact HB.out))|exact GlobU8.drawn HGU8.out (by repeat (first|exact Drawn0.refl _|apply Drawn0.step)));rintro e w41 ⟨rfl,hb⟩;refine ⟨_,rfl,?_⟩;have n0_:=Aside0.mk (blk_below (g:=gb151) (o:=.cells #[.int .i64 a0_0,.int .i64 a0_1,.int .i64 a0_2,.string a0_3,.string a0_4] 46 (0,0)) (by (with_reducible repeat (first|refine blk_drewN ?_ _|refine blk_drew ?_|refine blk_alloc ?_ _));exact BK151.out) hb);have n1_:=Aside0.mk (below_step (by repeat (first|(with_reducible first|exact HB.out|apply below_alloc|apply pw_below_drewN|apply below_drew1|refine below_set ?_ GE151.out)|exact HB.out)) hb);clear BK151;clear HB;have BK151:=n0_;have HB:=n1_;clear n0_ n1_;(try clear hb);(try clear hb2);(try clear hk);(try clear hi)))
           go_ret
           exact ⟨by first|rfl|(simp [errW_none,errW_some] <;> rfl)|(simp [*,errW_none,errW_some] <;> rfl)|(simp [errW_none,errW_some,show ∀ l : List UInt8,(l != []) = !l.isEmpty from fun l => by cases l <;> rfl]),by repeat (first|(with_reducible first|exact HB.out|apply below_alloc|apply pw_below_drewN|apply below_drew1|refine below_set ?_ GE151.out)|exact HB.out)⟩
          ·rw [if_neg c38] at H
           have c38b0 : (a0_0 == 5) = false:=beq_eq_false_iff_ne.mpr c38
           have c38b1 : (a0_0 != 5) = true:=bne_iff_ne.mpr c38
           obtain rfl:=Option.some.inj H
           have hcz42_0 : wc.cell? ⟨gb151,0,none⟩ = some (.int .i64 a0_0):=(blk_cell BK151.out 0).trans rfl
           have hcz42_1 : wc.cell? ⟨gb151,1,none⟩ = some (.int .i64 a0_1):=(blk_cell BK151.out 1).trans rfl
           have hcz42_2 : wc.cell? ⟨gb151,2,none⟩ = some (.int .i64 a0_2):=(blk_cell BK151.out 2).trans rfl
           have hcz42_3 : wc.cell? ⟨gb151,3,none⟩ = some (.string a0_3):=(blk_cell BK151.out 3).trans rfl
           have hcz42_4 : wc.cell? ⟨gb151,4,none⟩ = some (.string a0_4):=(blk_cell BK151.out 4).trans rfl
           have hfz42_0:=blk_frozen BK151.out 0
           have hfz42_1:=blk_frozen BK151.out 1
           have hfz42_2:=blk_frozen BK151.out 2
           have hfz42_3:=blk_frozen BK151.out 3
           have hfz42_4:=blk_frozen BK151.out 4
           go_wp2
           go_ret
           exact ⟨by first|rfl|(simp [errW_none,errW_some] <;> rfl)|(simp [*,errW_none,errW_some] <;> rfl)|(simp [errW_none,errW_some,show ∀ l : List UInt8,(l != []) = !l.isEmpty from fun l => by cases l <;> rfl]),by repeat (first|(with_reducible first|exact HB.out|apply below_alloc|apply pw_below_drewN|apply below_drew1|refine below_set ?_ GE151.out)|exact HB.out)⟩
end Go.Proofs.YtadfkeipcebmfaaDoor.X
namespace Go.Proofs.YtadfkeipcebmfaaDoor.X
open Go.RowKit Go.Proofs.YtadfkeipcebmfaaDoorW.PrintWords Go.Proofs.YtadfkeipcebmfaaDoorW.PrintLast Go.Proofs.YtadfkeipcebmfaaDoorW.PrintMore
attribute [local go_sem] max2_int min2_int max_two min_two max_three min_three max_four min_four
set_option linter.unusedVariables false
set_option linter.unusedSimpArgs false
mutual
def jsontext_check.j0 : Nat → List (S46) → Int → Int → Bool → Int → Int → Int → ByteArray → ByteArray → Option (Bool)
 | 0,_,_,_,_,_,_,_,_,_ => none
 | k + 1,x0,x1,x4,x28,x158000,x158001,x158002,x158003,x158004 => if x28 = true then (some false) else (jsontext_check.l0 k x0 x1 x4 (wrap64 (x1 + 1)) x158002 0 x158000 x158001 x158002 x158003 x158004)
def jsontext_check.l0 : Nat → List (S46) → Int → Int → Int → Int → Int → Int → Int → Int → ByteArray → ByteArray → Option (Bool)
 | 0,_,_,_,_,_,_,_,_,_,_,_ => none
 | k + 1,x0,x1,x4,x12,x32,x33,x158000,x158001,x158002,x158003,x158004 => if x33 < x32 then (if x12 ≥ (wrap64 (x1 + x158001)) then (some false) else ((jsontext_check.f k x0 x12 (wrap64 (x1 + x158001)) (x158000 == 7) (wrap64 (x4 + 1))).bind fun t159 => (if t159 = true then (if 0 ≤ x12 then (if x12 < (x0.length : Int) then (jsontext_check.l0 k x0 x1 x4 (wrap64 (x12 + ((rd_T46 x0 x12).f1))) x32 (wrap64 (x33 + 1)) x158000 x158001 x158002 x158003 x158004) else (none)) else (none)) else (some false)))) else (some (x12 == (wrap64 (x1 + x158001))))
def jsontext_check.f : Nat → List (S46) → Int → Int → Bool → Int → Option (Bool)
 | 0,_,_,_,_,_ => none
 | k + 1,l0,a1,a2,a3,a4 => if 0 ≤ a1 then (if a1 < (l0.length : Int) then ((jsontext_wrong.f k ((rd_T46 l0 a1).f0) ((rd_T46 l0 a1).f1) ((rd_T46 l0 a1).f2) ((rd_T46 l0 a1).f3) ((rd_T46 l0 a1).f4) a3 a4).bind fun t158 => (if t158 = true then (jsontext_check.j0 k l0 a1 a4 true ((rd_T46 l0 a1).f0) ((rd_T46 l0 a1).f1) ((rd_T46 l0 a1).f2) ((rd_T46 l0 a1).f3) ((rd_T46 l0 a1).f4)) else (jsontext_check.j0 k l0 a1 a4 (decide (((rd_T46 l0 a1).f1) > (wrap64 (a2 - a1)))) ((rd_T46 l0 a1).f0) ((rd_T46 l0 a1).f1) ((rd_T46 l0 a1).f2) ((rd_T46 l0 a1).f3) ((rd_T46 l0 a1).f4)))) else (none)) else (none)
end
set_option maxHeartbeats 8000000 in
set_option maxRecDepth 100000 in
theorem jsontext_check.calls (k : Nat) : ∀ (A0 : Option Addr) (c0 : Nat) (l0 : List (S46)) (a1 : Int) (a2 : Int) (a3 : Bool) (a4 : Int) (r : Bool) (w : World) (hGU8 : GlobU8 w) (hr0 : Kd.C k46 w A0 l0.length l0) (hc0 : l0.length ≤ c0) (h : jsontext_check.f k l0 a1 a2 a3 a4 = some r),
  Calls Tryd.prog 39 #[.slice A0 l0.length c0,.int .i64 a1,.int .i64 a2,.bool a3,.int .i64 a4] w fun e w' => e = .returned (.bool r) ∧ Below w.heap.size w w':=by
 induction k using Nat.strongRecOn with
 | _ k ih =>
 intro A0 c0 l0 a1 a2 a3 a4 r w hGU8 hr0 hc0 h
 cases k with
 | zero => exact absurd h (by simp [jsontext_check.f])
 | succ k =>
 simp only [jsontext_check.f] at h
 have hu46:=Tryd.underlying46
 have HGU8:=Aside0.mk hGU8
 clear hGU8
 have HR0:=Aside0.mk hr0
 have HC0:=Aside0.mk hc0
 clear hr0 hc0
 have HB:=Aside0.mk (Below.refl w.heap.size w)
 have H : (if 0 ≤ a1 then (if a1 < (l0.length : Int) then ((jsontext_wrong.f k ((rd_T46 l0 a1).f0) ((rd_T46 l0 a1).f1) ((rd_T46 l0 a1).f2) ((rd_T46 l0 a1).f3) ((rd_T46 l0 a1).f4) a3 a4).bind fun t158 => (if t158 = true then (jsontext_check.j0 k l0 a1 a4 true ((rd_T46 l0 a1).f0) ((rd_T46 l0 a1).f1) ((rd_T46 l0 a1).f2) ((rd_T46 l0 a1).f3) ((rd_T46 l0 a1).f4)) else (jsontext_check.j0 k l0 a1 a4 (decide (((rd_T46 l0 a1).f1) > (wrap64 (a2 - a1)))) ((rd_T46 l0 a1).f0) ((rd_T46 l0 a1).f1) ((rd_T46 l0 a1).f2) ((rd_T46 l0 a1).f3) ((rd_T46 l0 a1).f4)))) else (none)) else (none)) = some r:=h
 clear h
 by_cases c6 : 0 ≤ a1
 ·rw [if_pos c6] at H
  have c6b0 : decide (0 ≤ a1) = true:=decide_eq_true c6
  clear c6
  by_cases c7 : a1 < (l0.length : Int)
  ·rw [if_pos c7] at H
   have c7b0 : decide (a1 < (l0.length : Int)) = true:=decide_eq_true c7
   clear c7
   have HC8:=Aside0.mk H
   clear H
   have p156 : 0 ≤ (a1 : Int):=of_decide_eq_true (by first|(with_reducible assumption)|assumption)
   have q156 : a1 < (l0.length : Int):=of_decide_eq_true (by first|(with_reducible assumption)|assumption)
   obtain ⟨ad156,e156,hx156_0,hx156_1,hx156_2,hx156_3,hx156_4⟩:=at_T46 HR0.out a1 p156 q156
   cases e156
   replace p156:=eq_true p156
   replace q156:=eq_true q156
   go_enter Tryd.func39,Tryd.ntmps39
   go_upto_region 2 with (first|((with_reducible refine gate_dst (N:=11) rfl ?_);refine box_event ?hg (N:=11) ?hd (cs:=#[.int .i64 0,.int .i64 0,.int .i64 0,.string (⟨#[]⟩ : ByteArray),.string (⟨#[]⟩ : ByteArray)]) (t:=46) ?hr ?_;(case hd => rfl);(case hg => rfl);(case hr => first|(go_simp;done)|(go_simp;rfl));intro gb157 hg w9 hbox hb;have n0_:=Aside0.mk (below_step (by repeat (first|(with_reducible first|exact HB.out|apply below_alloc|apply pw_below_drewN|apply below_drew1)|exact HB.out)) hb);have n1_:=Aside0.mk (hbox);have n2_:=Aside0.mk ((by rw [hg];exact (below_size (by repeat (first|(with_reducible first|exact HB.out|apply below_alloc|apply pw_below_drewN|apply below_drew1)|exact HB.out))) : w.heap.size ≤ gb157));have n3_:=Aside0.mk ((by rw [hg];exact (below_size (by repeat (first|(with_reducible first|exact HB.out|apply below_alloc|apply pw_below_drewN|apply below_drew1)|exact HB.out))) : w.heap.size ≤ gb157));clear HB;have HB:=n0_;have BK157:=n1_;have GW157:=n2_;have GE157:=n3_;clear n0_ n1_ n2_ n3_;clear hb hbox hg;have hcz10_0 : w9.cell? ⟨gb157,0,none⟩ = some (.int .i64 0):=(blk_cell BK157.out 0).trans rfl;have hcz10_1 : w9.cell? ⟨gb157,1,none⟩ = some (.int .i64 0):=(blk_cell BK157.out 1).trans rfl;have hcz10_2 : w9.cell? ⟨gb157,2,none⟩ = some (.int .i64 0):=(blk_cell BK157.out 2).trans rfl;have hcz10_3 : w9.cell? ⟨gb157,3,none⟩ = some (.string (⟨#[]⟩ : ByteArray)):=(blk_cell BK157.out 3).trans rfl;have hcz10_4 : w9.cell? ⟨gb157,4,none⟩ = some (.string (⟨#[]⟩ : ByteArray)):=(blk_cell BK157.out 4).trans rfl;have hfz10_0:=blk_frozen BK157.out 0;have hfz10_1:=blk_frozen BK157.out 1;have hfz10_2:=blk_frozen BK157.out 2;have hfz10_3:=blk_frozen BK157.out 3;have hfz10_4:=blk_frozen BK157.out 4))
   (try simp only [Act.put,List.setIfInBounds_toArray,List.set_cons_zero,List.set_cons_succ])
   go_cut [28] (fun v28 wc => ∃ (kq : Nat) (x28_7 : Bool),v28 = .bool x28_7 ∧ Aside0 (jsontext_check.j0 kq l0 a1 a4 x28_7 ((rd_T46 l0 a1).f0) ((rd_T46 l0 a1).f1) ((rd_T46 l0 a1).f2) ((rd_T46 l0 a1).f3) ((rd_T46 l0 a1).f4) = some r) ∧ Aside0 (kq ≤ k) ∧ Aside0 (wc.heap[gb157]? = some (.cells #[.int .i64 ((rd_T46 l0 a1).f0),.int .i64 ((rd_T46 l0 a1).f1),.int .i64 ((rd_T46 l0 a1).f2),.string ((rd_T46 l0 a1).f3),.string ((rd_T46 l0 a1).f4)] 46 (0,0))) ∧ Aside0 (Below w.heap.size w wc))
   case first =>
    have H:=HC8.out
    clear HC8
    replace H:=Option.bind_eq_some_iff.mp H
    obtain ⟨t158,A110,H⟩:=H
    replace H : (if t158 = true then (jsontext_check.j0 k l0 a1 a4 true ((rd_T46 l0 a1).f0) ((rd_T46 l0 a1).f1) ((rd_T46 l0 a1).f2) ((rd_T46 l0 a1).f3) ((rd_T46 l0 a1).f4)) else (jsontext_check.j0 k l0 a1 a4 (decide (((rd_T46 l0 a1).f1) > (wrap64 (a2 - a1)))) ((rd_T46 l0 a1).f0) ((rd_T46 l0 a1).f1) ((rd_T46 l0 a1).f2) ((rd_T46 l0 a1).f3) ((rd_T46 l0 a1).f4))) = some r:=H
    have A11:=Aside0.mk A110
    clear A110
    by_cases c12 : t158 = true
    ·subst c12
     have H1 : (jsontext_check.j0 k l0 a1 a4 true ((rd_T46 l0 a1).f0) ((rd_T46 l0 a1).f1) ((rd_T46 l0 a1).f2) ((rd_T46 l0 a1).f3) ((rd_T46 l0 a1).f4)) = some r:=by rw [if_pos rfl] at H;exact H
     clear H
     have H:=H1
     clear H1
     have H':=Aside0.mk H
     clear H
     have hcz13_0 : w9.cell? ⟨gb157,0,none⟩ = some (.int .i64 0):=(blk_cell BK157.out 0).trans rfl
     have hcz13_1 : w9.cell? ⟨gb157,1,none⟩ = some (.int .i64 0):=(blk_cell BK157.out 1).trans rfl
     have hcz13_2 : w9.cell? ⟨gb157,2,none⟩ = some (.int .i64 0):=(blk_cell BK157.out 2).trans rfl
     have hcz13_3 : w9.cell? ⟨gb157,3,none⟩ = some (.string (⟨#[]⟩ : ByteArray)):=(blk_cell BK157.out 3).trans rfl
     have hcz13_4 : w9.cell? ⟨gb157,4,none⟩ = some (.string (⟨#[]⟩ : ByteArray)):=(blk_cell BK157.out 4).trans rfl
     have hfz13_0:=blk_frozen BK157.out 0
     have hfz13_1:=blk_frozen BK157.out 1
     have hfz13_2:=blk_frozen BK157.out 2
     have hfz13_3:=blk_frozen BK157.out 3
     have hfz13_4:=blk_frozen BK157.out 4
     go_wp2_with (first|((with_reducible refine gate_callee (f:=63) rfl ?_);refine goesL_ (some 20) rfl rfl Tryd.func63 (by kernel_rfl) rfl #[.agg #[.int .i64 ((rd_T46 l0 a1).f0),.int .i64 ((rd_T46 l0 a1).f1),.int .i64 ((rd_T46 l0 a1).f2),.string ((rd_T46 l0 a1).f3),.string ((rd_T46 l0 a1).f4)],.bool a3,.int .i64 a4] rfl (by (try simp only [List.map_toArray,List.map_cons,List.map_nil]);first|done|rfl|(simp only [List.length_drop,List.length_take];rfl)) ?_;(with_reducible refine (jsontext_wrong.calls k ((rd_T46 l0 a1).f0) ((rd_T46 l0 a1).f1) ((rd_T46 l0 a1).f2) ((rd_T46 l0 a1).f3) ((rd_T46 l0 a1).f4) a3 a4 true _ ?side1 A11.out).mono ?_);(case side1 => first|exact HGU8.out|exact GlobU8.below HGU8.out (by repeat (first|(with_reducible first|exact HB.out|apply below_alloc|apply pw_below_drewN|apply below_drew1|refine below_set ?_ GE157.out)|exact HB.out))|exact GlobU8.drawn HGU8.out (by repeat (first|exact Drawn0.refl _|apply Drawn0.step)));rintro e w14 ⟨rfl,hb⟩;refine ⟨_,rfl,?_⟩;have n0_:=Aside0.mk (blk_below (g:=gb157) (o:=.cells #[.int .i64 ((rd_T46 l0 a1).f0),.int .i64 ((rd_T46 l0 a1).f1),.int .i64 ((rd_T46 l0 a1).f2),.string ((rd_T46 l0 a1).f3),.string ((rd_T46 l0 a1).f4)] 46 (0,0)) (by (with_reducible repeat (first|refine blk_drewN ?_ _|refine blk_drew ?_|refine blk_alloc ?_ _));refine blk_put (cs:=#[.int .i64 ((rd_T46 l0 a1).f0),.int .i64 ((rd_T46 l0 a1).f1),.int .i64 ((rd_T46 l0 a1).f2),.string ((rd_T46 l0 a1).f3),.string (⟨#[]⟩ : ByteArray)]) ?_ 4 _ rfl;(with_reducible repeat (first|refine blk_drewN ?_ _|refine blk_drew ?_|refine blk_alloc ?_ _));refine blk_put (cs:=#[.int .i64 ((rd_T46 l0 a1).f0),.int .i64 ((rd_T46 l0 a1).f1),.int .i64 ((rd_T46 l0 a1).f2),.string (⟨#[]⟩ : ByteArray),.string (⟨#[]⟩ : ByteArray)]) ?_ 3 _ rfl;(with_reducible repeat (first|refine blk_drewN ?_ _|refine blk_drew ?_|refine blk_alloc ?_ _));refine blk_put (cs:=#[.int .i64 ((rd_T46 l0 a1).f0),.int .i64 ((rd_T46 l0 a1).f1),.int .i64 0,.string (⟨#[]⟩ : ByteArray),.string (⟨#[]⟩ : ByteArray)]) ?_ 2 _ rfl;(with_reducible repeat (first|refine blk_drewN ?_ _|refine blk_drew ?_|refine blk_alloc ?_ _));refine blk_put (cs:=#[.int .i64 ((rd_T46 l0 a1).f0),.int .i64 0,.int .i64 0,.string (⟨#[]⟩ : ByteArray),.string (⟨#[]⟩ : ByteArray)]) ?_ 1 _ rfl;(with_reducible repeat (first|refine blk_drewN ?_ _|refine blk_drew ?_|refine blk_alloc ?_ _));refine blk_put (cs:=#[.int .i64 0,.int .i64 0,.int .i64 0,.string (⟨#[]⟩ : ByteArray),.string (⟨#[]⟩ : ByteArray)]) ?_ 0 _ rfl;(with_reducible repeat (first|refine blk_drewN ?_ _|refine blk_drew ?_|refine blk_alloc ?_ _));exact BK157.out) hb);have n1_:=Aside0.mk (below_step (by repeat (first|(with_reducible first|exact HB.out|apply below_alloc|apply pw_below_drewN|apply below_drew1|refine below_set ?_ GE157.out)|exact HB.out)) hb);clear BK157;clear HB;have BK157:=n0_;have HB:=n1_;clear n0_ n1_;(try clear hb);(try clear hb2);(try clear hk);(try clear hi)))
     go_meet
     case rel => exact ⟨_,(true),(by first|rfl|(simp;done)|(simp;decide +kernel)|(simp [*];done)),(by first|exact H'|(subst_vars;exact H')),⟨by first|omega|exact Nat.le_refl _⟩,⟨by (with_reducible repeat (first|refine blk_drewN ?_ _|refine blk_drew ?_|refine blk_alloc ?_ _));exact BK157.out⟩,⟨by repeat (first|(with_reducible first|exact HB.out|apply below_alloc|apply pw_below_drewN|apply below_drew1|refine below_set ?_ GE157.out)|exact HB.out)⟩⟩
    ·replace c12:=Bool.eq_false_iff.mpr c12
     subst c12
     have H1 : (jsontext_check.j0 k l0 a1 a4 (decide (((rd_T46 l0 a1).f1) > (wrap64 (a2 - a1)))) ((rd_T46 l0 a1).f0) ((rd_T46 l0 a1).f1) ((rd_T46 l0 a1).f2) ((rd_T46 l0 a1).f3) ((rd_T46 l0 a1).f4)) = some r:=by rw [if_neg (show ¬ (false = true) by decide)] at H;exact H
     clear H
     have H:=H1
     clear H1
     have H':=Aside0.mk H
     clear H
     have hcz15_0 : w9.cell? ⟨gb157,0,none⟩ = some (.int .i64 0):=(blk_cell BK157.out 0).trans rfl
     have hcz15_1 : w9.cell? ⟨gb157,1,none⟩ = some (.int .i64 0):=(blk_cell BK157.out 1).trans rfl
     have hcz15_2 : w9.cell? ⟨gb157,2,none⟩ = some (.int .i64 0):=(blk_cell BK157.out 2).trans rfl
     have hcz15_3 : w9.cell? ⟨gb157,3,none⟩ = some (.string (⟨#[]⟩ : ByteArray)):=(blk_cell BK157.out 3).trans rfl
     have hcz15_4 : w9.cell? ⟨gb157,4,none⟩ = some (.string (⟨#[]⟩ : ByteArray)):=(blk_cell BK157.out 4).trans rfl
     have hfz15_0:=blk_frozen BK157.out 0
     have hfz15_1:=blk_frozen BK157.out 1
     have hfz15_2:=blk_frozen BK157.out 2
     have hfz15_3:=blk_frozen BK157.out 3
     have hfz15_4:=blk_frozen BK157.out 4
     go_wp2_with (first|((with_reducible refine gate_callee (f:=63) rfl ?_);refine goesL_ (some 20) rfl rfl Tryd.func63 (by kernel_rfl) rfl #[.agg #[.int .i64 ((rd_T46 l0 a1).f0),.int .i64 ((rd_T46 l0 a1).f1),.int .i64 ((rd_T46 l0 a1).f2),.string ((rd_T46 l0 a1).f3),.string ((rd_T46 l0 a1).f4)],.bool a3,.int .i64 a4] rfl (by (try simp only [List.map_toArray,List.map_cons,List.map_nil]);first|done|rfl|(simp only [List.length_drop,List.length_take];rfl)) ?_;(with_reducible refine (jsontext_wrong.calls k ((rd_T46 l0 a1).f0) ((rd_T46 l0 a1).f1) ((rd_T46 l0 a1).f2) ((rd_T46 l0 a1).f3) ((rd_T46 l0 a1).f4) a3 a4 false _ ?side1 A11.out).mono ?_);(case side1 => first|exact HGU8.out|exact GlobU8.below HGU8.out (by repeat (first|(with_reducible first|exact HB.out|apply below_alloc|apply pw_below_drewN|apply below_drew1|refine below_set ?_ GE157.out)|exact HB.out))|exact GlobU8.drawn HGU8.out (by repeat (first|exact Drawn0.refl _|apply Drawn0.step)));rintro e w16 ⟨rfl,hb⟩;refine ⟨_,rfl,?_⟩;have n0_:=Aside0.mk (blk_below (g:=gb157) (o:=.cells #[.int .i64 ((rd_T46 l0 a1).f0),.int .i64 ((rd_T46 l0 a1).f1),.int .i64 ((rd_T46 l0 a1).f2),.string ((rd_T46 l0 a1).f3),.string ((rd_T46 l0 a1).f4)] 46 (0,0)) (by (with_reducible repeat (first|refine blk_drewN ?_ _|refine blk_drew ?_|refine blk_alloc ?_ _));refine blk_put (cs:=#[.int .i64 ((rd_T46 l0 a1).f0),.int .i64 ((rd_T46 l0 a1).f1),.int .i64 ((rd_T46 l0 a1).f2),.string ((rd_T46 l0 a1).f3),.string (⟨#[]⟩ : ByteArray)]) ?_ 4 _ rfl;(with_reducible repeat (first|refine blk_drewN ?_ _|refine blk_drew ?_|refine blk_alloc ?_ _));refine blk_put (cs:=#[.int .i64 ((rd_T46 l0 a1).f0),.int .i64 ((rd_T46 l0 a1).f1),.int .i64 ((rd_T46 l0 a1).f2),.string (⟨#[]⟩ : ByteArray),.string (⟨#[]⟩ : ByteArray)]) ?_ 3 _ rfl;(with_reducible repeat (first|refine blk_drewN ?_ _|refine blk_drew ?_|refine blk_alloc ?_ _));refine blk_put (cs:=#[.int .i64 ((rd_T46 l0 a1).f0),.int .i64 ((rd_T46 l0 a1).f1),.int .i64 0,.string (⟨#[]⟩ : ByteArray),.string (⟨#[]⟩ : ByteArray)]) ?_ 2 _ rfl;(with_reducible repeat (first|refine blk_drewN ?_ _|refine blk_drew ?_|refine blk_alloc ?_ _));refine blk_put (cs:=#[.int .i64 ((rd_T46 l0 a1).f0),.int .i64 0,.int .i64 0,.string (⟨#[]⟩ : ByteArray),.string (⟨#[]⟩ : ByteArray)]) ?_ 1 _ rfl;(with_reducible repeat (first|refine blk_drewN ?_ _|refine blk_drew ?_|refine blk_alloc ?_ _));refine blk_put (cs:=#[.int .i64 0,.int .i64 0,.int .i64 0,.string (⟨#[]⟩ : ByteArray),.string (⟨#[]⟩ : ByteArray)]) ?_ 0 _ rfl;(with_reducible repeat (first|refine blk_drewN ?_ _|refine blk_drew ?_|refine blk_alloc ?_ _));exact BK157.out) hb);have n1_:=Aside0.mk (below_step (by repeat (first|(with_reducible first|exact HB.out|apply below_alloc|apply pw_below_drewN|apply below_drew1|refine below_set ?_ GE157.out)|exact HB.out)) hb);clear BK157;clear HB;have BK157:=n0_;have HB:=n1_;clear n0_ n1_;(try clear hb);(try clear hb2);(try clear hk);(try clear hi);have hcz17_0 : w16.cell? ⟨gb157,0,none⟩ = some (.int .i64 ((rd_T46 l0 a1).f0)):=(blk_cell BK157.out 0).trans rfl;have hcz17_1 : w16.cell? ⟨gb157,1,none⟩ = some (.int .i64 ((rd_T46 l0 a1).f1)):=(blk_cell BK157.out 1).trans rfl;have hcz17_2 : w16.cell? ⟨gb157,2,none⟩ = some (.int .i64 ((rd_T46 l0 a1).f2)):=(blk_cell BK157.out 2).trans rfl;have hcz17_3 : w16.cell? ⟨gb157,3,none⟩ = some (.string ((rd_T46 l0 a1).f3)):=(blk_cell BK157.out 3).trans rfl;have hcz17_4 : w16.cell? ⟨gb157,4,none⟩ = some (.string ((rd_T46 l0 a1).f4)):=(blk_cell BK157.out 4).trans rfl;have hfz17_0:=blk_frozen BK157.out 0;have hfz17_1:=blk_frozen BK157.out 1;have hfz17_2:=blk_frozen BK157.out 2;have hfz17_3:=blk_frozen BK157.out 3;have hfz17_4:=blk_frozen BK157.out 4))
     go_meet
     case rel => exact ⟨_,(decide (((rd_T46 l0 a1).f1) > (wrap64 (a2 - a1)))),(by first|rfl|(simp;done)|(simp;decide +kernel)|(simp [*];done)),(by first|exact H'|(subst_vars;exact H')),⟨by first|omega|exact Nat.le_refl _⟩,⟨by (with_reducible repeat (first|refine blk_drewN ?_ _|refine blk_drew ?_|refine blk_alloc ?_ _));exact BK157.out⟩,⟨by repeat (first|(with_reducible first|exact HB.out|apply below_alloc|apply pw_below_drewN|apply below_drew1|refine below_set ?_ GE157.out)|exact HB.out)⟩⟩
   case rest =>
    clear HC8
    try clear c1
    try clear p1
    try clear q1
    try clear hx1
    try clear p2
    try clear c3
    try clear c6
    try clear c6b0
    try clear p6
    try clear c7
    try clear c7b0
    try clear c12
    try clear p15
    try clear q15
    try clear hx15
    try clear hcz10_0
    try clear hcz10_1
    try clear hcz10_2
    try clear hcz10_3
    try clear hcz10_4
    try clear hcz13_0
    try clear hcz13_1
    try clear hcz13_2
    try clear hcz13_3
    try clear hcz13_4
    try clear hcz15_0
    try clear hcz15_1
    try clear hcz15_2
    try clear hcz15_3
    try clear hcz15_4
    try clear hcz17_0
    try clear hcz17_1
    try clear hcz17_2
    try clear hcz17_3
    try clear hcz17_4
    try clear hfz10_0
    try clear hfz10_1
    try clear hfz10_2
    try clear hfz10_3
    try clear hfz10_4
    try clear hfz13_0
    try clear hfz13_1
    try clear hfz13_2
    try clear hfz13_3
    try clear hfz13_4
    try clear hfz15_0
    try clear hfz15_1
    try clear hfz15_2
    try clear hfz15_3
    try clear hfz15_4
    try clear hfz17_0
    try clear hfz17_1
    try clear hfz17_2
    try clear hfz17_3
    try clear hfz17_4
    try clear hx156_0
    try clear hx156_1
    try clear hx156_2
    try clear hx156_3
    try clear hx156_4
    try clear p156
    try clear q156
    obtain ⟨kq,x28_7,rfl,HA,HJ7,BK157,HB⟩:=hcut
    cases kq with
    | zero => exact absurd HA.out (by simp [jsontext_check.j0])
    | succ kj7 =>
     have H:=HA.out
     clear HA
     simp only [jsontext_check.j0] at H
     by_cases c18 : x28_7 = true
     ·subst c18
      have H1 : (some false) = some r:=by rw [if_pos rfl] at H;exact H
      clear H
      have H:=H1
      clear H1
      obtain rfl:=Option.some.inj H
      go_wp2
      go_ret
      exact ⟨by first|rfl|(simp [errW_none,errW_some] <;> rfl)|(simp [*,errW_none,errW_some] <;> rfl),by repeat (first|(with_reducible first|exact HB.out|apply below_alloc|apply pw_below_drewN|apply below_drew1|refine below_set ?_ GE157.out)|exact HB.out)⟩
     ·replace c18:=Bool.eq_false_iff.mpr c18
      subst c18
      have H1 : (jsontext_check.l0 kj7 l0 a1 a4 (wrap64 (a1 + 1)) ((rd_T46 l0 a1).f2) 0 ((rd_T46 l0 a1).f0) ((rd_T46 l0 a1).f1) ((rd_T46 l0 a1).f2) ((rd_T46 l0 a1).f3) ((rd_T46 l0 a1).f4)) = some r:=by rw [if_neg (show ¬ (false = true) by decide)] at H;exact H
      clear H
      have H:=H1
      clear H1
      have H':=Aside0.mk H
      clear H
      have hcz19_0 : wc.cell? ⟨gb157,0,none⟩ = some (.int .i64 ((rd_T46 l0 a1).f0)):=(blk_cell BK157.out 0).trans rfl
      have hcz19_1 : wc.cell? ⟨gb157,1,none⟩ = some (.int .i64 ((rd_T46 l0 a1).f1)):=(blk_cell BK157.out 1).trans rfl
      have hcz19_2 : wc.cell? ⟨gb157,2,none⟩ = some (.int .i64 ((rd_T46 l0 a1).f2)):=(blk_cell BK157.out 2).trans rfl
      have hcz19_3 : wc.cell? ⟨gb157,3,none⟩ = some (.string ((rd_T46 l0 a1).f3)):=(blk_cell BK157.out 3).trans rfl
      have hcz19_4 : wc.cell? ⟨gb157,4,none⟩ = some (.string ((rd_T46 l0 a1).f4)):=(blk_cell BK157.out 4).trans rfl
      have hfz19_0:=blk_frozen BK157.out 0
      have hfz19_1:=blk_frozen BK157.out 1
      have hfz19_2:=blk_frozen BK157.out 2
      have hfz19_3:=blk_frozen BK157.out 3
      have hfz19_4:=blk_frozen BK157.out 4
      go_wp2
      go_loopg [12,33] kj7 (fun kq v12 v33 w' => ∃ (x12_2 : Int) (x33_2 : Int),v12 = .int .i64 x12_2 ∧ v33 = .int .i64 x33_2 ∧ Aside0 (jsontext_check.l0 kq l0 a1 a4 x12_2 ((rd_T46 l0 a1).f2) x33_2 ((rd_T46 l0 a1).f0) ((rd_T46 l0 a1).f1) ((rd_T46 l0 a1).f2) ((rd_T46 l0 a1).f3) ((rd_T46 l0 a1).f4) = some r) ∧ Aside0 (kq ≤ kj7) ∧ Aside0 (w'.heap[gb157]? = some (.cells #[.int .i64 ((rd_T46 l0 a1).f0),.int .i64 ((rd_T46 l0 a1).f1),.int .i64 ((rd_T46 l0 a1).f2),.string ((rd_T46 l0 a1).f3),.string ((rd_T46 l0 a1).f4)] 46 (0,0))) ∧ Aside0 (Below w.heap.size w w'))
      case atStart => exact ⟨(wrap64 (a1 + 1)),(0),(by first|rfl|(simp;done)|(simp;decide +kernel)|(simp [*];done)),(by first|rfl|(simp;done)|(simp;decide +kernel)|(simp [*];done)),(by first|exact H'|(subst_vars;exact H')),⟨Nat.le_refl _⟩,⟨by (with_reducible repeat (first|refine blk_drewN ?_ _|refine blk_drew ?_|refine blk_alloc ?_ _));exact BK157.out⟩,⟨by repeat (first|(with_reducible first|exact HB.out|apply below_alloc|apply pw_below_drewN|apply below_drew1|refine below_set ?_ GE157.out)|exact HB.out)⟩⟩
      case round =>
       clear H'
       try clear c1
       try clear p1
       try clear q1
       try clear hx1
       try clear p2
       try clear c3
       try clear c6
       try clear c6b0
       try clear p6
       try clear c7
       try clear c7b0
       try clear c12
       try clear p15
       try clear q15
       try clear hx15
       try clear c18
       try clear hcz10_0
       try clear hcz10_1
       try clear hcz10_2
       try clear hcz10_3
       try clear hcz10_4
       try clear hcz13_0
       try clear hcz13_1
       try clear hcz13_2
       try clear hcz13_3
       try clear hcz13_4
       try clear hcz15_0
       try clear hcz15_1
       try clear hcz15_2
       try clear hcz15_3
       try clear hcz15_4
       try clear hcz17_0
       try clear hcz17_1
       try clear hcz17_2
       try clear hcz17_3
       try clear hcz17_4
       try clear hcz19_0
       try clear hcz19_1
       try clear hcz19_2
       try clear hcz19_3
       try clear hcz19_4
       try clear hfz10_0
       try clear hfz10_1
       try clear hfz10_2
       try clear hfz10_3
       try clear hfz10_4
       try clear hfz13_0
       try clear hfz13_1
       try clear hfz13_2
       try clear hfz13_3
       try clear hfz13_4
       try clear hfz15_0
       try clear hfz15_1
       try clear hfz15_2
       try clear hfz15_3
       try clear hfz15_4
       try clear hfz17_0
       try clear hfz17_1
       try clear hfz17_2
       try clear hfz17_3
       try clear hfz17_4
       try clear hfz19_0
       try clear hfz19_1
       try clear hfz19_2
       try clear hfz19_3
       try clear hfz19_4
       try clear hx156_0
       try clear hx156_1
       try clear hx156_2
       try clear hx156_3
       try clear hx156_4
       try clear p1
       try clear p15
       try clear p156
       try clear p2
       try clear p6
       try clear q1
       try clear q15
       try clear q156
       obtain ⟨x12_2,x33_2,rfl,rfl,HA,HK2,BK157,HB⟩:=hrel
       cases gk with
       | zero => exact absurd HA.out (by simp [jsontext_check.l0])
       | succ k2 =>
        have H:=HA.out
        clear HA
        simp only [jsontext_check.l0] at H
        by_cases c20 : x33_2 < ((rd_T46 l0 a1).f2)
        ·rw [if_pos c20] at H
         have c20b0 : decide (x33_2 < ((rd_T46 l0 a1).f2)) = true:=decide_eq_true c20
         clear c20
         by_cases c21 : x12_2 ≥ (wrap64 (a1 + ((rd_T46 l0 a1).f1)))
         ·rw [if_pos c21] at H
          have c21b0 : decide ((wrap64 (a1 + ((rd_T46 l0 a1).f1))) ≤ x12_2) = true:=decide_eq_true c21
          clear c21
          obtain rfl:=Option.some.inj H
          have hcz22_0 : wr.cell? ⟨gb157,0,none⟩ = some (.int .i64 ((rd_T46 l0 a1).f0)):=(blk_cell BK157.out 0).trans rfl
          have hcz22_1 : wr.cell? ⟨gb157,1,none⟩ = some (.int .i64 ((rd_T46 l0 a1).f1)):=(blk_cell BK157.out 1).trans rfl
          have hcz22_2 : wr.cell? ⟨gb157,2,none⟩ = some (.int .i64 ((rd_T46 l0 a1).f2)):=(blk_cell BK157.out 2).trans rfl
          have hcz22_3 : wr.cell? ⟨gb157,3,none⟩ = some (.string ((rd_T46 l0 a1).f3)):=(blk_cell BK157.out 3).trans rfl
          have hcz22_4 : wr.cell? ⟨gb157,4,none⟩ = some (.string ((rd_T46 l0 a1).f4)):=(blk_cell BK157.out 4).trans rfl
          have hfz22_0:=blk_frozen BK157.out 0
          have hfz22_1:=blk_frozen BK157.out 1
          have hfz22_2:=blk_frozen BK157.out 2
          have hfz22_3:=blk_frozen BK157.out 3
          have hfz22_4:=blk_frozen BK157.out 4
          go_wp2
          go_ret
          exact ⟨by first|rfl|(simp [errW_none,errW_some] <;> rfl)|(simp [*,errW_none,errW_some] <;> rfl),by repeat (first|(with_reducible first|exact HB.out|apply below_alloc|apply pw_below_drewN|apply below_drew1|refine below_set ?_ GE157.out)|exact HB.out)⟩
         ·rw [if_neg c21] at H
          have c21b0 : decide ((wrap64 (a1 + ((rd_T46 l0 a1).f1))) ≤ x12_2) = false:=decide_eq_false c21
          clear c21
          replace H:=Option.bind_eq_some_iff.mp H
          obtain ⟨t159,A230,H⟩:=H
          replace H : (if t159 = true then (if 0 ≤ x12_2 then (if x12_2 < (l0.length : Int) then (jsontext_check.l0 k2 l0 a1 a4 (wrap64 (x12_2 + ((rd_T46 l0 x12_2).f1))) ((rd_T46 l0 a1).f2) (wrap64 (x33_2 + 1)) ((rd_T46 l0 a1).f0) ((rd_T46 l0 a1).f1) ((rd_T46 l0 a1).f2) ((rd_T46 l0 a1).f3) ((rd_T46 l0 a1).f4)) else (none)) else (none)) else (some false)) = some r:=H
          have A23:=Aside0.mk A230
          clear A230
          by_cases c24 : t159 = true
          ·subst c24
           have H1 : (if 0 ≤ x12_2 then (if x12_2 < (l0.length : Int) then (jsontext_check.l0 k2 l0 a1 a4 (wrap64 (x12_2 + ((rd_T46 l0 x12_2).f1))) ((rd_T46 l0 a1).f2) (wrap64 (x33_2 + 1)) ((rd_T46 l0 a1).f0) ((rd_T46 l0 a1).f1) ((rd_T46 l0 a1).f2) ((rd_T46 l0 a1).f3) ((rd_T46 l0 a1).f4)) else (none)) else (none)) = some r:=by rw [if_pos rfl] at H;exact H
           clear H
           have H:=H1
           clear H1
           by_cases c25 : 0 ≤ x12_2
           ·rw [if_pos c25] at H
            have c25b0 : decide (0 ≤ x12_2) = true:=decide_eq_true c25
            clear c25
            by_cases c26 : x12_2 < (l0.length : Int)
            ·rw [if_pos c26] at H
             have c26b0 : decide (x12_2 < (l0.length : Int)) = true:=decide_eq_true c26
             clear c26
             have H':=Aside0.mk H
             clear H
             have hcz27_0 : wr.cell? ⟨gb157,0,none⟩ = some (.int .i64 ((rd_T46 l0 a1).f0)):=(blk_cell BK157.out 0).trans rfl
             have hcz27_1 : wr.cell? ⟨gb157,1,none⟩ = some (.int .i64 ((rd_T46 l0 a1).f1)):=(blk_cell BK157.out 1).trans rfl
             have hcz27_2 : wr.cell? ⟨gb157,2,none⟩ = some (.int .i64 ((rd_T46 l0 a1).f2)):=(blk_cell BK157.out 2).trans rfl
             have hcz27_3 : wr.cell? ⟨gb157,3,none⟩ = some (.string ((rd_T46 l0 a1).f3)):=(blk_cell BK157.out 3).trans rfl
             have hcz27_4 : wr.cell? ⟨gb157,4,none⟩ = some (.string ((rd_T46 l0 a1).f4)):=(blk_cell BK157.out 4).trans rfl
             have hfz27_0:=blk_frozen BK157.out 0
             have hfz27_1:=blk_frozen BK157.out 1
             have hfz27_2:=blk_frozen BK157.out 2
             have hfz27_3:=blk_frozen BK157.out 3
             have hfz27_4:=blk_frozen BK157.out 4
             go_wp2_with (first|(go_at_call 39;(with_reducible refine (ih k2 (by have:=HJ7.out;have:=HK2.out;omega) _ _ l0 x12_2 (wrap64 (a1 + ((rd_T46 l0 a1).f1))) (((rd_T46 l0 a1).f0) == 7) (wrap64 (a4 + 1)) true _ ?side3 ?side1 ?side2 A23.out).mono ?_);(case side1 => repeat (first|exact (Kd.C_below HR0.out HB.out)|(with_reducible refine Kd.C_alloc ?_ _)|(with_reducible refine Kd.C_drewN ?_ _)|(with_reducible refine Kd.C_drew ?_)));(case side2 => exact HC0.out);(case side3 => first|exact HGU8.out|exact GlobU8.below HGU8.out (by repeat (first|(with_reducible first|exact HB.out|apply below_alloc|apply pw_below_drewN|apply below_drew1|refine below_set ?_ GE157.out)|exact HB.out))|exact GlobU8.drawn HGU8.out (by repeat (first|exact Drawn0.refl _|apply Drawn0.step)));rintro e w28 ⟨rfl,hb⟩;have n0_:=Aside0.mk (blk_below (g:=gb157) (o:=.cells #[.int .i64 ((rd_T46 l0 a1).f0),.int .i64 ((rd_T46 l0 a1).f1),.int .i64 ((rd_T46 l0 a1).f2),.string ((rd_T46 l0 a1).f3),.string ((rd_T46 l0 a1).f4)] 46 (0,0)) (by (with_reducible repeat (first|refine blk_drewN ?_ _|refine blk_drew ?_|refine blk_alloc ?_ _));exact BK157.out) hb);have n1_:=Aside0.mk (below_step (by repeat (first|(with_reducible first|exact HB.out|apply below_alloc|apply pw_below_drewN|apply below_drew1|refine below_set ?_ GE157.out)|exact HB.out)) hb);clear BK157;clear HB;have BK157:=n0_;have HB:=n1_;clear n0_ n1_;(try clear hb);(try clear hb2);(try clear hk);(try clear hi);have p160 : 0 ≤ (x12_2 : Int):=of_decide_eq_true (by first|(with_reducible assumption)|assumption);have q160 : x12_2 < (l0.length : Int):=of_decide_eq_true (by first|(with_reducible assumption)|assumption);obtain ⟨ad160,e160,hx160_0,hx160_1,hx160_2,hx160_3,hx160_4⟩:=at_T46 HR0.out x12_2 p160 q160;obtain rfl : ad156 = ad160:=(by injection e160);replace hx160_0:=(HB.out.cell (World.block_lt_of_cell? w _ hx160_0)).trans hx160_0;replace hx160_1:=(HB.out.cell (World.block_lt_of_cell? w _ hx160_1)).trans hx160_1;replace hx160_2:=(HB.out.cell (World.block_lt_of_cell? w _ hx160_2)).trans hx160_2;replace hx160_3:=(HB.out.cell (World.block_lt_of_cell? w _ hx160_3)).trans hx160_3;replace hx160_4:=(HB.out.cell (World.block_lt_of_cell? w _ hx160_4)).trans hx160_4;replace p160:=eq_true p160;replace q160:=eq_true q160))
             go_roundg k2
             case measure => have:=HJ7.out;have:=HK2.out;omega
             case rel => exact ⟨(wrap64 (x12_2 + ((rd_T46 l0 x12_2).f1))),(wrap64 (x33_2 + 1)),(by first|rfl|(simp;done)|(simp;decide +kernel)|(simp [*];done)),(by first|rfl|(simp;done)|(simp;decide +kernel)|(simp [*];done)),(by first|exact H'|(subst_vars;exact H')),⟨by have:=HJ7.out;have:=HK2.out;omega⟩,⟨by (with_reducible repeat (first|refine blk_drewN ?_ _|refine blk_drew ?_|refine blk_alloc ?_ _));exact BK157.out⟩,⟨by repeat (first|(with_reducible first|exact HB.out|apply below_alloc|apply pw_below_drewN|apply below_drew1|refine below_set ?_ GE157.out)|exact HB.out)⟩⟩
            ·rw [if_neg c26] at H
             exact absurd H (by simp)
           ·rw [if_neg c25] at H
            exact absurd H (by simp)
          ·replace c24:=Bool.eq_false_iff.mpr c24
           subst c24
           have H1 : (some false) = some r:=by rw [if_neg (show ¬ (false = true) by decide)] at H;exact H
           clear H
           have H:=H1
           clear H1
           obtain rfl:=Option.some.inj H
           have hcz29_0 : wr.cell? ⟨gb157,0,none⟩ = some (.int .i64 ((rd_T46 l0 a1).f0)):=(blk_cell BK157.out 0).trans rfl
           have hcz29_1 : wr.cell? ⟨gb157,1,none⟩ = some (.int .i64 ((rd_T46 l0 a1).f1)):=(blk_cell BK157.out 1).trans rfl
           have hcz29_2 : wr.cell? ⟨gb157,2,none⟩ = some (.int .i64 ((rd_T46 l0 a1).f2)):=(blk_cell BK157.out 2).trans rfl
           have hcz29_3 : wr.cell? ⟨gb157,3,none⟩ = some (.string ((rd_T46 l0 a1).f3)):=(blk_cell BK157.out 3).trans rfl
           have hcz29_4 : wr.cell? ⟨gb157,4,none⟩ = some (.string ((rd_T46 l0 a1).f4)):=(blk_cell BK157.out 4).trans rfl
           have hfz29_0:=blk_frozen BK157.out 0
           have hfz29_1:=blk_frozen BK157.out 1
           have hfz29_2:=blk_frozen BK157.out 2
           have hfz29_3:=blk_frozen BK157.out 3
           have hfz29_4:=blk_frozen BK157.out 4
           go_wp2_with (first|(go_at_call 39;(with_reducible refine (ih k2 (by have:=HJ7.out;have:=HK2.out;omega) _ _ l0 x12_2 (wrap64 (a1 + ((rd_T46 l0 a1).f1))) (((rd_T46 l0 a1).f0) == 7) (wrap64 (a4 + 1)) false _ ?side3 ?side1 ?side2 A23.out).mono ?_);(case side1 => repeat (first|exact (Kd.C_below HR0.out HB.out)|(with_reducible refine Kd.C_alloc ?_ _)|(with_reducible refine Kd.C_drewN ?_ _)|(with_reducible refine Kd.C_drew ?_)));(case side2 => exact HC0.out);(case side3 => first|exact HGU8.out|exact GlobU8.below HGU8.out (by repeat (first|(with_reducible first|exact HB.out|apply below_alloc|apply pw_below_drewN|apply below_drew1|refine below_set ?_ GE157.out)|exact HB.out))|exact GlobU8.drawn HGU8.out (by repeat (first|exact Drawn0.refl _|apply Drawn0.step)));rintro e w30 ⟨rfl,hb⟩;have n0_:=Aside0.mk (blk_below (g:=gb157) (o:=.cells #[.int .i64 ((rd_T46 l0 a1).f0),.int .i64 ((rd_T46 l0 a1).f1),.int .i64 ((rd_T46 l0 a1).f2),.string ((rd_T46 l0 a1).f3),.string ((rd_T46 l0 a1).f4)] 46 (0,0)) (by (with_reducible repeat (first|refine blk_drewN ?_ _|refine blk_drew ?_|refine blk_alloc ?_ _));exact BK157.out) hb);have n1_:=Aside0.mk (below_step (by repeat (first|(with_reducible first|exact HB.out|apply below_alloc|apply pw_below_drewN|apply below_drew1|refine below_set ?_ GE157.out)|exact HB.out)) hb);clear BK157;clear HB;have BK157:=n0_;have HB:=n1_;clear n0_ n1_;(try clear hb);(try clear hb2);(try clear hk);(try clear hi)))
           go_ret
           exact ⟨by first|rfl|(simp [errW_none,errW_some] <;> rfl)|(simp [*,errW_none,errW_some] <;> rfl),by repeat (first|(with_reducible first|exact HB.out|apply below_alloc|apply pw_below_drewN|apply below_drew1|refine below_set ?_ GE157.out)|exact HB.out)⟩
        ·rw [if_neg c20] at H
         have c20b0 : decide (x33_2 < ((rd_T46 l0 a1).f2)) = false:=decide_eq_false c20
         clear c20
         obtain rfl:=Option.some.inj H
         have hcz31_0 : wr.cell? ⟨gb157,0,none⟩ = some (.int .i64 ((rd_T46 l0 a1).f0)):=(blk_cell BK157.out 0).trans rfl
         have hcz31_1 : wr.cell? ⟨gb157,1,none⟩ = some (.int .i64 ((rd_T46 l0 a1).f1)):=(blk_cell BK157.out 1).trans rfl
         have hcz31_2 : wr.cell? ⟨gb157,2,none⟩ = some (.int .i64 ((rd_T46 l0 a1).f2)):=(blk_cell BK157.out 2).trans rfl
         have hcz31_3 : wr.cell? ⟨gb157,3,none⟩ = some (.string ((rd_T46 l0 a1).f3)):=(blk_cell BK157.out 3).trans rfl
         have hcz31_4 : wr.cell? ⟨gb157,4,none⟩ = some (.string ((rd_T46 l0 a1).f4)):=(blk_cell BK157.out 4).trans rfl
         have hfz31_0:=blk_frozen BK157.out 0
         have hfz31_1:=blk_frozen BK157.out 1
         have hfz31_2:=blk_frozen BK157.out 2
         have hfz31_3:=blk_frozen BK157.out 3
         have hfz31_4:=blk_frozen BK157.out 4
         go_wp2
         go_ret
         exact ⟨by first|rfl|(simp [errW_none,errW_some] <;> rfl)|(simp [*,errW_none,errW_some] <;> rfl),by repeat (first|(with_reducible first|exact HB.out|apply below_alloc|apply pw_below_drewN|apply below_drew1|refine below_set ?_ GE157.out)|exact HB.out)⟩
  ·rw [if_neg c7] at H
   exact absurd H (by simp)
 ·rw [if_neg c6] at H
  exact absurd H (by simp)
end Go.Proofs.YtadfkeipcebmfaaDoor.X
