/-
  What the claim's law rests on, part 3 of 8: printed walks, externals, plain lemmas; conditions: none of its own.
-/
import Derived.BigRegion
import Derived.Deep.DeepCutAuto
import Derived.Deep.RegionHeld3
import Derived.Defers
import Derived.Laws.Pointers
import Derived.Recover
import Derived.StillTailTactics
import Derived.Tactics
import Derived.Tactics2
import Derived.Test.YtjehflambbjoaaaDoorMa2
namespace Go.Proofs.YtjehflambbjoaaaDoor.X
open Go.RowKit Go.Proofs.YtjehflambbjoaaaDoorW.PrintWords Go.Proofs.YtjehflambbjoaaaDoorW.PrintLast Go.Proofs.YtjehflambbjoaaaDoorW.PrintMore
set_option linter.unusedVariables false
set_option linter.unusedSimpArgs false
theorem Ch.base_ {g base : Nat} {v v' : Value} {w w' : World} (h : Ch g v v' w w') {p : Nat} {s : ByteArray} {xs : List Nd} (hP : PS w g base s p v xs) (hg : base ≤ g) : Below base w w' :=
 ⟨h.os,h.tape,h.output,h.size,fun k hk => by
  rcases Nat.lt_or_ge k w.heap.size with h1|h1
  ·exact h.block k h1 (by omega) (fun e => by have:=hP.R.base_ k e.symm;omega)
  ·have:=hP.P.lt
   omega⟩
theorem idx_begins (c : UInt8) : decide (Lib.indexByte [123,91,34,45,48,49,50,51,52,53,54,55,56,57,116,102,110] c < 0) = !begins c:=by
 have:=all_bytes (p:=fun c => decide (Lib.indexByte [123,91,34,45,48,49,50,51,52,53,54,55,56,57,116,102,110] c < 0) == !begins c) (by decide +kernel) c
 simpa using this
theorem PS.pushed {wq w3 : World} {g base p : Nat} {s : ByteArray} {v v3 : Value} {xs ys : List Nd} (h : PS wq g base s p v xs) (hr3 : Kd.R kN 24 w3 base (fun _ => True) v3 ys) (hg3 : wq.grownBy w3 v.ownBlock)
  (hat3 : v3.ownBlock = v.ownBlock ∨ ∃ b,v3.ownBlock = some b ∧ wq.heap.size ≤ b) : PS (w3.setCell ⟨g,2,none⟩ v3) g base s p v3 ys ∧ Ch g v v3 wq (w3.setCell ⟨g,2,none⟩ v3) ∧ PB w3 g s p v:=by
 have hP3 : PB w3 g s p v:=(hg3.block g h.P.lt (h.R.ne h.P (by decide))).trans h.P
 refine ⟨⟨hP3.set2 v3,?_⟩,?_,hP3⟩
 ·refine (Row.mk_ hr3).move (fun k hk => Below.heap_setCell w3 ⟨g,2,none⟩ v3 k ?_)
  intro e
  exact (Row.mk_ hr3).ne hP3 (by decide) (by simp only at e;rw [← e];exact hk.symm)
 ·refine ⟨hg3.os,hg3.tape,hg3.output,by simpa [World.setCell] using hg3.size,fun k hk hg hv => ?_,fun k hk => ?_⟩
  ·exact (Below.heap_setCell w3 ⟨g,2,none⟩ v3 k hg).trans (hg3.block k hk hv)
  ·rcases hat3 with h3|⟨b,h3,h4⟩
   ·exact .inl (h3 ▸ hk)
   ·rw [h3] at hk
    injection hk with hk
    exact .inr (by omega)
def nod (key : Bs) : Nd:=⟨0,1,0,str key,str []⟩
set_option maxHeartbeats 4000000 in
set_option maxRecDepth 100000 in
theorem value_step (d deep : Nat) (hd : deep + d = 32) (ih : ∀ d',d = d' + 1 → ValOk d' (deep + 1)) : ValOk d deep:=by
 intro g base s p v xs key l w hs hGU8 hg2 hb2 hbg hP ha hn
 have HP:=Lib.hid hP
 have HA:=Lib.hid ha
 have HG:=Lib.hid hGU8
 have HN:=Lib.hid hn
 have hpl:=ha.le
 have hnl : xs.length < 70000:=by omega
 clear hP ha hGU8 hn
 go_enter Tryd.func70,Tryd.ntmps70
 go_upto_region 1 with (fail)
 have hw2 : Below w.heap.size w ((w.alloc (.cells #[.pointer (some ⟨g,0,none⟩)] 115 (0,0))).alloc (.cells #[.int .i64 (deep : Int)] 3 (0,0))):=((Below.refl _ _).alloc (Nat.le_refl _) _).alloc (by rw [World.size_alloc];omega) _
 have hbox : Box ((w.alloc (.cells #[.pointer (some ⟨g,0,none⟩)] 115 (0,0))).alloc (.cells #[.int .i64 (deep : Int)] 3 (0,0))) w.heap.size (w.heap.size + 1) g deep :=
  ⟨(Lib.alloc_old _ _ _ (by rw [World.size_alloc];omega)).trans (heap_alloc_new w _),by have:=heap_alloc_new (w.alloc (.cells #[.pointer (some ⟨g,0,none⟩)] 115 (0,0))) (.cells #[.int .i64 (deep : Int)] 3 (0,0));rw [World.size_alloc] at this;exact this⟩
 generalize hww : (w.alloc (.cells #[.pointer (some ⟨g,0,none⟩)] 115 (0,0))).alloc (.cells #[.int .i64 (deep : Int)] 3 (0,0)) = w2 at hw2 hbox
 have HWW:=Lib.hid hww
 clear hww
 generalize hB1 : w.heap.size = b1 at hbox
 have HW2:=Lib.hid hw2
 have HBOX:=Lib.hid hbox
 clear hw2 hbox hB1
 have HP2 : Hid (PS w2 g base s p v xs):=Lib.hid ⟨HP.out.P.below HW2.out,HP.out.R.below HW2.out⟩
 have HG2 : Hid (GlobU8 w2):=Lib.hid (HG.out.below HW2.out)
 obtain ⟨x1,x2⟩:=HBOX.out.cells
 obtain ⟨k0,k1,k2⟩:=HP2.out.P.cells
 obtain ⟨f1,f2⟩:=HP2.out.P.free
 clear f1
 cases l with
 | nil =>
  obtain ⟨d1,d2⟩:=at_ge HA.out
  have HO : Hid (value d key [] = .bad [] 5):=Lib.hid (by cases d <;> rfl)
  clear x2 k2 f2
  go_quiet (fail)
  go_wp2_with fail
  have HCq : Hid (Ch g v v w (w2.drewN nq)):=Lib.hid ((Ch.of_below HW2.out).trans (Ch.of_drawn (by repeat (first|exact Drawn0.refl _|apply Drawn0.step|apply drawn_drew))))
  have y1 : (w2.drewN nq).cell? ⟨b1,0,none⟩ = some (.pointer (some ⟨g,0,none⟩)):=x1
  have j1 : (w2.drewN nq).cell? ⟨g,1,none⟩ = some (.int .i64 (p : Int)):=k1
  clear x1 k1 k0
  have x1:=y1
  have k1:=j1
  clear y1 j1
  generalize w2.drewN nq = wq at *
  refine start_ (n:=6) (S:=fun w' => w'.cell? ⟨b1,0,none⟩ = some (.pointer (some ⟨g,0,none⟩)) ∧ w'.cell? ⟨g,1,none⟩ = some (.int .i64 (p : Int))) (ds:=[]) #[false,false,false,false,false,false] (by kernel_rfl) rfl rfl ⟨x1,k1⟩ (fun hHeld => ?_)
  refine take_ (i:=0) (N:=some 20) (v:=?_) (a':=?_) #[true,false,false,false,false,false] rfl rfl (by kernel_rfl) (fun _ _ _ h => h) (Or.inl ⟨by rfl,?_⟩) hHeld ?_ ?_
  rotate_left
  ·rintro w' ⟨s0,s1⟩
   go_simp
   with_reducible rfl
  rotate_left
  ·simp only [Act.put,List.setIfInBounds_toArray,List.set_cons_zero,List.set_cons_succ,i64_w,i32_w]
   rfl
  refine take_ (i:=1) (N:=some 21) (v:=?_) (a':=?_) #[true,true,false,false,false,false] rfl rfl (by kernel_rfl) (fun _ _ _ h => h) (Or.inl ⟨by rfl,?_⟩) hHeld ?_ ?_
  rotate_left
  ·rintro w' ⟨s0,s1⟩
   go_simp
   with_reducible rfl
  rotate_left
  ·simp only [Act.put,List.setIfInBounds_toArray,List.set_cons_zero,List.set_cons_succ,i64_w,i32_w]
   rfl
  refine pure_ (i:=2) (N:=some 22) (v:=?_) (a':=?_) #[true,true,true,false,false,false] rfl rfl (by kernel_rfl) (fun _ _ _ h => h) (Or.inl ⟨by rfl,?_⟩) ?_ ?_
  rotate_left
  ·intro w'
   go_simp
   with_reducible rfl
  rotate_left
  ·simp only [Act.put,List.setIfInBounds_toArray,List.set_cons_zero,List.set_cons_succ,i64_w,i32_w]
   rfl
  refine pure_ (i:=3) (N:=some 23) (v:=?_) (a':=?_) #[true,true,true,true,false,false] rfl rfl (by kernel_rfl) (fun _ _ _ h => h) (Or.inl ⟨by rfl,?_⟩) ?_ ?_
  rotate_left
  ·intro w'
   go_simp
   with_reducible rfl
  rotate_left
  ·simp only [Act.put,List.setIfInBounds_toArray,List.set_cons_zero,List.set_cons_succ,i64_w,i32_w]
   rfl
  refine take_ (i:=4) (N:=some 24) (v:=?_) (a':=?_) #[true,true,true,true,true,false] rfl rfl (by kernel_rfl) (fun _ _ _ h => h) (Or.inl ⟨by rfl,?_⟩) hHeld ?_ ?_
  rotate_left
  ·rintro w' ⟨s0,s1⟩
   go_simp
   with_reducible rfl
  rotate_left
  ·simp only [Act.put,List.setIfInBounds_toArray,List.set_cons_zero,List.set_cons_succ,i64_w,i32_w]
   rfl
  refine one_ (i:=5) (N:=some 25) #[true,true,true,true,true,true] rfl rfl (by kernel_rfl) (by decide) (fun K hK => ?_)
  go_simp
  go_at_call 71
  refine (fail_calls _ _ _).mono ?_
  rintro e w3 ⟨rfl,rfl⟩
  have hpost : PostN s g base v (fun f : F => xs ++ f.flat) w (value d key []) (.panicked [{ v:=.iface 113 (.agg #[.int .i64 (p : Int),.int .i64 5]),recovered:=false }]) wq.drew:=by
   rw [HO.out]
   exact ⟨HA.out.stops 5,v,HCq.out.trans (Ch.of_drawn (by repeat (first|exact Drawn0.refl _|apply Drawn0.step|apply drawn_drew)))⟩
  exact ⟨rfl,hpost⟩
 | cons c r =>
  obtain ⟨d1,d2⟩:=at_lt HA.out
  obtain ⟨A,cap,hvs,hcap⟩ : ∃ A cap,v = .slice A xs.length cap ∧ xs.length ≤ cap:=by
   obtain ⟨A,cap,h1,h2,_⟩:=Kd.R_reads HP.out.R
   exact ⟨A,cap,h1,h2⟩
  subst hvs
  go_quiet (fail)
  go_upto_region 5 with (fail)
  have HPq : Hid (PS (w2.drewN nq) g base s p (.slice A xs.length cap) xs):=Lib.hid (HP2.out.drawn (by repeat (first|exact Drawn0.refl _|apply Drawn0.step|apply drawn_drew)))
  have HBq : Hid (Box (w2.drewN nq) b1 (b1 + 1) g deep):=Lib.hid ⟨HBOX.out.A,HBOX.out.B⟩
  have HCq : Hid (Ch g (.slice A xs.length cap) (.slice A xs.length cap) w (w2.drewN nq)):=Lib.hid ((Ch.of_below HW2.out).trans (Ch.of_drawn (by repeat (first|exact Drawn0.refl _|apply Drawn0.step|apply drawn_drew))))
  have HGq : Hid (GlobU8 (w2.drewN nq)):=Lib.hid (HG2.out.drawn (by repeat (first|exact Drawn0.refl _|apply Drawn0.step|apply drawn_drew)))
  clear x1 x2 k0 k1 k2 f2
  generalize w2.drewN nq = wq at HPq HBq HCq HGq
  obtain ⟨x1,x2⟩:=HBq.out.cells
  obtain ⟨k0,k1,k2⟩:=HPq.out.P.cells
  have hal : Below wq.drew.heap.size wq.drew (wq.drew.alloc (.cells #[.int .i64 0,.int .i64 1,.int .i64 0,.string (str key),.string ⟨#[]⟩] 24 (0,0))):=(Below.refl _ _).alloc (Nat.le_refl _) _
  have HAL:=Lib.hid hal
  have HLT1 : Hid (b1 < wq.heap.size):=Lib.hid (blk_lt HBq.out.A)
  have HLTG : Hid (g < wq.heap.size):=Lib.hid HPq.out.P.lt
  have HNE1 : Hid (some b1 ≠ (Value.slice A xs.length cap).ownBlock):=Lib.hid (HPq.out.R.ne HBq.out.A (by decide))
  have HBS : Hid (base ≤ wq.drew.heap.size):=Lib.hid (by have:=HPq.out.P.lt;show base ≤ wq.heap.size;omega)
  clear hal
  refine start_ (n:=12) (S:=fun w' => w'.cell? ⟨b1,0,none⟩ = some (.pointer (some ⟨g,0,none⟩)) ∧ w'.cell? ⟨g,2,none⟩ = some (.slice A xs.length cap)) (ds:=[11]) #[false,false,false,false,false,false,false,false,false,false,false,false] (by kernel_rfl) rfl rfl ⟨x1,k2⟩ (fun hHeld => ?_)
  refine pure_ (i:=5) (N:=some 40) (v:=?_) (a':=?_) #[false,false,false,false,false,true,false,false,false,false,false,false] rfl rfl (by kernel_rfl) (fun _ _ _ h => h) (Or.inl ⟨by rfl,?_⟩) ?_ ?_
  rotate_left
  ·intro w'
   go_simp
   with_reducible rfl
  rotate_left
  ·simp only [Act.put,List.setIfInBounds_toArray,List.set_cons_zero,List.set_cons_succ,i64_w,i32_w]
   rfl
  refine pure_ (i:=6) (N:=some 41) (v:=?_) (a':=?_) #[false,false,false,false,false,true,true,false,false,false,false,false] rfl rfl (by kernel_rfl) (fun _ _ _ h => h) (Or.inl ⟨by rfl,?_⟩) ?_ ?_
  rotate_left
  ·intro w'
   go_simp
   with_reducible rfl
  rotate_left
  ·simp only [Act.put,List.setIfInBounds_toArray,List.set_cons_zero,List.set_cons_succ,i64_w,i32_w]
   rfl
  refine take_ (i:=0) (N:=some 35) (v:=?_) (a':=?_) #[true,false,false,false,false,true,true,false,false,false,false,false] rfl rfl (by kernel_rfl) (fun _ _ _ h => h) (Or.inl ⟨by rfl,?_⟩) hHeld ?_ ?_
  rotate_left
  ·rintro w' ⟨s0,s1⟩
   go_simp
   with_reducible rfl
  rotate_left
  ·simp only [Act.put,List.setIfInBounds_toArray,List.set_cons_zero,List.set_cons_succ,i64_w,i32_w]
   rfl
  refine take_ (i:=1) (N:=some 36) (v:=?_) (a':=?_) #[true,true,false,false,false,true,true,false,false,false,false,false] rfl rfl (by kernel_rfl) (fun _ _ _ h => h) (Or.inl ⟨by rfl,?_⟩) hHeld ?_ ?_
  rotate_left
  ·rintro w' ⟨s0,s1⟩
   go_simp
   with_reducible rfl
  rotate_left
  ·simp only [Act.put,List.setIfInBounds_toArray,List.set_cons_zero,List.set_cons_succ,i64_w,i32_w]
   rfl
  refine pure_ (i:=2) (N:=some 37) (v:=?_) (a':=?_) #[true,true,true,false,false,true,true,false,false,false,false,false] rfl rfl (by kernel_rfl) (fun _ _ _ h => h) (Or.inl ⟨by rfl,?_⟩) ?_ ?_
  rotate_left
  ·intro w'
   go_simp
   with_reducible rfl
  rotate_left
  ·simp only [Act.put,List.setIfInBounds_toArray,List.set_cons_zero,List.set_cons_succ,i64_w,i32_w]
   rfl
  refine pure_ (i:=3) (N:=some 38) (v:=?_) (a':=?_) #[true,true,true,true,false,true,true,false,false,false,false,false] rfl rfl (by kernel_rfl) (fun _ _ _ h => h) (Or.inl ⟨by rfl,?_⟩) ?_ ?_
  rotate_left
  ·intro w'
   go_simp
   with_reducible rfl
  rotate_left
  ·simp only [Act.put,List.setIfInBounds_toArray,List.set_cons_zero,List.set_cons_succ,i64_w,i32_w]
   rfl
  refine take_ (i:=4) (N:=some 39) (v:=?_) (a':=?_) #[true,true,true,true,true,true,true,false,false,false,false,false] rfl rfl (by kernel_rfl) (fun _ _ _ h => h) (Or.inl ⟨by rfl,?_⟩) hHeld ?_ ?_
  rotate_left
  ·rintro w' ⟨s0,s1⟩
   go_simp
   with_reducible rfl
  rotate_left
  ·simp only [Act.put,List.setIfInBounds_toArray,List.set_cons_zero,List.set_cons_succ,i64_w,i32_w]
   rfl
  refine one_ (i:=7) (N:=some 42) #[true,true,true,true,true,true,true,true,false,false,false,false] rfl rfl (by kernel_rfl) (by decide) (fun K hK => ?_)
  refine value_ (w1:=?_) (v:=?_) (by rfl) rfl ?_ ?_
  rotate_left 2
  ·go_simp
   constructor
   ·rfl
   ·rfl
  have X1 : (wq.drew.alloc (.cells #[.int .i64 0,.int .i64 1,.int .i64 0,.string (str key),.string ⟨#[]⟩] 24 (0,0))).cell? ⟨b1,0,none⟩ = some (.pointer (some ⟨g,0,none⟩)):=(HAL.out.cell HLT1.out).trans x1
  have K2 : (wq.drew.alloc (.cells #[.int .i64 0,.int .i64 1,.int .i64 0,.string (str key),.string ⟨#[]⟩] 24 (0,0))).cell? ⟨g,2,none⟩ = some (.slice A xs.length cap):=(HAL.out.cell HLTG.out).trans k2
  refine hK.out _ _ ⟨X1,K2⟩ (fun hHeld => ?_)
  clear hK K
  refine norm_ (a':=?_) ?_ ?_
  rotate_left
  ·show Act.put _ (some 42) _ = _
   simp only [Act.put,List.setIfInBounds_toArray,List.set_cons_zero,List.set_cons_succ,i64_w,i32_w]
   rfl
  refine one_ (i:=8) (N:=some 43) #[true,true,true,true,true,true,true,true,true,false,false,false] rfl rfl (by kernel_rfl) (by decide) (fun K hK => ?_)
  refine Kd.R_append_step kN (w0:=wq.drew) base (by rfl) (.tmp 39) (.tmp 42) 22 24 (.agg #[.int .i64 0,.int .i64 0,.int .i64 0,.string ⟨#[]⟩,.string ⟨#[]⟩]) 56 rfl Tryd.underlying22 info24 rfl (by decide) (by decide) (.slice A xs.length cap) xs (nod key) [.int .i64 0,.int .i64 1,.int .i64 0,.string (str key),.string ⟨#[]⟩] (fun _ => True) (fun _ => False) rfl rfl (k24_mkM _ _ _ (nod key)) (fun _ hk => hk.elim) (fun _ _ => trivial) (HPq.out.drawn (drawn_drew _ _ (Drawn0.refl _))).R.all (Below.refl _ _) HBS.out (by omega) ?_
  intro v3 w3 hr3 hb3 hg3 hat3
  obtain ⟨A3,c3,rfl⟩:=Kd.R_slice hr3
  have hps:=(HPq.out.drawn (drawn_drew wq wq (Drawn0.refl _))).pushed hr3 hg3 hat3
  have HPS3:=Lib.hid hps.1
  have HCH3:=Lib.hid hps.2.1
  have HAT3:=Lib.hid hat3
  obtain ⟨z0,z1,z2⟩:=hps.2.2.cells
  obtain ⟨f1,f2⟩:=hps.2.2.free
  have X3 : w3.cell? ⟨b1,0,none⟩ = some (.pointer (some ⟨g,0,none⟩)):=(cell_same (hg3.block b1 HLT1.out HNE1.out)).trans x1
  clear hr3 hb3 hg3 hat3 hps z0 z1 f1 X1 K2
  refine hK.out _ _ ⟨X3,z2⟩ (fun hHeld => ?_)
  clear hK K
  refine norm_ (a':=?_) ?_ ?_
  rotate_left
  ·show Act.put _ (some 43) _ = _
   simp only [Act.put,List.setIfInBounds_toArray,List.set_cons_zero,List.set_cons_succ,i64_w,i32_w]
   rfl
  refine pure_ (i:=9) (N:=some 44) (v:=?_) (a':=?_) #[true,true,true,true,true,true,true,true,true,true,false,false] rfl rfl (by kernel_rfl) (fun _ _ _ h => h) (Or.inl ⟨by rfl,?_⟩) ?_ ?_
  rotate_left
  ·intro w'
   go_simp
   with_reducible rfl
  rotate_left
  ·simp only [Act.put,List.setIfInBounds_toArray,List.set_cons_zero,List.set_cons_succ,i64_w,i32_w]
   rfl
  refine pure_ (i:=10) (N:=some 45) (v:=?_) (a':=?_) #[true,true,true,true,true,true,true,true,true,true,true,false] rfl rfl (by kernel_rfl) (fun _ _ _ h => h) (Or.inl ⟨by rfl,?_⟩) ?_ ?_
  rotate_left
  ·intro w'
   go_simp
   with_reducible rfl
  rotate_left
  ·simp only [Act.put,List.setIfInBounds_toArray,List.set_cons_zero,List.set_cons_succ,i64_w,i32_w]
   rfl
  refine last_ (i:=11) (N:=none) #[true,true,true,true,true,true,true,true,true,true,true,true] rfl rfl (by kernel_rfl) (by decide) (fun K hK => ?_)
  refine skip_ (w1:=?_) (by rfl) rfl ?_ ?_
  rotate_left
  ·go_simp
   rfl
  refine hK.out _ _ ?_
  clear hK K
  refine done_ (by kernel_rfl) ?_
  have hl1 : (xs ++ [nod key]).length = xs.length + 1:=by simp
  rw [hl1] at HPS3 HCH3
  clear hl1
  have HC5 : Hid (Ch g (.slice A xs.length cap) (.slice A3 (xs.length + 1) c3) w (w3.setCell ⟨g,2,none⟩ (.slice A3 (xs.length + 1) c3))):=Lib.hid ((HCq.out.trans (Ch.of_drawn (drawn_drew _ _ (Drawn0.refl _)))).trans HCH3.out)
  have HB5 : Hid (Box (w3.setCell ⟨g,2,none⟩ (.slice A3 (xs.length + 1) c3)) b1 (b1 + 1) g deep):=Lib.hid (Box.ch (w:=wq.drew) ⟨HBq.out.A,HBq.out.B⟩ (HPq.out.drawn (drawn_drew _ _ (Drawn0.refl _))) HCH3.out)
  have HG5 : Hid (GlobU8 (w3.setCell ⟨g,2,none⟩ (.slice A3 (xs.length + 1) c3))):=Lib.hid (HG.out.ch hg2 hb2 HP.out.R HC5.out)
  clear x1 x2 k0 k1 k2 z2 f2 X3 hHeld
  generalize hv3 : Value.slice A3 (xs.length + 1) c3 = v3 at HPS3 HC5 HB5 HG5 HCH3
  have HV3:=Lib.hid hv3
  clear hv3
  generalize hw5 : w3.setCell ⟨g,2,none⟩ v3 = w5 at HPS3 HC5 HB5 HG5 HCH3
  have HW5:=Lib.hid hw5
  clear hw5
  obtain ⟨x1,x2⟩:=HB5.out.cells
  obtain ⟨k0,k1,k2⟩:=HPS3.out.P.cells
  clear k0 k1 k2
  go_upto_block 0 with (go_at_call 77;refine (byte_some g s p v3 c r _ HPS3.out.P HA.out).mono ?_;rintro e w6 ⟨rfl,hd6⟩;have HD6:=Lib.hid hd6;clear hd6)
  have HP6 : Hid (PS w6 g base s p v3 (xs ++ [nod key])):=Lib.hid (HPS3.out.drawn HD6.out)
  have HC6 : Hid (Ch g (.slice A xs.length cap) v3 w w6):=Lib.hid (HC5.out.trans (Ch.of_drawn HD6.out))
  have HB6 : Hid (Box w6 b1 (b1 + 1) g deep):=Lib.hid (HB5.out.ch HPS3.out (Ch.of_drawn HD6.out))
  have HG6 : Hid (GlobU8 w6):=Lib.hid (HG5.out.drawn HD6.out)
  clear x1 x2
  obtain ⟨x1,x2⟩:=HB6.out.cells
  obtain ⟨k0,k1,k2⟩:=HP6.out.P.cells
  generalize hO : value d key (c :: r) = O
  have HO:=Lib.hid hO
  clear hO k0 k1
  go_cut [] (fun wx => ∃ (q : Nat) (u : Value) (h' : Nd) (ys : List Nd) (r' : Bs) (f : F),Hid (O = .ok r' f ∧ f.flat = { h' with f1:=((ys.length + 1 : Nat) : Int) } :: ys) ∧ Hid (At s q r') ∧ Hid (PS wx g base s q u ((xs ++ [h']) ++ ys)) ∧ Hid (Ch g (.slice A xs.length cap) u w wx) ∧ Hid (Box wx b1 (b1 + 1) g deep))
  case first =>
   obtain ⟨z,hz⟩ : ∃ z,Lib.indexByte [123,91,34,45,48,49,50,51,52,53,54,55,56,57,116,102,110] c = z:=⟨_,rfl⟩
   have hzb:=idx_begins c
   rw [hz] at hzb
   have HZ:=Lib.hid hz
   clear hz
   cases hb : begins c with
   | false =>
    rw [hb] at hzb
    have HOO : Hid (O = .bad (c :: r) 5):=Lib.hid (by rw [← HO.out];cases d <;> simp [value,hb])
    clear hb x2 k2
    go_wp2_with (first
     | (go_at_call 63;refine (idx_of _ c z _ HZ.out).mono ?_;rintro e w9 ⟨rfl,rfl⟩)
     | (go_at_call 71;refine (fail_calls _ _ _).mono ?_;rintro e w10 ⟨rfl,rfl⟩))
    rw [HO.out,HOO.out]
    exact ⟨rfl,HA.out.stops 5,v3,HC6.out⟩
   | true =>
    rw [hb] at hzb
    cases d with
    | zero =>
     have HOO : Hid (O = .bad (c :: r) 7):=Lib.hid (by rw [← HO.out];simp [value,hb])
     have hdp : deep = 32:=by omega
     subst hdp
     clear hb k2
     go_wp2_with (first
      | (go_at_call 63;refine (idx_of _ c z _ HZ.out).mono ?_;rintro e w9 ⟨rfl,rfl⟩))
     rw [HO.out,HOO.out]
     exact ⟨rfl,HA.out.stops 7,v3,HC6.out⟩
    | succ d =>
     have hdp : (deep : Int) < 32:=by omega
     have hdn : deep < 32:=by omega
     have HV : Hid (value (d + 1) key (c :: r) = if c = 123 then many (value d) true key r
      else if c = 91 then many (value d) false key r
      else if c = 34 then (text (c :: r)).map fun t => .leaf key 5 t .nil
      else if c = 116 then (word [116,114,117,101] (c :: r)).map fun _ => .leaf key 2 [] .nil
      else if c = 102 then (word [102,97,108,115,101] (c :: r)).map fun _ => .leaf key 3 [] .nil
      else if c = 110 then (word [110,117,108,108] (c :: r)).map fun _ => .leaf key 1 [] .nil
      else (number (c :: r)).map fun t => .leaf key 4 t .nil):=Lib.hid (by simp only [value];rw [if_neg (by rw [hb];simp)])
     have IH:=Lib.hid (ih d rfl)
     clear hb ih hd
     have hmf : ∀ (fn : Fn) (first cap : Array Value) (w : World),(Instr.makeFunc fn first cap).run Tryd.prog w = .ok (.func fn first cap) w:=fun _ _ _ _ => rfl
     by_cases c123 : c = 123
     ·subst c123
      have HVV:=Lib.hid (HV.out.trans (by rw [if_pos rfl]))
      have hi3 : xs.length < (xs ++ [nod key]).length:=by simp
      obtain ⟨b,c4,rfl,hc4,hb4,hlt4,hx4,hf4⟩:=HP6.out.R.at_ hi3
      have hi4 : (xs.length : Int) < ((xs ++ [nod key]).length : Int):=by omega
      have hgd : (xs ++ [nod key]).getD xs.length zN = nod key:=by have:=at_mid (xs:=xs) (h:=nod key) (ys:=[]);rw [List.append_nil] at this;exact this.1
      have hst : ∀ h',(xs ++ [nod key]).set xs.length h' = xs ++ [h']:=by intro h';have:=(at_mid (xs:=xs) (h:=nod key) (ys:=[])).2 h';rw [List.append_nil,List.append_nil] at this;exact this
      rw [hgd] at hx4
      have hx0:=hx4.1
      have hx4':=hx4.2.2.2.2
      have hf0 : w6.frozen? ⟨b,xs.length * 5,none⟩ = false:=hf4 0
      have hf4':=hf4 4
      clear hx4 hf4 hc4 hlt4 hb4
      have ps7:=HP6.out.put hi3 0 (by omega) (.int .i64 7) { nod key with f0:=7 } (by rw [hgd];rfl)
      rw [hst] at ps7
      have HP7:=Lib.hid ps7
      have HC7:=Lib.hid ((HC6.out.setRow (xs.length * 5 + 0) (.int .i64 7)).len_ (xs ++ [({ nod key with f0:=7 } : Nd)]).length)
      have HB7:=Lib.hid (HB6.out.ch HP6.out ((Ch.refl g _ w6).setRow (xs.length * 5 + 0) (.int .i64 7)))
      have HG7:=Lib.hid (HG.out.ch hg2 hb2 HP.out.R HC7.out)
      have eg : ∀ args w,(callFunc 79 args).run Tryd.prog w = .ok (.enter 79 args) w:=fun args w => enters_ Tryd.func79 (by kernel_rfl) (by kernel_rfl) args w
      have hln7 : xs.length ≤ p:=HN.out
      have HLN7:=Lib.hid hln7
      have HONE : Hid (OneOk 79 b1 (b1 + 1) g base s deep (item (value d) true)):=Lib.hid (one1_ok d deep hdn IH.out b1 (b1 + 1) g base s hs hg2 hb2 hbg)
      have y1 : (w6.setCell ⟨b,xs.length * 5,none⟩ (.int .i64 7)).cell? ⟨b1,0,none⟩ = some (.pointer (some ⟨g,0,none⟩)):=HB7.out.cells.1
      clear ps7 hst hgd hx4' hf4' hln7 
      cases hM : manyS (value d) true r with
      | bad r5 x5 =>
       have HOO : Hid (O = .bad r5 x5):=Lib.hid (by rw [← HO.out,HVV.out,many_eq,hM];rfl)
       have HM:=Lib.hid hM
       clear hM
       go_wp2_with (first
        | (go_at_call 63;refine (idx_of _ 123 z _ HZ.out).mono ?_;rintro e w9 ⟨rfl,rfl⟩)
        | (go_at_call 78;refine (many_calls 79 b1 (b1 + 1) g base s deep true 125 (value d) rfl (value_owes d) HONE.out eg p _ xs _ 123 r _ hs HG7.out hg2 hb2 HP7.out HA.out HLN7.out rfl HB7.out).mono ?_;rw [HM.out];rintro e w8 ⟨hst,v8,hc8⟩;have HST:=Lib.hid hst;have HC8:=Lib.hid hc8;clear hc8;unfold Stops at hst;subst hst))
       rw [HO.out,HOO.out]
       exact ⟨rfl,HST.out,v8,HC7.out.trans HC8.out⟩
      | ok r5 f5 =>
       have HOO : Hid (O = .ok r5 (.node key 7 f5 .nil)):=Lib.hid (by rw [← HO.out,HVV.out,many_eq,hM];rfl)
       have HM:=Lib.hid hM
       clear hM
       go_wp2_with (first
        | (go_at_call 63;refine (idx_of _ 123 z _ HZ.out).mono ?_;rintro e w9 ⟨rfl,rfl⟩)
        | (go_at_call 78;refine (many_calls 79 b1 (b1 + 1) g base s deep true 125 (value d) rfl (value_owes d) HONE.out eg p _ xs _ 123 r _ hs HG7.out hg2 hb2 HP7.out HA.out HLN7.out rfl HB7.out).mono ?_;rw [HM.out];rintro e w8 ⟨rfl,q8,v8,ha8,hp8,hc8⟩;have HA8:=Lib.hid ha8;have HP8:=Lib.hid hp8;have HC8:=Lib.hid hc8;clear ha8 hp8 hc8))
       go_meet
       case rel => exact ⟨q8,v8,_,f5.flat,r5,_,Lib.hid ⟨HOO.out,by simp [F.flat,nod]⟩,HA8,HP8,Lib.hid (HC7.out.trans HC8.out),Lib.hid (HB7.out.ch HP7.out HC8.out)⟩
     ·have q123 : ((c.toNat : Int) == 123) = false:=by
       simp only [beq_eq_false_iff_ne,ne_eq]
       exact fun e => c123 (u8_lit (n:=123) (by omega) (by omega))
      have HN123:=Lib.hid c123
      clear c123
      by_cases c91 : c = 91
      ·subst c91
       have HVV:=Lib.hid (HV.out.trans (by rw [if_neg (by decide),if_pos rfl]))
       clear q123
       have hi3 : xs.length < (xs ++ [nod key]).length:=by simp
       obtain ⟨b,c4,rfl,hc4,hb4,hlt4,hx4,hf4⟩:=HP6.out.R.at_ hi3
       have hi4 : (xs.length : Int) < ((xs ++ [nod key]).length : Int):=by omega
       have hgd : (xs ++ [nod key]).getD xs.length zN = nod key:=by have:=at_mid (xs:=xs) (h:=nod key) (ys:=[]);rw [List.append_nil] at this;exact this.1
       have hst : ∀ h',(xs ++ [nod key]).set xs.length h' = xs ++ [h']:=by intro h';have:=(at_mid (xs:=xs) (h:=nod key) (ys:=[])).2 h';rw [List.append_nil,List.append_nil] at this;exact this
       rw [hgd] at hx4
       have hx0:=hx4.1
       have hx4':=hx4.2.2.2.2
       have hf0 : w6.frozen? ⟨b,xs.length * 5,none⟩ = false:=hf4 0
       have hf4':=hf4 4
       clear hx4 hf4 hc4 hlt4 hb4
       have ps7:=HP6.out.put hi3 0 (by omega) (.int .i64 6) { nod key with f0:=6 } (by rw [hgd];rfl)
       rw [hst] at ps7
       have HP7:=Lib.hid ps7
       have HC7:=Lib.hid ((HC6.out.setRow (xs.length * 5 + 0) (.int .i64 6)).len_ (xs ++ [({ nod key with f0:=6 } : Nd)]).length)
       have HB7:=Lib.hid (HB6.out.ch HP6.out ((Ch.refl g _ w6).setRow (xs.length * 5 + 0) (.int .i64 6)))
       have HG7:=Lib.hid (HG.out.ch hg2 hb2 HP.out.R HC7.out)
       have eg : ∀ args w,(callFunc 82 args).run Tryd.prog w = .ok (.enter 82 args) w:=fun args w => enters_ Tryd.func82 (by kernel_rfl) (by kernel_rfl) args w
       have hln7 : xs.length ≤ p:=HN.out
       have HLN7:=Lib.hid hln7
       have HONE : Hid (OneOk 82 b1 (b1 + 1) g base s deep (item (value d) false)):=Lib.hid (one2_ok d deep hdn IH.out b1 (b1 + 1) g base s hs hg2 hb2 hbg)
       have y1 : (w6.setCell ⟨b,xs.length * 5,none⟩ (.int .i64 6)).cell? ⟨b1,0,none⟩ = some (.pointer (some ⟨g,0,none⟩)):=HB7.out.cells.1
       clear ps7 hst hgd hx4' hf4' hln7 
       cases hM : manyS (value d) false r with
       | bad r5 x5 =>
        have HOO : Hid (O = .bad r5 x5):=Lib.hid (by rw [← HO.out,HVV.out,many_eq,hM];rfl)
        have HM:=Lib.hid hM
        clear hM
        go_wp2_with (first
         | (go_at_call 63;refine (idx_of _ 91 z _ HZ.out).mono ?_;rintro e w9 ⟨rfl,rfl⟩)
         | (go_at_call 78;refine (many_calls 82 b1 (b1 + 1) g base s deep false 93 (value d) rfl (value_owes d) HONE.out eg p _ xs _ 91 r _ hs HG7.out hg2 hb2 HP7.out HA.out HLN7.out rfl HB7.out).mono ?_;rw [HM.out];rintro e w8 ⟨hst,v8,hc8⟩;have HST:=Lib.hid hst;have HC8:=Lib.hid hc8;clear hc8;unfold Stops at hst;subst hst))
        rw [HO.out,HOO.out]
        exact ⟨rfl,HST.out,v8,HC7.out.trans HC8.out⟩
       | ok r5 f5 =>
        have HOO : Hid (O = .ok r5 (.node key 6 f5 .nil)):=Lib.hid (by rw [← HO.out,HVV.out,many_eq,hM];rfl)
        have HM:=Lib.hid hM
        clear hM
        go_wp2_with (first
         | (go_at_call 63;refine (idx_of _ 91 z _ HZ.out).mono ?_;rintro e w9 ⟨rfl,rfl⟩)
         | (go_at_call 78;refine (many_calls 82 b1 (b1 + 1) g base s deep false 93 (value d) rfl (value_owes d) HONE.out eg p _ xs _ 91 r _ hs HG7.out hg2 hb2 HP7.out HA.out HLN7.out rfl HB7.out).mono ?_;rw [HM.out];rintro e w8 ⟨rfl,q8,v8,ha8,hp8,hc8⟩;have HA8:=Lib.hid ha8;have HP8:=Lib.hid hp8;have HC8:=Lib.hid hc8;clear ha8 hp8 hc8))
        go_meet
        case rel => exact ⟨q8,v8,_,f5.flat,r5,_,Lib.hid ⟨HOO.out,by simp [F.flat,nod]⟩,HA8,HP8,Lib.hid (HC7.out.trans HC8.out),Lib.hid (HB7.out.ch HP7.out HC8.out)⟩
      ·have q91 : ((c.toNat : Int) == 91) = false:=by
        simp only [beq_eq_false_iff_ne,ne_eq]
        exact fun e => c91 (u8_lit (n:=91) (by omega) (by omega))
       have HN91:=Lib.hid c91
       clear c91
       by_cases c34 : c = 34
       ·subst c34
        have HVV:=Lib.hid (HV.out.trans (by rw [if_neg (by decide),if_neg (by decide),if_pos rfl]))
        clear q123
        clear q91
        have hi3 : xs.length < (xs ++ [nod key]).length:=by simp
        obtain ⟨b,c4,rfl,hc4,hb4,hlt4,hx4,hf4⟩:=HP6.out.R.at_ hi3
        have hi4 : (xs.length : Int) < ((xs ++ [nod key]).length : Int):=by omega
        have hgd : (xs ++ [nod key]).getD xs.length zN = nod key:=by have:=at_mid (xs:=xs) (h:=nod key) (ys:=[]);rw [List.append_nil] at this;exact this.1
        have hst : ∀ h',(xs ++ [nod key]).set xs.length h' = xs ++ [h']:=by intro h';have:=(at_mid (xs:=xs) (h:=nod key) (ys:=[])).2 h';rw [List.append_nil,List.append_nil] at this;exact this
        rw [hgd] at hx4
        have hx0:=hx4.1
        have hx4':=hx4.2.2.2.2
        have hf0 : w6.frozen? ⟨b,xs.length * 5,none⟩ = false:=hf4 0
        have hf4':=hf4 4
        clear hx4 hf4 hc4 hlt4 hb4
        have ps7:=HP6.out.put hi3 0 (by omega) (.int .i64 5) { nod key with f0:=5 } (by rw [hgd];rfl)
        rw [hst] at ps7
        have HP7:=Lib.hid ps7
        have HC7:=Lib.hid ((HC6.out.setRow (xs.length * 5 + 0) (.int .i64 5)).len_ (xs ++ [({ nod key with f0:=5 } : Nd)]).length)
        have HB7:=Lib.hid (HB6.out.ch HP6.out ((Ch.refl g _ w6).setRow (xs.length * 5 + 0) (.int .i64 5)))
        have HG7:=Lib.hid (HG.out.ch hg2 hb2 HP.out.R HC7.out)
        have y1 : (w6.setCell ⟨b,xs.length * 5,none⟩ (.int .i64 5)).cell? ⟨b1,0,none⟩ = some (.pointer (some ⟨g,0,none⟩)):=HB7.out.cells.1
        clear ps7 hst hgd hx4' hf4' 
        cases hM : text (34 :: r) with
        | bad r5 x5 =>
         have HOO : Hid (O = .bad r5 x5):=Lib.hid (by rw [← HO.out,HVV.out,hM];rfl)
         have HM:=Lib.hid hM
         clear hM
         go_wp2_with (first
          | (go_at_call 63;refine (idx_of _ 34 z _ HZ.out).mono ?_;rintro e w9 ⟨rfl,rfl⟩)
          | (go_at_call 80;refine (text_calls g s p _ (34 :: r) _ hs HG7.out hg2 HP7.out.P HA.out).mono ?_;rw [HM.out];rintro e w8 ⟨hst,hu8⟩;have HST:=Lib.hid hst;have HU8:=Lib.hid hu8;clear hu8;unfold Stops at hst;subst hst))
         rw [HO.out,HOO.out]
         exact ⟨rfl,HST.out,_,HC7.out.trans (Ch.of_upd HU8.out)⟩
        | ok r5 t5 =>
         have HOO : Hid (O = .ok r5 (.leaf key 5 t5 .nil)):=Lib.hid (by rw [← HO.out,HVV.out,hM];rfl)
         have HM:=Lib.hid hM
         clear hM
         go_upto_region 21 with (first
          | (go_at_call 63;refine (idx_of _ 34 z _ HZ.out).mono ?_;rintro e w9 ⟨rfl,rfl⟩)
          | (go_at_call 80;refine (text_calls g s p _ (34 :: r) _ hs HG7.out hg2 HP7.out.P HA.out).mono ?_;rw [HM.out];rintro e w8 ⟨rfl,⟨q8,ha8,hp8⟩,hu8⟩;have HA8:=Lib.hid ha8;have HP8:=Lib.hid hp8;have HU8:=Lib.hid hu8;clear ha8 hp8 hu8))
         have HPS8 : Hid (PS w8 g base s q8 _ _):=Lib.hid (HP7.out.upd HP8.out HU8.out)
         have HB8:=Lib.hid (HB7.out.ch HP7.out (Ch.of_upd HU8.out))
         have hi5 : xs.length < (xs ++ [({ nod key with f0:=5 } : Nd)]).length:=by simp
         obtain ⟨b',c',hbe,hc5,hb5,hlt5,hx5,hf5⟩:=HPS8.out.R.at_ hi5
         obtain ⟨hbb,hcc⟩ : b = b' ∧ c4 = c':=by
          injection hbe with h1 h2 h3
          injection h1 with h1
          injection h1 with h1
          exact ⟨h1,h3⟩
         subst hbb
         have hgd5 : (xs ++ [({ nod key with f0:=5 } : Nd)]).getD xs.length zN = { nod key with f0:=5 }:=by have:=at_mid (xs:=xs) (h:=({ nod key with f0:=5 } : Nd)) (ys:=[]);rw [List.append_nil] at this;exact this.1
         have hst5 : ∀ h',(xs ++ [({ nod key with f0:=5 } : Nd)]).set xs.length h' = xs ++ [h']:=by intro h';have:=(at_mid (xs:=xs) (h:=({ nod key with f0:=5 } : Nd)) (ys:=[])).2 h';rw [List.append_nil,List.append_nil] at this;exact this
         have hx54:=hx5.2.2.2.2
         rw [hgd5] at hx54
         have hf54:=hf5 4
         have hi6 : (xs.length : Int) < ((xs ++ [({ nod key with f0:=5 } : Nd)]).length : Int):=by omega
         have ps9:=HPS8.out.put hi5 4 (by omega) (.string (str t5)) { nod key with f0:=5,f4:=str t5 } (by rw [hgd5];rfl)
         rw [hst5] at ps9
         have HP9:=Lib.hid ps9
         have HC9:=Lib.hid (((HC7.out.trans (Ch.of_upd HU8.out)).setRow (xs.length * 5 + 4) (.string (str t5))).len_ (xs ++ [({ nod key with f0:=5,f4:=str t5 } : Nd)]).length)
         have HB9:=Lib.hid (HB8.out.ch HPS8.out ((Ch.refl g _ w8).setRow (xs.length * 5 + 4) (.string (str t5))))
         obtain ⟨o1,o2⟩:=HB8.out.cells
         obtain ⟨m0,m1,m2⟩:=HP8.out.cells
         clear hbe hc5 hb5 hlt5 hx5 hf5 hgd5 hst5 ps9 o2 m0 m1
         go_wp2_with fail
         go_meet
         case rel => exact ⟨q8,_,{ nod key with f0:=5,f4:=str t5 },[],r5,_,Lib.hid ⟨HOO.out,by simp [F.flat,nod]⟩,HA8,Lib.hid (by rw [List.append_nil];exact HP9.out),HC9,HB9⟩
       ·have q34 : ((c.toNat : Int) == 34) = false:=by
         simp only [beq_eq_false_iff_ne,ne_eq]
         exact fun e => c34 (u8_lit (n:=34) (by omega) (by omega))
        have HN34:=Lib.hid c34
        clear c34
        by_cases c116 : c = 116
        ·subst c116
         have HVV:=Lib.hid (HV.out.trans (by rw [if_neg (by decide),if_neg (by decide),if_neg (by decide),if_pos rfl]))
         clear q123
         clear q91
         clear q34
         have hi3 : xs.length < (xs ++ [nod key]).length:=by simp
         have HI3:=Lib.hid hi3
         clear hi3 k2
         cases hM : word [116,114,117,101] (116 :: r) with
         | bad r5 x5 =>
          have HOO : Hid (O = .bad r5 x5):=Lib.hid (by rw [← HO.out,HVV.out,hM];rfl)
          have HM : Hid (word (ByteArray.data ⟨#[116,114,117,101]⟩).toList (116 :: r) = .bad r5 x5):=Lib.hid hM
          clear hM
          go_wp2_with (first
           | (go_at_call 63;refine (idx_of _ 116 z _ HZ.out).mono ?_;rintro e w9 ⟨rfl,rfl⟩)
           | (go_at_call 83;refine (word_calls g base s ⟨#[116,114,117,101]⟩ p xs.length 2 v3 (xs ++ [nod key]) (116 :: r) _ hs (by decide) HP6.out HA.out HI3.out).mono ?_;rw [HM.out];rintro e w8 ⟨hst,v8,hc8⟩;have HST:=Lib.hid hst;have HC8:=Lib.hid hc8;clear hc8;unfold Stops at hst;subst hst))
          rw [HO.out,HOO.out]
          exact ⟨rfl,HST.out,v8,HC6.out.trans HC8.out⟩
         | ok r5 u5 =>
          have HOO : Hid (O = .ok r5 (.leaf key 2 [] .nil)):=Lib.hid (by rw [← HO.out,HVV.out,hM];rfl)
          have HM : Hid (word (ByteArray.data ⟨#[116,114,117,101]⟩).toList (116 :: r) = .ok r5 u5):=Lib.hid hM
          clear hM
          go_wp2_with (first
           | (go_at_call 63;refine (idx_of _ 116 z _ HZ.out).mono ?_;rintro e w9 ⟨rfl,rfl⟩)
           | (go_at_call 83;refine (word_calls g base s ⟨#[116,114,117,101]⟩ p xs.length 2 v3 (xs ++ [nod key]) (116 :: r) _ hs (by decide) HP6.out HA.out HI3.out).mono ?_;rw [HM.out];rintro e w8 ⟨rfl,q8,v8,ha8,hp8,hc8⟩;have HA8:=Lib.hid ha8;have HP8:=Lib.hid hp8;have HC8:=Lib.hid hc8;clear ha8 hp8 hc8))
          go_meet
          case rel =>
           have hgd : (xs ++ [nod key]).getD xs.length zN = nod key:=by have:=at_mid (xs:=xs) (h:=nod key) (ys:=[]);rw [List.append_nil] at this;exact this.1
           have hst : ∀ h',(xs ++ [nod key]).set xs.length h' = xs ++ [h']:=by intro h';have:=(at_mid (xs:=xs) (h:=nod key) (ys:=[])).2 h';rw [List.append_nil,List.append_nil] at this;exact this
           have hp9:=HP8.out
           simp only [hgd,hst] at hp9
           exact ⟨q8,v8,{ nod key with f0:=2 },[],r5,_,Lib.hid ⟨HOO.out,by simp [F.flat,nod]⟩,HA8,Lib.hid (by rw [List.append_nil];exact hp9),Lib.hid (HC6.out.trans HC8.out),Lib.hid (HB6.out.ch HP6.out HC8.out)⟩
        ·have q116 : ((c.toNat : Int) == 116) = false:=by
          simp only [beq_eq_false_iff_ne,ne_eq]
          exact fun e => c116 (u8_lit (n:=116) (by omega) (by omega))
         have HN116:=Lib.hid c116
         clear c116
         by_cases c102 : c = 102
         ·subst c102
          have HVV:=Lib.hid (HV.out.trans (by rw [if_neg (by decide),if_neg (by decide),if_neg (by decide),if_neg (by decide),if_pos rfl]))
          clear q123
          clear q91
          clear q34
          clear q116
          have hi3 : xs.length < (xs ++ [nod key]).length:=by simp
          have HI3:=Lib.hid hi3
          clear hi3 k2
          cases hM : word [102,97,108,115,101] (102 :: r) with
          | bad r5 x5 =>
           have HOO : Hid (O = .bad r5 x5):=Lib.hid (by rw [← HO.out,HVV.out,hM];rfl)
           have HM : Hid (word (ByteArray.data ⟨#[102,97,108,115,101]⟩).toList (102 :: r) = .bad r5 x5):=Lib.hid hM
           clear hM
           go_wp2_with (first
            | (go_at_call 63;refine (idx_of _ 102 z _ HZ.out).mono ?_;rintro e w9 ⟨rfl,rfl⟩)
            | (go_at_call 83;refine (word_calls g base s ⟨#[102,97,108,115,101]⟩ p xs.length 3 v3 (xs ++ [nod key]) (102 :: r) _ hs (by decide) HP6.out HA.out HI3.out).mono ?_;rw [HM.out];rintro e w8 ⟨hst,v8,hc8⟩;have HST:=Lib.hid hst;have HC8:=Lib.hid hc8;clear hc8;unfold Stops at hst;subst hst))
           rw [HO.out,HOO.out]
           exact ⟨rfl,HST.out,v8,HC6.out.trans HC8.out⟩
          | ok r5 u5 =>
           have HOO : Hid (O = .ok r5 (.leaf key 3 [] .nil)):=Lib.hid (by rw [← HO.out,HVV.out,hM];rfl)
           have HM : Hid (word (ByteArray.data ⟨#[102,97,108,115,101]⟩).toList (102 :: r) = .ok r5 u5):=Lib.hid hM
           clear hM
           go_wp2_with (first
            | (go_at_call 63;refine (idx_of _ 102 z _ HZ.out).mono ?_;rintro e w9 ⟨rfl,rfl⟩)
            | (go_at_call 83;refine (word_calls g base s ⟨#[102,97,108,115,101]⟩ p xs.length 3 v3 (xs ++ [nod key]) (102 :: r) _ hs (by decide) HP6.out HA.out HI3.out).mono ?_;rw [HM.out];rintro e w8 ⟨rfl,q8,v8,ha8,hp8,hc8⟩;have HA8:=Lib.hid ha8;have HP8:=Lib.hid hp8;have HC8:=Lib.hid hc8;clear ha8 hp8 hc8))
           go_meet
           case rel =>
            have hgd : (xs ++ [nod key]).getD xs.length zN = nod key:=by have:=at_mid (xs:=xs) (h:=nod key) (ys:=[]);rw [List.append_nil] at this;exact this.1
            have hst : ∀ h',(xs ++ [nod key]).set xs.length h' = xs ++ [h']:=by intro h';have:=(at_mid (xs:=xs) (h:=nod key) (ys:=[])).2 h';rw [List.append_nil,List.append_nil] at this;exact this
            have hp9:=HP8.out
            simp only [hgd,hst] at hp9
            exact ⟨q8,v8,{ nod key with f0:=3 },[],r5,_,Lib.hid ⟨HOO.out,by simp [F.flat,nod]⟩,HA8,Lib.hid (by rw [List.append_nil];exact hp9),Lib.hid (HC6.out.trans HC8.out),Lib.hid (HB6.out.ch HP6.out HC8.out)⟩
         ·have q102 : ((c.toNat : Int) == 102) = false:=by
           simp only [beq_eq_false_iff_ne,ne_eq]
           exact fun e => c102 (u8_lit (n:=102) (by omega) (by omega))
          have HN102:=Lib.hid c102
          clear c102
          by_cases c110 : c = 110
          ·subst c110
           have HVV:=Lib.hid (HV.out.trans (by rw [if_neg (by decide),if_neg (by decide),if_neg (by decide),if_neg (by decide),if_neg (by decide),if_pos rfl]))
           clear q123
           clear q91
           clear q34
           clear q116
           clear q102
           have hi3 : xs.length < (xs ++ [nod key]).length:=by simp
           have HI3:=Lib.hid hi3
           clear hi3 k2
           cases hM : word [110,117,108,108] (110 :: r) with
           | bad r5 x5 =>
            have HOO : Hid (O = .bad r5 x5):=Lib.hid (by rw [← HO.out,HVV.out,hM];rfl)
            have HM : Hid (word (ByteArray.data ⟨#[110,117,108,108]⟩).toList (110 :: r) = .bad r5 x5):=Lib.hid hM
            clear hM
            go_wp2_with (first
             | (go_at_call 63;refine (idx_of _ 110 z _ HZ.out).mono ?_;rintro e w9 ⟨rfl,rfl⟩)
             | (go_at_call 83;refine (word_calls g base s ⟨#[110,117,108,108]⟩ p xs.length 1 v3 (xs ++ [nod key]) (110 :: r) _ hs (by decide) HP6.out HA.out HI3.out).mono ?_;rw [HM.out];rintro e w8 ⟨hst,v8,hc8⟩;have HST:=Lib.hid hst;have HC8:=Lib.hid hc8;clear hc8;unfold Stops at hst;subst hst))
            rw [HO.out,HOO.out]
            exact ⟨rfl,HST.out,v8,HC6.out.trans HC8.out⟩
           | ok r5 u5 =>
            have HOO : Hid (O = .ok r5 (.leaf key 1 [] .nil)):=Lib.hid (by rw [← HO.out,HVV.out,hM];rfl)
            have HM : Hid (word (ByteArray.data ⟨#[110,117,108,108]⟩).toList (110 :: r) = .ok r5 u5):=Lib.hid hM
            clear hM
            go_wp2_with (first
             | (go_at_call 63;refine (idx_of _ 110 z _ HZ.out).mono ?_;rintro e w9 ⟨rfl,rfl⟩)
             | (go_at_call 83;refine (word_calls g base s ⟨#[110,117,108,108]⟩ p xs.length 1 v3 (xs ++ [nod key]) (110 :: r) _ hs (by decide) HP6.out HA.out HI3.out).mono ?_;rw [HM.out];rintro e w8 ⟨rfl,q8,v8,ha8,hp8,hc8⟩;have HA8:=Lib.hid ha8;have HP8:=Lib.hid hp8;have HC8:=Lib.hid hc8;clear ha8 hp8 hc8))
            go_meet
            case rel =>
             have hgd : (xs ++ [nod key]).getD xs.length zN = nod key:=by have:=at_mid (xs:=xs) (h:=nod key) (ys:=[]);rw [List.append_nil] at this;exact this.1
             have hst : ∀ h',(xs ++ [nod key]).set xs.length h' = xs ++ [h']:=by intro h';have:=(at_mid (xs:=xs) (h:=nod key) (ys:=[])).2 h';rw [List.append_nil,List.append_nil] at this;exact this
             have hp9:=HP8.out
             simp only [hgd,hst] at hp9
             exact ⟨q8,v8,{ nod key with f0:=1 },[],r5,_,Lib.hid ⟨HOO.out,by simp [F.flat,nod]⟩,HA8,Lib.hid (by rw [List.append_nil];exact hp9),Lib.hid (HC6.out.trans HC8.out),Lib.hid (HB6.out.ch HP6.out HC8.out)⟩
          ·have q110 : ((c.toNat : Int) == 110) = false:=by
            simp only [beq_eq_false_iff_ne,ne_eq]
            exact fun e => c110 (u8_lit (n:=110) (by omega) (by omega))
           have HN110:=Lib.hid c110
           clear c110
           have HVV:=Lib.hid (HV.out.trans (by rw [if_neg HN123.out,if_neg HN91.out,if_neg HN34.out,if_neg HN116.out,if_neg HN102.out,if_neg HN110.out]))
           have hi3 : xs.length < (xs ++ [nod key]).length:=by simp
           have HI3:=Lib.hid hi3
           clear hi3 k2
           cases hM : number (c :: r) with
           | bad r5 x5 =>
            have HOO : Hid (O = .bad r5 x5):=Lib.hid (by rw [← HO.out,HVV.out,hM];rfl)
            have HM:=Lib.hid hM
            clear hM
            go_wp2_with (first
             | (go_at_call 63;refine (idx_of _ c z _ HZ.out).mono ?_;rintro e w9 ⟨rfl,rfl⟩)
             | (go_at_call 84;refine (number_calls g base s p xs.length v3 (xs ++ [nod key]) (c :: r) _ hs HP6.out HA.out HI3.out).mono ?_;rw [HM.out];rintro e w8 ⟨hst,v8,hc8⟩;have HST:=Lib.hid hst;have HC8:=Lib.hid hc8;clear hc8;unfold Stops at hst;subst hst))
            rw [HO.out,HOO.out]
            exact ⟨rfl,HST.out,v8,HC6.out.trans HC8.out⟩
           | ok r5 t5 =>
            have HOO : Hid (O = .ok r5 (.leaf key 4 t5 .nil)):=Lib.hid (by rw [← HO.out,HVV.out,hM];rfl)
            have HM:=Lib.hid hM
            clear hM
            go_wp2_with (first
             | (go_at_call 63;refine (idx_of _ c z _ HZ.out).mono ?_;rintro e w9 ⟨rfl,rfl⟩)
             | (go_at_call 84;refine (number_calls g base s p xs.length v3 (xs ++ [nod key]) (c :: r) _ hs HP6.out HA.out HI3.out).mono ?_;rw [HM.out];rintro e w8 ⟨rfl,q8,v8,ha8,hp8,hc8⟩;have HA8:=Lib.hid ha8;have HP8:=Lib.hid hp8;have HC8:=Lib.hid hc8;clear ha8 hp8 hc8))
            go_meet
            case rel =>
             have hgd : (xs ++ [nod key]).getD xs.length zN = nod key:=by have:=at_mid (xs:=xs) (h:=nod key) (ys:=[]);rw [List.append_nil] at this;exact this.1
             have hst : ∀ h',(xs ++ [nod key]).set xs.length h' = xs ++ [h']:=by intro h';have:=(at_mid (xs:=xs) (h:=nod key) (ys:=[])).2 h';rw [List.append_nil,List.append_nil] at this;exact this
             have hp9:=HP8.out
             simp only [hgd,hst] at hp9
             exact ⟨q8,v8,{ nod key with f0:=4,f4:=str t5 },[],r5,_,Lib.hid ⟨HOO.out,by simp [F.flat,nod]⟩,HA8,Lib.hid (by rw [List.append_nil];exact hp9),Lib.hid (HC6.out.trans HC8.out),Lib.hid (HB6.out.ch HP6.out HC8.out)⟩
  case rest =>
   obtain ⟨q,u,h',ys,r',f,HF,HAq,HPx,HCx,HBx⟩:=hcut
   clear x1 x2 k2
   obtain ⟨x1,x2⟩:=HBx.out.cells
   obtain ⟨k0,k1,k2⟩:=HPx.out.P.cells
   have hi3 : xs.length < ((xs ++ [h']) ++ ys).length:=by simp
   obtain ⟨b,c4,rfl,hc4,hb4,hlt4,hx4,hf4⟩:=HPx.out.R.at_ hi3
   have hi4 : (xs.length : Int) < (((xs ++ [h']) ++ ys).length : Int):=by omega
   have hx1:=hx4.2.1
   rw [at_mid.1] at hx1
   have hf1:=hf4 1
   have HPx2:=HPx
   have hln : ((xs ++ [h']) ++ ys).length = xs.length + f.flat.length:=by rw [HF.out.2];simp
   have hown:=(value_owes d key (c :: r) r' f (HO.out.trans HF.out.1)).2
   have hlen:=HA.out.len
   have hnp:=HN.out
   have hpos : 0 < f.flat.length:=by rw [HF.out.2];simp
   have hx0:=HPx.out.R.ne HPx.out.P (by decide)
   have hbg2 : b ≠ g:=by
    intro e
    exact hx0 (by rw [e];simp [Value.ownBlock])
   generalize hL : ((xs ++ [h']) ++ ys).length = L at hln hi4 k2
   have HL:=Lib.hid hL
   have HLN:=Lib.hid hln
   have hL1 : L < 70000:=by omega
   have hL2 : xs.length ≤ L:=by omega
   have p1 : (0 : Int) ≤ (xs.length : Int):=by omega
   have p2 : (L : Int) < 70000:=by omega
   have p3 : (xs.length : Int) < 70000:=by omega
   have HBG2:=Lib.hid hbg2
   clear hx4 hf4 hi3 hc4 hlt4 hown hlen hnp hpos hln hL hx0 k0 k1 x2 hb4 hbg2
   go_wp2_with fail
   go_region
   go_wp2_with fail
   go_end0
   rw [HO.out,HF.out.1]
   have hi3 : xs.length < ((xs ++ [h']) ++ ys).length:=by simp
   have ps:=HPx2.out.put hi3 1 (by omega) (.int .i64 ((L : Int) - (xs.length : Int))) { h' with f1:=(L : Int) - (xs.length : Int) } (by rw [at_mid.1];rfl)
   rw [at_mid.2] at ps
   have hLL : (L : Int) - (xs.length : Int) = ((ys.length + 1 : Nat) : Int):=by
    have:=HL.out
    simp at this
    omega
   have hfl : (xs ++ [{ h' with f1:=(L : Int) - (xs.length : Int) }]) ++ ys = xs ++ f.flat:=by
    rw [HF.out.2,hLL]
    simp
   rw [hfl] at ps
   have hch:=((HCx.out.setRow (xs.length * 5 + 1) (.int .i64 ((L : Int) - (xs.length : Int)))).trans (Ch.of_drawn (drawn_drew _ _ (Drawn0.refl _)))).len_ (xs ++ f.flat).length
   exact ⟨rfl,q,_,HAq.out,ps.drawn (drawn_drew _ _ (Drawn0.refl _)),hch⟩
end Go.Proofs.YtjehflambbjoaaaDoor.X
namespace Go.Proofs.YtjehflambbjoaaaDoor.X
open Go.RowKit Go.Proofs.YtjehflambbjoaaaDoorW.PrintWords
set_option linter.unusedVariables false
set_option linter.unusedSimpArgs false
theorem value_ok : ∀ (d deep : Nat),deep + d = 32 → ValOk d deep
 | 0,deep,hd => value_step 0 deep hd (fun d' h => by omega)
 | d + 1,deep,hd => value_step (d + 1) deep hd (fun d' h => by
   obtain rfl : d = d':=by omega
   exact value_ok d (deep + 1) (by omega))
structure Res3 (w : World) (B : Nat) (v : Value) (a e : Int) : Prop where
 V : w.heap[B]? = some (.cells #[v] 22 (0,0))
 A : w.heap[B + 1]? = some (.cells #[.int .i64 a] 3 (0,0))
 E : w.heap[B + 2]? = some (.cells #[.int .i64 e] 33 (0,0))
set_option maxHeartbeats 1000000 in
set_option maxRecDepth 100000 in
theorem catch_panicking (B : Nat) (v : Value) (a0 e0 p x : Int) (older : List PanicEntry) (w : World) (h : Res3 w B v a0 e0) :
  CallsD Tryd.prog 68 #[.pointer (some ⟨B,0,none⟩),.pointer (some ⟨B + 1,0,none⟩),.pointer (some ⟨B + 2,0,none⟩)] (.panicking ({ v:=.iface 113 (.agg #[.int .i64 p,.int .i64 x]),recovered:=false } :: older)) w fun e u' w' =>
   e = .returned (.tuple #[]) ∧ u' = .panicking ({ v:=.iface 113 (.agg #[.int .i64 p,.int .i64 x]),recovered:=true } :: older) ∧ Res3 w' B (.slice none 0 0) p x ∧ (∀ k,k < B → w'.heap[k]? = w.heap[k]?) ∧ w.heap.size ≤ w'.heap.size ∧ w'.os = w.os ∧ w'.tape = w.tape ∧ w'.output = w.output:=by
 have c0 : w.cell? ⟨B,0,none⟩ = some v:=(blk_cell h.V 0).trans rfl
 have c1 : w.cell? ⟨B + 1,0,none⟩ = some (.int .i64 a0):=(blk_cell h.A 0).trans rfl
 have c2 : w.cell? ⟨B + 2,0,none⟩ = some (.int .i64 e0):=(blk_cell h.E 0).trans rfl
 have g0:=blk_frozen h.V 0
 have g1:=blk_frozen h.A 0
 have g2:=blk_frozen h.E 0
 have ta : ∀ W,(Instr.typeAssert (.iface 113 (.agg #[.int .i64 p,.int .i64 x])) 20 113 true).run Tryd.prog W = .ok (.tuple #[.agg #[.int .i64 p,.int .i64 x],.bool true]) W:=fun _ => by kernel_rfl
 refine callsD_of_wpS Tryd.func68 rfl fun c₀ cs hu => ?_
 apply wpS_seq
 apply wpS_region
 simp [wpOpsS,go_sem,recoverD,hu,Tryd.ntmps68,Exit.thenS,ta,Array.replicate]
 have cz0 : (w.alloc (.cells #[.int .i64 p,.int .i64 x] 113 (0,0))).cell? ⟨w.heap.size,0,none⟩ = some (.int .i64 p):=by simp [World.cell?_alloc_new]
 have hb0 : B < w.heap.size:=blk_lt h.V
 have hb1 : B + 1 < w.heap.size:=blk_lt h.A
 have hb2 : B + 2 < w.heap.size:=blk_lt h.E
 clear ta
 apply wpS_seq
 apply wpS_region
 simp [wpOpsS,go_sem,Exit.thenS]
 refine wpS_cond (t:=true) (by simp [Act.eval]) ?_
 simp only [if_true]
 refine wpS_of_wp ?_
 go_region
 have hres : Res3 ((((w.setCell ⟨B,0,none⟩ (.slice none 0 0)).setCell ⟨B + 1,0,none⟩ (.int .i64 p)).setCell ⟨B + 2,0,none⟩ (.int .i64 x)).alloc (.cells #[.int .i64 p,.int .i64 x] 113 (0,0))).drew B (.slice none 0 0) p x:=by
  have a1 : (w.setCell ⟨B,0,none⟩ (.slice none 0 0)).heap[B]? = some (.cells #[.slice none 0 0] 22 (0,0)):=by simpa using blk_set h.V 0 (.slice none 0 0)
  have a2 : (w.setCell ⟨B,0,none⟩ (.slice none 0 0)).heap[B + 1]? = some (.cells #[.int .i64 a0] 3 (0,0)):=blk_far h.A (by simp) _
  have a3 : (w.setCell ⟨B,0,none⟩ (.slice none 0 0)).heap[B + 2]? = some (.cells #[.int .i64 e0] 33 (0,0)):=blk_far h.E (by simp) _
  have b1:=blk_far a1 (p:=⟨B + 1,0,none⟩) (by simp) (.int .i64 p)
  have b2 : ((w.setCell ⟨B,0,none⟩ (.slice none 0 0)).setCell ⟨B + 1,0,none⟩ (.int .i64 p)).heap[B + 1]? = some (.cells #[.int .i64 p] 3 (0,0)):=by simpa using blk_set a2 0 (.int .i64 p)
  have b3:=blk_far a3 (p:=⟨B + 1,0,none⟩) (by simp) (.int .i64 p)
  have d1:=blk_far b1 (p:=⟨B + 2,0,none⟩) (by simp) (.int .i64 x)
  have d2:=blk_far b2 (p:=⟨B + 2,0,none⟩) (by simp) (.int .i64 x)
  have d3 : (((w.setCell ⟨B,0,none⟩ (.slice none 0 0)).setCell ⟨B + 1,0,none⟩ (.int .i64 p)).setCell ⟨B + 2,0,none⟩ (.int .i64 x)).heap[B + 2]? = some (.cells #[.int .i64 x] 33 (0,0)):=by simpa using blk_set b3 0 (.int .i64 x)
  exact ⟨(Lib.alloc_old _ _ _ (blk_lt d1)).trans d1,(Lib.alloc_old _ _ _ (blk_lt d2)).trans d2,(Lib.alloc_old _ _ _ (blk_lt d3)).trans d3⟩
 have hold : ∀ k,k < B → ((((w.setCell ⟨B,0,none⟩ (.slice none 0 0)).setCell ⟨B + 1,0,none⟩ (.int .i64 p)).setCell ⟨B + 2,0,none⟩ (.int .i64 x)).alloc (.cells #[.int .i64 p,.int .i64 x] 113 (0,0))).drew.heap[k]? = w.heap[k]?:=by
  intro k hk
  have e1:=Below.heap_setCell w ⟨B,0,none⟩ (.slice none 0 0) k (by simp only;omega)
  have e2:=Below.heap_setCell (w.setCell ⟨B,0,none⟩ (.slice none 0 0)) ⟨B + 1,0,none⟩ (.int .i64 p) k (by simp only;omega)
  have e3:=Below.heap_setCell ((w.setCell ⟨B,0,none⟩ (.slice none 0 0)).setCell ⟨B + 1,0,none⟩ (.int .i64 p)) ⟨B + 2,0,none⟩ (.int .i64 x) k (by simp only;omega)
  exact (Lib.alloc_old _ _ _ (by simp [World.setCell];omega)).trans (e3.trans (e2.trans e1))
 have hsz : w.heap.size ≤ ((((w.setCell ⟨B,0,none⟩ (.slice none 0 0)).setCell ⟨B + 1,0,none⟩ (.int .i64 p)).setCell ⟨B + 2,0,none⟩ (.int .i64 x)).alloc (.cells #[.int .i64 p,.int .i64 x] 113 (0,0))).drew.heap.size:=by
  show w.heap.size ≤ (World.alloc _ _).heap.size
  rw [World.size_alloc]
  simp [World.setCell]
 have hot : (((((w.setCell ⟨B,0,none⟩ (.slice none 0 0)).setCell ⟨B + 1,0,none⟩ (.int .i64 p)).setCell ⟨B + 2,0,none⟩ (.int .i64 x)).alloc (.cells #[.int .i64 p,.int .i64 x] 113 (0,0))).drew).os = w.os ∧ (((((w.setCell ⟨B,0,none⟩ (.slice none 0 0)).setCell ⟨B + 1,0,none⟩ (.int .i64 p)).setCell ⟨B + 2,0,none⟩ (.int .i64 x)).alloc (.cells #[.int .i64 p,.int .i64 x] 113 (0,0))).drew).tape = w.tape ∧ (((((w.setCell ⟨B,0,none⟩ (.slice none 0 0)).setCell ⟨B + 1,0,none⟩ (.int .i64 p)).setCell ⟨B + 2,0,none⟩ (.int .i64 x)).alloc (.cells #[.int .i64 p,.int .i64 x] 113 (0,0))).drew).output = w.output:=⟨rfl,rfl,rfl⟩
 clear g0 g1 g2 c0 c1 c2 cz0
 generalize ((((w.setCell ⟨B,0,none⟩ (.slice none 0 0)).setCell ⟨B + 1,0,none⟩ (.int .i64 p)).setCell ⟨B + 2,0,none⟩ (.int .i64 x)).alloc (.cells #[.int .i64 p,.int .i64 x] 113 (0,0))).drew = W at hres hold hsz hot
 have hp : ∀ (e : Ending) (u' : FrameMode),(e = .returned (.tuple #[]) ∧ u' = .panicking ({ v:=.iface 113 (.agg #[.int .i64 p,.int .i64 x]),recovered:=true } :: older)) → (e = .returned (.tuple #[]) ∧ u' = .panicking ({ v:=.iface 113 (.agg #[.int .i64 p,.int .i64 x]),recovered:=true } :: older) ∧ Res3 W B (.slice none 0 0) p x ∧ (∀ k,k < B → W.heap[k]? = w.heap[k]?) ∧ w.heap.size ≤ W.heap.size ∧ W.os = w.os ∧ W.tape = w.tape ∧ W.output = w.output) :=
  fun e u' h => ⟨h.1,h.2,hres,hold,hsz,hot⟩
 clear hres hold hsz hot hb0 hb1 hb2 h
 exact ⟨rfl,_,rfl,.tuple #[],results_none rfl _ _ _,hp _ _ ⟨rfl,rfl⟩⟩
set_option maxHeartbeats 1000000 in
set_option maxRecDepth 100000 in
theorem catch_idle (B : Nat) (v : Value) (a0 e0 : Int) (w : World) (h : Res3 w B v a0 e0) :
  CallsD Tryd.prog 68 #[.pointer (some ⟨B,0,none⟩),.pointer (some ⟨B + 1,0,none⟩),.pointer (some ⟨B + 2,0,none⟩)] .returning w fun e u' w' => e = .returned (.tuple #[]) ∧ u' = .returning ∧ Below w.heap.size w w':=by
 have ta : ∀ W,(Instr.typeAssert .nilIface 20 113 true).run Tryd.prog W = .ok (.tuple #[.agg #[.int .i64 0,.int .i64 0],.bool false]) W:=fun _ => by kernel_rfl
 refine callsD_of_wpS Tryd.func68 rfl fun c₀ cs hu => ?_
 apply wpS_seq
 apply wpS_region
 simp [wpOpsS,go_sem,recoverD,hu,Tryd.ntmps68,Exit.thenS,ta,Array.replicate]
 clear ta
 apply wpS_seq
 apply wpS_region
 simp [wpOpsS,go_sem,Exit.thenS]
 refine wpS_cond (t:=false) (by simp [Act.eval]) ?_
 simp only [Bool.false_eq_true,if_false]
 refine wpS_of_wp (wp_skip ?_)
 have hb : Below w.heap.size w (w.alloc (.cells #[.int .i64 0,.int .i64 0] 113 (0,0))):=(Below.refl _ _).alloc (Nat.le_refl _) _
 exact ⟨rfl,.returning,by cases c₀;simp_all,.tuple #[],results_none rfl _ _ _,rfl,rfl,hb⟩
end Go.Proofs.YtjehflambbjoaaaDoor.X
namespace Go.Proofs.YtjehflambbjoaaaDoor.X
open Go.RowKit Go.Proofs.YtjehflambbjoaaaDoorW.PrintWords
set_option linter.unusedVariables false
set_option linter.unusedSimpArgs false
def jsontext_Parse.f (s : ByteArray) : Option (List (S24) × Int × Int):=some ((parse s.data.toList).1.flat,(parse s.data.toList).2.1,(parse s.data.toList).2.2)
def PostP (w : World) (x : F × Int × Int) (e : Ending) (w' : World) : Prop :=
 ∃ v0 : Value,e = .returned (.tuple #[v0,.int .i64 x.2.1,.int .i64 x.2.2]) ∧ Kd.R kN 24 w' w.heap.size (fun _ => True) v0 x.1.flat ∧ Below w.heap.size w w'
theorem Res3.ch {w w' : World} {B g base p : Nat} {s : ByteArray} {v u u' : Value} {a e : Int} {xs : List Nd} (h : Res3 w B v a e) (hP : PS w g base s p u xs) (hc : Ch g u u' w w') : Res3 w' B v a e :=
 ⟨hc.keep hP.R h.V (by decide) (ne_par hP.P h.V (by decide)),hc.keep hP.R h.A (by decide) (ne_par hP.P h.A (by decide)),hc.keep hP.R h.E (by decide) (ne_par hP.P h.E (by decide))⟩
theorem Res3.cells {w : World} {B : Nat} {v : Value} {a e : Int} (h : Res3 w B v a e) : w.cell? ⟨B,0,none⟩ = some v ∧ w.cell? ⟨B + 1,0,none⟩ = some (.int .i64 a) ∧ w.cell? ⟨B + 1 + 1,0,none⟩ = some (.int .i64 e) :=
 ⟨(blk_cell h.V 0).trans rfl,(blk_cell h.A 0).trans rfl,(blk_cell h.E 0).trans rfl⟩
set_option maxHeartbeats 4000000 in
set_option maxRecDepth 100000 in
theorem parse_calls (s : ByteArray) (w : World) (hGU8 : GlobU8 w) : Calls Tryd.prog 65 #[.string s] w (PostP w (parse s.data.toList)):=by
 have hmf : ∀ (fn : Fn) (first cap : Array Value) (w : World),(Instr.makeFunc fn first cap).run Tryd.prog w = .ok (.func fn first cap) w:=fun _ _ _ _ => rfl
 have HG:=Lib.hid hGU8
 clear hGU8
 have hsl : s.data.toList.length = s.size:=by simp
 by_cases hl : 65536 < s.size
 ·have hp : parse s.data.toList = (.nil,0,3):=by
   unfold parse
   rw [if_pos (by omega)]
  have HPP:=Lib.hid hp
  have d1 : decide (65536 < (s.size : Int)) = true:=decide_eq_true (by omega)
  clear hp hsl
  go_enter_defers Tryd.func65,Tryd.ntmps65
  go_wp2_with fail
  have z2 : (((w.alloc (.cells #[.slice none 0 0] 22 (0,0))).alloc (.cells #[.int .i64 0] 3 (0,0))).alloc (.cells #[.int .i64 3] 33 (0,0))).cell? ⟨w.heap.size + 1 + 1,0,none⟩ = some (.int .i64 3):=by
   have:=World.cell?_alloc_new ((w.alloc (.cells #[.slice none 0 0] 22 (0,0))).alloc (.cells #[.int .i64 0] 3 (0,0))) #[.int .i64 3] 33 0
   simpa using this
  have hpost : PostP w (parse s.data.toList) (.returned (.tuple #[.slice none 0 0,.int .i64 0,.int .i64 3])) (((w.alloc (.cells #[.slice none 0 0] 22 (0,0))).alloc (.cells #[.int .i64 0] 3 (0,0))).alloc (.cells #[.int .i64 3] 33 (0,0))):=by
   rw [HPP.out]
   refine ⟨_,rfl,Kd.R_nil _ _ _ _ _,?_⟩
   exact (((Below.refl _ _).alloc (Nat.le_refl _) _).alloc (by rw [World.size_alloc];omega) _).alloc (by rw [World.size_alloc,World.size_alloc];omega) _
  simp [bodyPostD,Leaves,settle,results,Tryd.results65,go_sem]
  exact hpost
 ·have hs : s.size ≤ 65536:=by omega
  have d1 : decide (65536 < (s.size : Int)) = false:=decide_eq_false (by omega)
  generalize hO : value 32 [] (blanks s.data.toList) = O
  have HO:=Lib.hid hO
  clear hO hsl
  go_enter_defers Tryd.func65,Tryd.ntmps65
  go_upto_region 5 with (fail)
  have hbel : Below w.heap.size w ((((w.alloc (.cells #[.slice none 0 0] 22 (0,0))).alloc (.cells #[.int .i64 0] 3 (0,0))).alloc (.cells #[.int .i64 0] 33 (0,0))).alloc (.cells #[.string s,.int .i64 0,.slice none 0 0] 117 (0,0))) :=
   ((((Below.refl _ _).alloc (Nat.le_refl _) _).alloc (by rw [World.size_alloc];omega) _).alloc (by rw [World.size_alloc,World.size_alloc];omega) _).alloc (by rw [World.size_alloc,World.size_alloc,World.size_alloc];omega) _
  have hr3 : Res3 ((((w.alloc (.cells #[.slice none 0 0] 22 (0,0))).alloc (.cells #[.int .i64 0] 3 (0,0))).alloc (.cells #[.int .i64 0] 33 (0,0))).alloc (.cells #[.string s,.int .i64 0,.slice none 0 0] 117 (0,0))) w.heap.size (.slice none 0 0) 0 0:=by
   refine ⟨?_,?_,?_⟩
   ·rw [Lib.alloc_old _ _ _ (by simp only [World.size_alloc];omega),Lib.alloc_old _ _ _ (by simp only [World.size_alloc];omega),Lib.alloc_old _ _ _ (by simp only [World.size_alloc];omega)]
    exact heap_alloc_new w _
   ·rw [Lib.alloc_old _ _ _ (by simp only [World.size_alloc];omega),Lib.alloc_old _ _ _ (by simp only [World.size_alloc];omega)]
    have:=heap_alloc_new (w.alloc (.cells #[.slice none 0 0] 22 (0,0))) (.cells #[.int .i64 0] 3 (0,0))
    rw [World.size_alloc] at this
    exact this
   ·rw [Lib.alloc_old _ _ _ (by simp only [World.size_alloc];omega)]
    have:=heap_alloc_new ((w.alloc (.cells #[.slice none 0 0] 22 (0,0))).alloc (.cells #[.int .i64 0] 3 (0,0))) (.cells #[.int .i64 0] 33 (0,0))
    rw [World.size_alloc,World.size_alloc] at this
    exact this
  have hpb : PB ((((w.alloc (.cells #[.slice none 0 0] 22 (0,0))).alloc (.cells #[.int .i64 0] 3 (0,0))).alloc (.cells #[.int .i64 0] 33 (0,0))).alloc (.cells #[.string s,.int .i64 0,.slice none 0 0] 117 (0,0))) (w.heap.size + 1 + 1 + 1) s 0 (.slice none 0 0):=by
   have:=heap_alloc_new (((w.alloc (.cells #[.slice none 0 0] 22 (0,0))).alloc (.cells #[.int .i64 0] 3 (0,0))).alloc (.cells #[.int .i64 0] 33 (0,0))) (.cells #[.string s,.int .i64 0,.slice none 0 0] 117 (0,0))
   rw [World.size_alloc,World.size_alloc,World.size_alloc] at this
   exact this
  generalize hw4 : ((((w.alloc (.cells #[.slice none 0 0] 22 (0,0))).alloc (.cells #[.int .i64 0] 3 (0,0))).alloc (.cells #[.int .i64 0] 33 (0,0))).alloc (.cells #[.string s,.int .i64 0,.slice none 0 0] 117 (0,0))) = w4 at hbel hr3 hpb
  have HW4:=Lib.hid hw4
  have HBEL:=Lib.hid hbel
  have HR3:=Lib.hid hr3
  have HP4 : Hid (PS w4 (w.heap.size + 1 + 1 + 1) w.heap.size s 0 (.slice none 0 0) []):=Lib.hid ⟨hpb,Row.mk_ (Kd.R_nil _ _ _ _ (fun _ => True))⟩
  have HG4 : Hid (GlobU8 w4):=Lib.hid (HG.out.below hbel)
  have hB : 2 ≤ w.heap.size:=by have:=HG.out.L;omega
  have HB:=Lib.hid hB
  have hg2 : 1 < w.heap.size + 1 + 1 + 1:=by omega
  have hbg : w.heap.size ≤ w.heap.size + 1 + 1 + 1:=by omega
  have HG2:=Lib.hid hg2
  have HBG:=Lib.hid hbg
  clear hw4 hbel hr3 hpb hB hg2 hbg
  go_upto_region 6 with (go_at_call 69;refine (blanks_calls (w.heap.size + 1 + 1 + 1) s 0 (.slice none 0 0) s.data.toList _ hs HP4.out.P (At.start s)).mono ?_;rintro e w5 ⟨rfl,⟨q5,ha5,hp5⟩,hu5⟩;have HA5:=Lib.hid ha5;have HPB5:=Lib.hid hp5;have HU5:=Lib.hid hu5;clear ha5 hp5 hu5)
  have HP5 : Hid (PS w5 (w.heap.size + 1 + 1 + 1) w.heap.size s q5 (.slice none 0 0) []):=Lib.hid (HP4.out.upd HPB5.out HU5.out)
  have HG5 : Hid (GlobU8 w5):=Lib.hid (HG4.out.upd HG2.out HU5.out)
  have HC5 : Hid (Ch (w.heap.size + 1 + 1 + 1) (.slice none 0 0) (.slice none 0 0) w4 w5):=Lib.hid (Ch.of_upd HU5.out)
  cases O with
  | bad r x =>
   have HPP : Hid (parse s.data.toList = (.nil,((s.size - r.length : Nat) : Int),x)):=Lib.hid (by unfold parse;rw [if_neg (by simp;omega),HO.out];simp)
   go_wp2_with (go_at_call 70;refine (value_ok 32 0 rfl (w.heap.size + 1 + 1 + 1) w.heap.size s q5 _ [] [] (blanks s.data.toList) _ hs HG5.out HG2.out HB.out HBG.out HP5.out HA5.out (Nat.zero_le _)).mono ?_;rw [HO.out];rintro e w6 ⟨hst,v6,hc6⟩;have HST:=Lib.hid hst;have HC6:=Lib.hid hc6;clear hc6;unfold Stops at hst;subst hst)
   have hr6 : Res3 w6 w.heap.size (.slice none 0 0) 0 0:=(HR3.out.ch HP4.out HC5.out).ch HP5.out HC6.out
   have hbl : Below w.heap.size w w6:=HBEL.out.trans ((HC5.out.trans HC6.out).base_ HP4.out HBG.out)
   refine leaves_cons (f:=68) (args:=#[.pointer (some ⟨w.heap.size,0,none⟩),.pointer (some ⟨w.heap.size + 1,0,none⟩),.pointer (some ⟨w.heap.size + 1 + 1,0,none⟩)]) (by simp) (by simp [go_sem]) ?_
   refine (catch_panicking w.heap.size _ 0 0 _ x [] w6 hr6).mono ?_
   rintro e u' w'' ⟨rfl,rfl,hres,hold,hsz,hos,htp,hout⟩
   obtain ⟨z0,z1,z2⟩:=hres.cells
   have hfin : Below w.heap.size w w'':=⟨hos.trans hbl.os,htp.trans hbl.tape,hout.trans hbl.output,Nat.le_trans hbl.size hsz,fun k hk => (hold k hk).trans (hbl.block k hk)⟩
   have hpost : PostP w (parse s.data.toList) (.returned (.tuple #[.slice none 0 0,.int .i64 ((s.size - r.length : Nat) : Int),.int .i64 x])) w'':=by
    rw [HPP.out]
    exact ⟨_,rfl,Kd.R_nil _ _ _ _ _,hfin⟩
   simp [Leaves,settle,results,Tryd.results65,go_sem,z0,z1,z2]
   exact hpost
  | ok r f =>
   go_upto_region 8 with (first
    | (go_at_call 70;refine (value_ok 32 0 rfl (w.heap.size + 1 + 1 + 1) w.heap.size s q5 _ [] [] (blanks s.data.toList) _ hs HG5.out HG2.out HB.out HBG.out HP5.out HA5.out (Nat.zero_le _)).mono ?_;rw [HO.out];rintro e w6 ⟨rfl,q6,v6,ha6,hp6,hc6⟩;have HA6:=Lib.hid ha6;have HP6:=Lib.hid hp6;have HC6:=Lib.hid hc6;clear ha6 hp6 hc6)
    | (go_at_call 69;refine (blanks_calls (w.heap.size + 1 + 1 + 1) s q6 v6 r _ hs HP6.out.P HA6.out).mono ?_;rintro e w7 ⟨rfl,⟨q7,ha7,hp7⟩,hu7⟩;have HA7:=Lib.hid ha7;have HPB7:=Lib.hid hp7;have HU7:=Lib.hid hu7;clear ha7 hp7 hu7))
   have HP7 : Hid (PS w7 (w.heap.size + 1 + 1 + 1) w.heap.size s q7 v6 f.flat):=Lib.hid (HP6.out.upd HPB7.out HU7.out)
   have HC7 : Hid (Ch (w.heap.size + 1 + 1 + 1) (.slice none 0 0) v6 w4 w7):=Lib.hid ((HC5.out.trans HC6.out).trans (Ch.of_upd HU7.out))
   have hr7 : Res3 w7 w.heap.size (.slice none 0 0) 0 0:=HR3.out.ch HP4.out HC7.out
   have hbl : Below w.heap.size w w7:=HBEL.out.trans (HC7.out.base_ HP4.out HBG.out)
   obtain ⟨x0,x1,x2⟩:=HPB7.out.cells
   have HR7:=Lib.hid hr7
   have HBL:=Lib.hid hbl
   clear x0 hr7 hbl
   cases hm : blanks r with
   | nil =>
    have HPP : Hid (parse s.data.toList = (f,0,0)):=Lib.hid (by unfold parse;rw [if_neg (by simp;omega),HO.out];simp [hm])
    have HA8 : Hid (At s q7 []):=Lib.hid (hm ▸ HA7.out)
    obtain ⟨e1,e2⟩:=at_ge HA8.out
    clear hm
    obtain ⟨A6,k6,rfl⟩:=Kd.R_slice HP7.out.R.all
    obtain ⟨c0,c1,c2⟩:=HR7.out.cells
    have g0:=blk_frozen HR7.out.V 0
    have g1:=blk_frozen HR7.out.A 0
    have g2 : w7.frozen? ⟨w.heap.size + 1 + 1,0,none⟩ = false:=blk_frozen HR7.out.E 0
    go_wp2_with fail
    clear g0 g1 g2 c0 c1 c2 x1 x2
    have t0 : ((((w7.setCell ⟨w.heap.size,0,none⟩ (.slice A6 f.flat.length k6)).setCell ⟨w.heap.size + 1,0,none⟩ (.int .i64 0)).setCell ⟨w.heap.size + 1 + 1,0,none⟩ (.int .i64 0))).heap[w.heap.size]? = some (.cells #[.slice A6 f.flat.length k6] 22 (0,0)) :=
     blk_far (blk_far (by simpa using blk_set HR7.out.V 0 (.slice A6 f.flat.length k6)) (by simp) _) (by simp;omega) _
    have t1 : ((((w7.setCell ⟨w.heap.size,0,none⟩ (.slice A6 f.flat.length k6)).setCell ⟨w.heap.size + 1,0,none⟩ (.int .i64 0)).setCell ⟨w.heap.size + 1 + 1,0,none⟩ (.int .i64 0))).heap[w.heap.size + 1]? = some (.cells #[.int .i64 0] 3 (0,0)) :=
     blk_far (by simpa using blk_set (blk_far HR7.out.A (by simp) _) 0 (.int .i64 0)) (by simp) _
    have t2 : ((((w7.setCell ⟨w.heap.size,0,none⟩ (.slice A6 f.flat.length k6)).setCell ⟨w.heap.size + 1,0,none⟩ (.int .i64 0)).setCell ⟨w.heap.size + 1 + 1,0,none⟩ (.int .i64 0))).heap[w.heap.size + 2]? = some (.cells #[.int .i64 0] 33 (0,0)) :=
     by simpa using blk_set (blk_far (blk_far HR7.out.E (by simp) _) (by simp) _) 0 (.int .i64 0)
    have hb8 : Below w.heap.size w (((w7.setCell ⟨w.heap.size,0,none⟩ (.slice A6 f.flat.length k6)).setCell ⟨w.heap.size + 1,0,none⟩ (.int .i64 0)).setCell ⟨w.heap.size + 1 + 1,0,none⟩ (.int .i64 0)) :=
     ((HBL.out.setCell (Nat.le_refl _) (p:=⟨w.heap.size,0,none⟩) _).setCell (p:=⟨w.heap.size + 1,0,none⟩) (by simp only;omega) _).setCell (p:=⟨w.heap.size + 1 + 1,0,none⟩) (by simp only;omega) _
    have hrow : Kd.R kN 24 (((w7.setCell ⟨w.heap.size,0,none⟩ (.slice A6 f.flat.length k6)).setCell ⟨w.heap.size + 1,0,none⟩ (.int .i64 0)).setCell ⟨w.heap.size + 1 + 1,0,none⟩ (.int .i64 0)) w.heap.size (fun _ => True) (.slice A6 f.flat.length k6) f.flat:=by
     refine Row.all (HP7.out.R.move (fun k hk => ?_))
     have n0:=HP7.out.R.ne HR7.out.V (by decide)
     have n1:=HP7.out.R.ne HR7.out.A (by decide)
     have n2:=HP7.out.R.ne HR7.out.E (by decide)
     rw [hk] at n0 n1 n2
     have e1:=Below.heap_setCell w7 ⟨w.heap.size,0,none⟩ (.slice A6 f.flat.length k6) k (fun e => n0 (by rw [e]))
     have e2:=Below.heap_setCell (w7.setCell ⟨w.heap.size,0,none⟩ (.slice A6 f.flat.length k6)) ⟨w.heap.size + 1,0,none⟩ (.int .i64 0) k (fun e => n1 (by rw [e]))
     have e3:=Below.heap_setCell ((w7.setCell ⟨w.heap.size,0,none⟩ (.slice A6 f.flat.length k6)).setCell ⟨w.heap.size + 1,0,none⟩ (.int .i64 0)) ⟨w.heap.size + 1 + 1,0,none⟩ (.int .i64 0) k (fun e => n2 (by rw [e]))
     exact e3.trans (e2.trans e1)
    generalize ((w7.setCell ⟨w.heap.size,0,none⟩ (.slice A6 f.flat.length k6)).setCell ⟨w.heap.size + 1,0,none⟩ (.int .i64 0)).setCell ⟨w.heap.size + 1 + 1,0,none⟩ (.int .i64 0) = w8 at t0 t1 t2 hb8 hrow
    refine leaves_cons (f:=68) (args:=#[.pointer (some ⟨w.heap.size,0,none⟩),.pointer (some ⟨w.heap.size + 1,0,none⟩),.pointer (some ⟨w.heap.size + 1 + 1,0,none⟩)]) (by simp) (by simp [go_sem]) ?_
    refine (catch_idle w.heap.size _ 0 0 w8 ⟨t0,t1,t2⟩).mono ?_
    rintro e u' w'' ⟨rfl,rfl,hb9⟩
    have z0 : w''.cell? ⟨w.heap.size,0,none⟩ = some (.slice A6 f.flat.length k6):=(cell_same (hb9.block _ (blk_lt t0))).trans ((blk_cell t0 0).trans rfl)
    have z1 : w''.cell? ⟨w.heap.size + 1,0,none⟩ = some (.int .i64 0):=(cell_same (hb9.block _ (blk_lt t1))).trans ((blk_cell t1 0).trans rfl)
    have z2 : w''.cell? ⟨w.heap.size + 1 + 1,0,none⟩ = some (.int .i64 0):=(cell_same (hb9.block _ (blk_lt t2))).trans ((blk_cell t2 0).trans rfl)
    have hpost : PostP w (parse s.data.toList) (.returned (.tuple #[.slice A6 f.flat.length k6,.int .i64 0,.int .i64 0])) w'':=by
     rw [HPP.out]
     exact ⟨_,rfl,Kd.R_below hrow hb9,hb8.trans (hb9.mono hb8.size)⟩
    simp [Leaves,settle,results,Tryd.results65,go_sem,z0,z1,z2]
    exact hpost
   | cons c r2 =>
    have HPP : Hid (parse s.data.toList = (.nil,((s.size - (c :: r2).length : Nat) : Int),5)):=Lib.hid (by unfold parse;rw [if_neg (by simp;omega),HO.out];simp [hm])
    have HA8 : Hid (At s q7 (c :: r2)):=Lib.hid (hm ▸ HA7.out)
    obtain ⟨e1,e2⟩:=at_lt HA8.out
    have hst:=HA8.out.stops 5
    unfold Stops at hst
    have hq : (q7 : Int) = ((s.size - (c :: r2).length : Nat) : Int):=by have:=HA8.out.pos;omega
    have HQ:=Lib.hid hq
    clear hm hst hq
    go_wp2_with (go_at_call 71;refine (fail_calls _ _ _).mono ?_;rintro e w8 ⟨rfl,rfl⟩)
    refine leaves_cons (f:=68) (args:=#[.pointer (some ⟨w.heap.size,0,none⟩),.pointer (some ⟨w.heap.size + 1,0,none⟩),.pointer (some ⟨w.heap.size + 1 + 1,0,none⟩)]) (by simp) (by simp [go_sem]) ?_
    refine (catch_panicking w.heap.size _ 0 0 _ 5 [] _ HR7.out).mono ?_
    rintro e u' w'' ⟨rfl,rfl,hres,hold,hsz,hos,htp,hout⟩
    obtain ⟨z0,z1,z2⟩:=hres.cells
    have hbl:=HBL.out
    have hfin : Below w.heap.size w w'':=⟨hos.trans hbl.os,htp.trans hbl.tape,hout.trans hbl.output,Nat.le_trans hbl.size hsz,fun k hk => (hold k hk).trans (hbl.block k hk)⟩
    have hpost : PostP w (parse s.data.toList) (.returned (.tuple #[.slice none 0 0,.int .i64 (q7 : Int),.int .i64 5])) w'':=by
     rw [HPP.out,HQ.out]
     exact ⟨_,rfl,Kd.R_nil _ _ _ _ _,hfin⟩
    simp [Leaves,settle,results,Tryd.results65,go_sem,z0,z1,z2]
    exact hpost
theorem jsontext_Parse.calls (a0 : ByteArray) (r1 : List (S24)) (r2 r3 : Int) (w : World) (hGU8 : GlobU8 w) (h : jsontext_Parse.f a0 = some (r1,r2,r3)) :
  Calls Tryd.prog 65 #[.string a0] w fun e w' => ∃ v0,e = .returned (.tuple #[v0,.int .i64 r2,.int .i64 r3]) ∧ Kd.R k24 24 w' w.heap.size (fun _ => True) v0 r1 ∧ Below w.heap.size w w':=by
 unfold jsontext_Parse.f at h
 injection h with h
 injection h with h1 h2
 injection h2 with h2 h3
 subst h1 h2 h3
 exact parse_calls a0 w hGU8
end Go.Proofs.YtjehflambbjoaaaDoor.X
namespace Go.Proofs.YtjehflambbjoaaaDoor.X
open Go.RowKit Go.Proofs.YtjehflambbjoaaaDoorW.PrintWords Go.Proofs.YtjehflambbjoaaaDoorW.PrintLast Go.Proofs.YtjehflambbjoaaaDoorW.PrintMore
attribute [local go_sem] max2_int min2_int max_two min_two max_three min_three max_four min_four
set_option linter.unusedVariables false
set_option linter.unusedSimpArgs false
def jsontext_number.f (a0 : ByteArray) : Option (Bool):=if a0.toList = ([] : List UInt8) then (some false) else (if 0 < (a0.size : Int) then ((strings_IndexByte.f (⟨#[45,48,49,50,51,52,53,54,55,56,57]⟩ : ByteArray) (bt a0 0)).bind fun t101 => (if t101 < 0 then (some false) else ((jsontext_Parse.f a0).bind fun bt102 => (if bt102.2.2 = 0 then (if 0 < (bt102.1.length : Int) then (if ((rd_T24 bt102.1 0).f0) = 4 then (some (((rd_T24 bt102.1 0).f4).toList == a0.toList)) else (some false)) else (none)) else (some false))))) else (none))
set_option maxHeartbeats 8000000 in
set_option maxRecDepth 100000 in
theorem jsontext_number.calls (a0 : ByteArray) (r : Bool) (w : World) (hGU8 : GlobU8 w) (h : jsontext_number.f a0 = some r) :
  Calls Tryd.prog 58 #[.string a0] w fun e w' => e = .returned (.bool r) ∧ Below w.heap.size w w':=by
 have HGU8:=Aside0.mk hGU8
 clear hGU8
 have HB:=Aside0.mk (Below.refl w.heap.size w)
 have H : (if a0.toList = ([] : List UInt8) then (some false) else (if 0 < (a0.size : Int) then ((strings_IndexByte.f (⟨#[45,48,49,50,51,52,53,54,55,56,57]⟩ : ByteArray) (bt a0 0)).bind fun t101 => (if t101 < 0 then (some false) else ((jsontext_Parse.f a0).bind fun bt102 => (if bt102.2.2 = 0 then (if 0 < (bt102.1.length : Int) then (if ((rd_T24 bt102.1 0).f0) = 4 then (some (((rd_T24 bt102.1 0).f4).toList == a0.toList)) else (some false)) else (none)) else (some false))))) else (none))) = some r:=h
 clear h
 by_cases c2 : a0.toList = ([] : List UInt8)
 ·rw [if_pos c2] at H
  have c2b0 : (a0.toList == ([] : List UInt8)) = true:=beq_iff_eq.mpr c2
  have c2b1 : (a0.toList != ([] : List UInt8)) = false:=bne_eq_false_iff_eq.mpr c2
  clear c2
  obtain rfl:=Option.some.inj H
  go_enter Tryd.func58,Tryd.ntmps58
  go_wp2
  go_ret
  exact ⟨by first|rfl|(simp [errW_none,errW_some] <;> rfl)|(simp [*,errW_none,errW_some] <;> rfl),by repeat (first|(with_reducible first|exact HB.out|apply below_alloc|apply pw_below_drewN|apply below_drew1)|exact HB.out)⟩
 ·rw [if_neg c2] at H
  have c2b0 : (a0.toList == ([] : List UInt8)) = false:=beq_eq_false_iff_ne.mpr c2
  have c2b1 : (a0.toList != ([] : List UInt8)) = true:=bne_iff_ne.mpr c2
  by_cases c3 : 0 < (a0.size : Int)
  ·rw [if_pos c3] at H
   have c3b0 : decide (0 < (a0.size : Int)) = true:=decide_eq_true c3
   have c3b1 : decide (0 < a0.size) = true:=decide_eq_true (by omega)
   clear c3
   replace H:=Option.bind_eq_some_iff.mp H
   obtain ⟨t101,A50,H⟩:=H
   replace H : (if t101 < 0 then (some false) else ((jsontext_Parse.f a0).bind fun bt102 => (if bt102.2.2 = 0 then (if 0 < (bt102.1.length : Int) then (if ((rd_T24 bt102.1 0).f0) = 4 then (some (((rd_T24 bt102.1 0).f4).toList == a0.toList)) else (some false)) else (none)) else (some false)))) = some r:=H
   have A5:=Aside0.mk A50
   clear A50
   by_cases c6 : t101 < 0
   ·rw [if_pos c6] at H
    have c6b0 : decide (t101 < 0) = true:=decide_eq_true c6
    clear c6
    obtain rfl:=Option.some.inj H
    have p4 : 0 ≤ (0 : Int):=(by omega)
    have q4 : 0 < a0.size:=(by have : (0 : Int) < (a0.size : Int):=of_decide_eq_true (by first|(with_reducible assumption)|assumption);omega)
    have hx4 : ∀ h : 0 < a0.size,((a0[0]'h).toNat : Int) = bt a0 0:=bt_at a0 0
    clear p4
    have qi4 : (0 < (a0.size : Int)) = True:=eq_true (of_decide_eq_true (by first|(with_reducible assumption)|assumption))
    replace q4:=eq_true q4
    go_enter Tryd.func58,Tryd.ntmps58
    go_wp2_with (first|(go_at_call 63;(with_reducible refine (strings_IndexByte.calls (⟨#[45,48,49,50,51,52,53,54,55,56,57]⟩ : ByteArray) (bt a0 0) t101 _ A5.out).mono ?_);rintro e w' ⟨rfl,⟨nd,rfl⟩⟩))
    go_ret
    exact ⟨by first|rfl|(simp [errW_none,errW_some] <;> rfl)|(simp [*,errW_none,errW_some] <;> rfl),by repeat (first|(with_reducible first|exact HB.out|apply below_alloc|apply pw_below_drewN|apply below_drew1)|exact HB.out)⟩
   ·rw [if_neg c6] at H
    have c6b0 : decide (t101 < 0) = false:=decide_eq_false c6
    clear c6
    replace H:=Option.bind_eq_some_iff.mp H
    obtain ⟨⟨t102,t103,t104⟩,A70,H⟩:=H
    replace H : (if t104 = 0 then (if 0 < (t102.length : Int) then (if ((rd_T24 t102 0).f0) = 4 then (some (((rd_T24 t102 0).f4).toList == a0.toList)) else (some false)) else (none)) else (some false)) = some r:=H
    have A7:=Aside0.mk A70
    clear A70
    by_cases c8 : t104 = 0
    ·rw [if_pos c8] at H
     have c8b0 : (t104 == 0) = true:=beq_iff_eq.mpr c8
     have c8b1 : (t104 != 0) = false:=bne_eq_false_iff_eq.mpr c8
     clear c8
     by_cases c9 : 0 < (t102.length : Int)
     ·rw [if_pos c9] at H
      have c9b0 : decide (0 < (t102.length : Int)) = true:=decide_eq_true c9
      have c9b1 : decide (0 < t102.length) = true:=decide_eq_true (by omega)
      clear c9
      by_cases c10 : ((rd_T24 t102 0).f0) = 4
      ·rw [if_pos c10] at H
       have c10b0 : (((rd_T24 t102 0).f0) == 4) = true:=beq_iff_eq.mpr c10
       have c10b1 : (((rd_T24 t102 0).f0) != 4) = false:=bne_eq_false_iff_eq.mpr c10
       clear c10
       obtain rfl:=Option.some.inj H
       have p4 : 0 ≤ (0 : Int):=(by omega)
       have q4 : 0 < a0.size:=(by have : (0 : Int) < (a0.size : Int):=of_decide_eq_true (by first|(with_reducible assumption)|assumption);omega)
       have hx4 : ∀ h : 0 < a0.size,((a0[0]'h).toNat : Int) = bt a0 0:=bt_at a0 0
       clear p4
       have qi4 : (0 < (a0.size : Int)) = True:=eq_true (of_decide_eq_true (by first|(with_reducible assumption)|assumption))
       replace q4:=eq_true q4
       go_enter Tryd.func58,Tryd.ntmps58
       go_wp2_with (first|(go_at_call 63;(with_reducible refine (strings_IndexByte.calls (⟨#[45,48,49,50,51,52,53,54,55,56,57]⟩ : ByteArray) (bt a0 0) t101 _ A5.out).mono ?_);rintro e w' ⟨rfl,⟨nd,rfl⟩⟩)|((with_reducible refine gate_callee (f:=65) rfl ?_);refine goesL_ (some 16) rfl rfl Tryd.func65 (by kernel_rfl) rfl #[.string a0] rfl (by (try simp only [List.map_toArray,List.map_cons,List.map_nil]);first|done|rfl|(simp only [List.length_drop,List.length_take];rfl)) ?_;(with_reducible refine (jsontext_Parse.calls a0 t102 t103 t104 _ ?side1 A7.out).mono ?_);(case side1 => first|exact HGU8.out|exact GlobU8.below HGU8.out (by repeat (first|(with_reducible first|exact HB.out|apply below_alloc|apply pw_below_drewN|apply below_drew1)|exact HB.out))|exact GlobU8.drawn HGU8.out (by repeat (first|exact Drawn0.refl _|apply Drawn0.step)));rintro e w11 ⟨v105,rfl,ho0,hb⟩;refine ⟨_,rfl,?_⟩;have n0_:=Aside0.mk (Kd.R_lower ho0 (below_size (by repeat (first|(with_reducible first|exact HB.out|apply below_alloc|apply pw_below_drewN|apply below_drew1)|exact HB.out))));have n1_:=Aside0.mk (below_step (by repeat (first|(with_reducible first|exact HB.out|apply below_alloc|apply pw_below_drewN|apply below_drew1)|exact HB.out)) hb);clear HB;have HO106:=n0_;have HB:=n1_;clear n0_ n1_;(try clear hb);(try clear hb2);(try clear hk);(try clear hi);(try clear ho0);obtain ⟨Ao12,co12,eo12⟩:=Kd.R_slice HO106.out;subst eo12;have p107 : 0 ≤ (0 : Int):=(by omega);have q107 : 0 < (t102.length : Int):=of_decide_eq_true (by first|(with_reducible assumption)|assumption);obtain ⟨ad107,e107,hx107_0,hx107_1,hx107_2,hx107_3,hx107_4⟩:=at_T24 (Kd.R_reads' HO106.out).2.2 0 p107 q107;cases e107;have qi107 : (0 < t102.length) = True:=eq_true (by omega);(try rw [show ((0 : Int)).toNat = 0 from rfl] at hx107_0);(try rw [show 0 * 5 = 0 from rfl] at hx107_0);(try rw [Addr.add_zero'] at hx107_0);(try rw [show ((0 : Int)).toNat = 0 from rfl] at hx107_1);(try rw [show 0 * 5 = 0 from rfl] at hx107_1);(try rw [Addr.add_zero'] at hx107_1);(try rw [show ((0 : Int)).toNat = 0 from rfl] at hx107_2);(try rw [show 0 * 5 = 0 from rfl] at hx107_2);(try rw [Addr.add_zero'] at hx107_2);(try rw [show ((0 : Int)).toNat = 0 from rfl] at hx107_3);(try rw [show 0 * 5 = 0 from rfl] at hx107_3);(try rw [Addr.add_zero'] at hx107_3);(try rw [show ((0 : Int)).toNat = 0 from rfl] at hx107_4);(try rw [show 0 * 5 = 0 from rfl] at hx107_4);(try rw [Addr.add_zero'] at hx107_4);replace p107:=eq_true p107;replace q107:=eq_true q107;have p108 : 0 ≤ (0 : Int):=(by omega);have q108 : 0 < (t102.length : Int):=of_decide_eq_true (by first|(with_reducible assumption)|assumption);obtain ⟨ad108,e108,hx108_0,hx108_1,hx108_2,hx108_3,hx108_4⟩:=at_T24 (Kd.R_reads' HO106.out).2.2 0 p108 q108;obtain rfl : ad107 = ad108:=(by injection e108);have qi108 : (0 < t102.length) = True:=eq_true (by omega);(try rw [show ((0 : Int)).toNat = 0 from rfl] at hx108_0);(try rw [show 0 * 5 = 0 from rfl] at hx108_0);(try rw [Addr.add_zero'] at hx108_0);(try rw [show ((0 : Int)).toNat = 0 from rfl] at hx108_1);(try rw [show 0 * 5 = 0 from rfl] at hx108_1);(try rw [Addr.add_zero'] at hx108_1);(try rw [show ((0 : Int)).toNat = 0 from rfl] at hx108_2);(try rw [show 0 * 5 = 0 from rfl] at hx108_2);(try rw [Addr.add_zero'] at hx108_2);(try rw [show ((0 : Int)).toNat = 0 from rfl] at hx108_3);(try rw [show 0 * 5 = 0 from rfl] at hx108_3);(try rw [Addr.add_zero'] at hx108_3);(try rw [show ((0 : Int)).toNat = 0 from rfl] at hx108_4);(try rw [show 0 * 5 = 0 from rfl] at hx108_4);(try rw [Addr.add_zero'] at hx108_4);replace p108:=eq_true p108;replace q108:=eq_true q108))
       go_ret
       exact ⟨by first|rfl|(simp [errW_none,errW_some] <;> rfl)|(simp [*,errW_none,errW_some] <;> rfl),by repeat (first|(with_reducible first|exact HB.out|apply below_alloc|apply pw_below_drewN|apply below_drew1)|exact HB.out)⟩
      ·rw [if_neg c10] at H
       have c10b0 : (((rd_T24 t102 0).f0) == 4) = false:=beq_eq_false_iff_ne.mpr c10
       have c10b1 : (((rd_T24 t102 0).f0) != 4) = true:=bne_iff_ne.mpr c10
       obtain rfl:=Option.some.inj H
       have p4 : 0 ≤ (0 : Int):=(by omega)
       have q4 : 0 < a0.size:=(by have : (0 : Int) < (a0.size : Int):=of_decide_eq_true (by first|(with_reducible assumption)|assumption);omega)
       have hx4 : ∀ h : 0 < a0.size,((a0[0]'h).toNat : Int) = bt a0 0:=bt_at a0 0
       clear p4
       have qi4 : (0 < (a0.size : Int)) = True:=eq_true (of_decide_eq_true (by first|(with_reducible assumption)|assumption))
       replace q4:=eq_true q4
       go_enter Tryd.func58,Tryd.ntmps58
       go_wp2_with (first|(go_at_call 63;(with_reducible refine (strings_IndexByte.calls (⟨#[45,48,49,50,51,52,53,54,55,56,57]⟩ : ByteArray) (bt a0 0) t101 _ A5.out).mono ?_);rintro e w' ⟨rfl,⟨nd,rfl⟩⟩)|((with_reducible refine gate_callee (f:=65) rfl ?_);refine goesL_ (some 16) rfl rfl Tryd.func65 (by kernel_rfl) rfl #[.string a0] rfl (by (try simp only [List.map_toArray,List.map_cons,List.map_nil]);first|done|rfl|(simp only [List.length_drop,List.length_take];rfl)) ?_;(with_reducible refine (jsontext_Parse.calls a0 t102 t103 t104 _ ?side1 A7.out).mono ?_);(case side1 => first|exact HGU8.out|exact GlobU8.below HGU8.out (by repeat (first|(with_reducible first|exact HB.out|apply below_alloc|apply pw_below_drewN|apply below_drew1)|exact HB.out))|exact GlobU8.drawn HGU8.out (by repeat (first|exact Drawn0.refl _|apply Drawn0.step)));rintro e w13 ⟨v105,rfl,ho0,hb⟩;refine ⟨_,rfl,?_⟩;have n0_:=Aside0.mk (Kd.R_lower ho0 (below_size (by repeat (first|(with_reducible first|exact HB.out|apply below_alloc|apply pw_below_drewN|apply below_drew1)|exact HB.out))));have n1_:=Aside0.mk (below_step (by repeat (first|(with_reducible first|exact HB.out|apply below_alloc|apply pw_below_drewN|apply below_drew1)|exact HB.out)) hb);clear HB;have HO106:=n0_;have HB:=n1_;clear n0_ n1_;(try clear hb);(try clear hb2);(try clear hk);(try clear hi);(try clear ho0);obtain ⟨Ao14,co14,eo14⟩:=Kd.R_slice HO106.out;subst eo14;have p107 : 0 ≤ (0 : Int):=(by omega);have q107 : 0 < (t102.length : Int):=of_decide_eq_true (by first|(with_reducible assumption)|assumption);obtain ⟨ad107,e107,hx107_0,hx107_1,hx107_2,hx107_3,hx107_4⟩:=at_T24 (Kd.R_reads' HO106.out).2.2 0 p107 q107;cases e107;have qi107 : (0 < t102.length) = True:=eq_true (by omega);(try rw [show ((0 : Int)).toNat = 0 from rfl] at hx107_0);(try rw [show 0 * 5 = 0 from rfl] at hx107_0);(try rw [Addr.add_zero'] at hx107_0);(try rw [show ((0 : Int)).toNat = 0 from rfl] at hx107_1);(try rw [show 0 * 5 = 0 from rfl] at hx107_1);(try rw [Addr.add_zero'] at hx107_1);(try rw [show ((0 : Int)).toNat = 0 from rfl] at hx107_2);(try rw [show 0 * 5 = 0 from rfl] at hx107_2);(try rw [Addr.add_zero'] at hx107_2);(try rw [show ((0 : Int)).toNat = 0 from rfl] at hx107_3);(try rw [show 0 * 5 = 0 from rfl] at hx107_3);(try rw [Addr.add_zero'] at hx107_3);(try rw [show ((0 : Int)).toNat = 0 from rfl] at hx107_4);(try rw [show 0 * 5 = 0 from rfl] at hx107_4);(try rw [Addr.add_zero'] at hx107_4);replace p107:=eq_true p107;replace q107:=eq_true q107))
       go_ret
       exact ⟨by first|rfl|(simp [errW_none,errW_some] <;> rfl)|(simp [*,errW_none,errW_some] <;> rfl),by repeat (first|(with_reducible first|exact HB.out|apply below_alloc|apply pw_below_drewN|apply below_drew1)|exact HB.out)⟩
     ·rw [if_neg c9] at H
      exact absurd H (by simp)
    ·rw [if_neg c8] at H
     have c8b0 : (t104 == 0) = false:=beq_eq_false_iff_ne.mpr c8
     have c8b1 : (t104 != 0) = true:=bne_iff_ne.mpr c8
     obtain rfl:=Option.some.inj H
     have p4 : 0 ≤ (0 : Int):=(by omega)
     have q4 : 0 < a0.size:=(by have : (0 : Int) < (a0.size : Int):=of_decide_eq_true (by first|(with_reducible assumption)|assumption);omega)
     have hx4 : ∀ h : 0 < a0.size,((a0[0]'h).toNat : Int) = bt a0 0:=bt_at a0 0
     clear p4
     have qi4 : (0 < (a0.size : Int)) = True:=eq_true (of_decide_eq_true (by first|(with_reducible assumption)|assumption))
     replace q4:=eq_true q4
     go_enter Tryd.func58,Tryd.ntmps58
     go_wp2_with (first|(go_at_call 63;(with_reducible refine (strings_IndexByte.calls (⟨#[45,48,49,50,51,52,53,54,55,56,57]⟩ : ByteArray) (bt a0 0) t101 _ A5.out).mono ?_);rintro e w' ⟨rfl,⟨nd,rfl⟩⟩)|((with_reducible refine gate_callee (f:=65) rfl ?_);refine goesL_ (some 16) rfl rfl Tryd.func65 (by kernel_rfl) rfl #[.string a0] rfl (by (try simp only [List.map_toArray,List.map_cons,List.map_nil]);first|done|rfl|(simp only [List.length_drop,List.length_take];rfl)) ?_;(with_reducible refine (jsontext_Parse.calls a0 t102 t103 t104 _ ?side1 A7.out).mono ?_);(case side1 => first|exact HGU8.out|exact GlobU8.below HGU8.out (by repeat (first|(with_reducible first|exact HB.out|apply below_alloc|apply pw_below_drewN|apply below_drew1)|exact HB.out))|exact GlobU8.drawn HGU8.out (by repeat (first|exact Drawn0.refl _|apply Drawn0.step)));rintro e w15 ⟨v105,rfl,ho0,hb⟩;refine ⟨_,rfl,?_⟩;have n0_:=Aside0.mk (Kd.R_lower ho0 (below_size (by repeat (first|(with_reducible first|exact HB.out|apply below_alloc|apply pw_below_drewN|apply below_drew1)|exact HB.out))));have n1_:=Aside0.mk (below_step (by repeat (first|(with_reducible first|exact HB.out|apply below_alloc|apply pw_below_drewN|apply below_drew1)|exact HB.out)) hb);clear HB;have HO106:=n0_;have HB:=n1_;clear n0_ n1_;(try clear hb);(try clear hb2);(try clear hk);(try clear hi);(try clear ho0)))
     go_ret
     exact ⟨by first|rfl|(simp [errW_none,errW_some] <;> rfl)|(simp [*,errW_none,errW_some] <;> rfl),by repeat (first|(with_reducible first|exact HB.out|apply below_alloc|apply pw_below_drewN|apply below_drew1)|exact HB.out)⟩
  ·rw [if_neg c3] at H
   exact absurd H (by simp)
end Go.Proofs.YtjehflambbjoaaaDoor.X
namespace Go.Proofs.YtjehflambbjoaaaDoor.X
open Go.RowKit Go.Proofs.YtjehflambbjoaaaDoorW.PrintWords Go.Proofs.YtjehflambbjoaaaDoorW.PrintLast Go.Proofs.YtjehflambbjoaaaDoorW.PrintMore
attribute [local go_sem] max2_int min2_int max_two min_two max_three min_three max_four min_four
set_option linter.unusedVariables false
set_option linter.unusedSimpArgs false
mutual
def jsontext_wrong.j0 : Nat → Bool → Bool → Int → Int → Int → ByteArray → ByteArray → Option (Bool)
 | 0,_,_,_,_,_,_,_ => none
 | k + 1,x1,x7,x110000,x110001,x110002,x110003,x110004 => if x7 = true then (some true) else (if x110002 > 0 then (jsontext_wrong.j1 k x1 (decide (x110000 < 6)) x110000 x110001 x110002 x110003 x110004) else (jsontext_wrong.j1 k x1 false x110000 x110001 x110002 x110003 x110004))
def jsontext_wrong.j1 : Nat → Bool → Bool → Int → Int → Int → ByteArray → ByteArray → Option (Bool)
 | 0,_,_,_,_,_,_,_ => none
 | k + 1,x1,x30,x110000,x110001,x110002,x110003,x110004 => if x30 = true then (jsontext_wrong.j2 k x30 x110000 x110001 x110002 x110003 x110004) else (if x110003.toList = ([] : List UInt8) then ((utf8_ValidString.f x110003).bind fun t110 => (jsontext_wrong.j2 k (!t110) x110000 x110001 x110002 x110003 x110004)) else (if x1 = true then ((utf8_ValidString.f x110003).bind fun t111 => (jsontext_wrong.j2 k (!t111) x110000 x110001 x110002 x110003 x110004)) else (jsontext_wrong.j2 k (!x1) x110000 x110001 x110002 x110003 x110004)))
def jsontext_wrong.j2 : Nat → Bool → Int → Int → Int → ByteArray → ByteArray → Option (Bool)
 | 0,_,_,_,_,_,_ => none
 | k + 1,x30,x110000,x110001,x110002,x110003,x110004 => if x30 = true then (some true) else (if x110000 = 4 then (if (x110004.size : Int) > 65536 then (some true) else ((jsontext_number.f x110004).bind fun t112 => (some (!t112)))) else (if x110000 = 5 then ((utf8_ValidString.f x110004).bind fun t113 => (some (!t113))) else (some (x110004.toList != ([] : List UInt8)))))
end
def jsontext_wrong.f (k : Nat) (a0_0 : Int) (a0_1 : Int) (a0_2 : Int) (a0_3 : ByteArray) (a0_4 : ByteArray) (a1 : Bool) (a2 : Int) : Option (Bool):=if a0_0 < 1 then (jsontext_wrong.j0 k a1 true a0_0 a0_1 a0_2 a0_3 a0_4) else (if a0_0 > 7 then (jsontext_wrong.j0 k a1 true a0_0 a0_1 a0_2 a0_3 a0_4) else (if a0_1 < 1 then (jsontext_wrong.j0 k a1 true a0_0 a0_1 a0_2 a0_3 a0_4) else (if a0_2 < 0 then (jsontext_wrong.j0 k a1 true a0_0 a0_1 a0_2 a0_3 a0_4) else (jsontext_wrong.j0 k a1 (decide (a2 ≥ 32)) a0_0 a0_1 a0_2 a0_3 a0_4))))
theorem jsontext_wrong.mono_l : ∀ k,(∀ y0 y1 y2 y3 y4 y5 y6,LeO (jsontext_wrong.j0 k y0 y1 y2 y3 y4 y5 y6) (jsontext_wrong.j0 (k + 1) y0 y1 y2 y3 y4 y5 y6)) ∧ (∀ y0 y1 y2 y3 y4 y5 y6,LeO (jsontext_wrong.j1 k y0 y1 y2 y3 y4 y5 y6) (jsontext_wrong.j1 (k + 1) y0 y1 y2 y3 y4 y5 y6)) ∧ (∀ y0 y1 y2 y3 y4 y5,LeO (jsontext_wrong.j2 k y0 y1 y2 y3 y4 y5) (jsontext_wrong.j2 (k + 1) y0 y1 y2 y3 y4 y5))
 | 0 => ⟨fun _ _ _ _ _ _ _ r h => by simp [jsontext_wrong.j0] at h,fun _ _ _ _ _ _ _ r h => by simp [jsontext_wrong.j1] at h,fun _ _ _ _ _ _ r h => by simp [jsontext_wrong.j2] at h⟩
 | k + 1 => by
  obtain ⟨ih0,ih1,ih2⟩:=jsontext_wrong.mono_l k
  refine ⟨?_,?_,?_⟩
  ·intro y0 y1 y2 y3 y4 y5 y6
   unfold jsontext_wrong.j0
   repeat' first
   | (with_reducible exact ih0 _ _ _ _ _ _ _)
   | (with_reducible exact ih1 _ _ _ _ _ _ _)
   | (with_reducible exact ih2 _ _ _ _ _ _)
   | (with_reducible exact LeO.refl _)
   | (with_reducible exact LeO.none _)
   | (with_reducible refine LeO.ite ?_ ?_)
   | (with_reducible refine LeO.bind ?_ (fun _ => ?_))
   | exact ih0 _ _ _ _ _ _ _
   | exact ih1 _ _ _ _ _ _ _
   | exact ih2 _ _ _ _ _ _
   | exact LeO.none _
   | refine LeO.ite ?_ ?_
   | refine LeO.bind ?_ (fun _ => ?_)
  ·intro y0 y1 y2 y3 y4 y5 y6
   unfold jsontext_wrong.j1
   repeat' first
   | (with_reducible exact ih0 _ _ _ _ _ _ _)
   | (with_reducible exact ih1 _ _ _ _ _ _ _)
   | (with_reducible exact ih2 _ _ _ _ _ _)
   | (with_reducible exact LeO.refl _)
   | (with_reducible exact LeO.none _)
   | (with_reducible refine LeO.ite ?_ ?_)
   | (with_reducible refine LeO.bind ?_ (fun _ => ?_))
   | exact ih0 _ _ _ _ _ _ _
   | exact ih1 _ _ _ _ _ _ _
   | exact ih2 _ _ _ _ _ _
   | exact LeO.none _
   | refine LeO.ite ?_ ?_
   | refine LeO.bind ?_ (fun _ => ?_)
  ·intro y0 y1 y2 y3 y4 y5
   unfold jsontext_wrong.j2
   repeat' first
   | (with_reducible exact ih0 _ _ _ _ _ _ _)
   | (with_reducible exact ih1 _ _ _ _ _ _ _)
   | (with_reducible exact ih2 _ _ _ _ _ _)
   | (with_reducible exact LeO.refl _)
   | (with_reducible exact LeO.none _)
   | (with_reducible refine LeO.ite ?_ ?_)
   | (with_reducible refine LeO.bind ?_ (fun _ => ?_))
   | exact ih0 _ _ _ _ _ _ _
   | exact ih1 _ _ _ _ _ _ _
   | exact ih2 _ _ _ _ _ _
   | exact LeO.none _
   | refine LeO.ite ?_ ?_
   | refine LeO.bind ?_ (fun _ => ?_)
theorem jsontext_wrong.mono : ∀ a0 a1 a2 a3 a4 a5 a6 k,LeO (jsontext_wrong.f k a0 a1 a2 a3 a4 a5 a6) (jsontext_wrong.f (k + 1) a0 a1 a2 a3 a4 a5 a6):=by
 intro a0 a1 a2 a3 a4 a5 a6 k
 obtain ⟨ih0,ih1,ih2⟩:=jsontext_wrong.mono_l k
 unfold jsontext_wrong.f
 repeat' first
   | (with_reducible exact ih0 _ _ _ _ _ _ _)
   | (with_reducible exact ih1 _ _ _ _ _ _ _)
   | (with_reducible exact ih2 _ _ _ _ _ _)
   | (with_reducible exact LeO.refl _)
   | (with_reducible exact LeO.none _)
   | (with_reducible refine LeO.ite ?_ ?_)
   | (with_reducible refine LeO.bind ?_ (fun _ => ?_))
   | exact ih0 _ _ _ _ _ _ _
   | exact ih1 _ _ _ _ _ _ _
   | exact ih2 _ _ _ _ _ _
   | exact LeO.none _
   | refine LeO.ite ?_ ?_
   | refine LeO.bind ?_ (fun _ => ?_)
set_option maxHeartbeats 8000000 in
set_option maxRecDepth 100000 in
theorem jsontext_wrong.calls (k : Nat) (a0_0 : Int) (a0_1 : Int) (a0_2 : Int) (a0_3 : ByteArray) (a0_4 : ByteArray) (a1 : Bool) (a2 : Int) (r : Bool) (w : World) (hGU8 : GlobU8 w) (h : jsontext_wrong.f k a0_0 a0_1 a0_2 a0_3 a0_4 a1 a2 = some r) :
  Calls Tryd.prog 47 #[.agg #[.int .i64 a0_0,.int .i64 a0_1,.int .i64 a0_2,.string a0_3,.string a0_4],.bool a1,.int .i64 a2] w fun e w' => e = .returned (.bool r) ∧ Below w.heap.size w w':=by
 have hu24:=Tryd.underlying24
 have HGU8:=Aside0.mk hGU8
 clear hGU8
 have HB:=Aside0.mk (Below.refl w.heap.size w)
 have H : (if a0_0 < 1 then (jsontext_wrong.j0 k a1 true a0_0 a0_1 a0_2 a0_3 a0_4) else (if a0_0 > 7 then (jsontext_wrong.j0 k a1 true a0_0 a0_1 a0_2 a0_3 a0_4) else (if a0_1 < 1 then (jsontext_wrong.j0 k a1 true a0_0 a0_1 a0_2 a0_3 a0_4) else (if a0_2 < 0 then (jsontext_wrong.j0 k a1 true a0_0 a0_1 a0_2 a0_3 a0_4) else (jsontext_wrong.j0 k a1 (decide (a2 ≥ 32)) a0_0 a0_1 a0_2 a0_3 a0_4))))) = some r:=h
 clear h
 have HC4:=Aside0.mk H
 clear H
 go_enter Tryd.func47,Tryd.ntmps47
 go_upto_region 1 with (first|((with_reducible refine gate_dst (N:=3) rfl ?_);refine box_event ?hg (N:=3) ?hd (cs:=#[.int .i64 a0_0,.int .i64 a0_1,.int .i64 a0_2,.string a0_3,.string a0_4]) (t:=24) ?hr ?_;(case hd => rfl);(case hg => rfl);(case hr => first|(go_simp;done)|(go_simp;rfl));intro gb109 hg w5 hbox hb;have n0_:=Aside0.mk (below_step (by repeat (first|(with_reducible first|exact HB.out|apply below_alloc|apply pw_below_drewN|apply below_drew1)|exact HB.out)) hb);have n1_:=Aside0.mk (hbox);have n2_:=Aside0.mk ((by rw [hg];exact (below_size (by repeat (first|(with_reducible first|exact HB.out|apply below_alloc|apply pw_below_drewN|apply below_drew1)|exact HB.out))) : w.heap.size ≤ gb109));have n3_:=Aside0.mk ((by rw [hg];exact (below_size (by repeat (first|(with_reducible first|exact HB.out|apply below_alloc|apply pw_below_drewN|apply below_drew1)|exact HB.out))) : w.heap.size ≤ gb109));clear HB;have HB:=n0_;have BK109:=n1_;have GW109:=n2_;have GE109:=n3_;clear n0_ n1_ n2_ n3_;clear hb hbox hg))
 (try simp only [Act.put,List.setIfInBounds_toArray,List.set_cons_zero,List.set_cons_succ])
 go_cut [7] (fun v7 wc => ∃ (kq : Nat) (x7_3 : Bool),v7 = .bool x7_3 ∧ Aside0 (jsontext_wrong.j0 kq a1 x7_3 a0_0 a0_1 a0_2 a0_3 a0_4 = some r) ∧ Aside0 (kq ≤ k) ∧ Aside0 (wc.heap[gb109]? = some (.cells #[.int .i64 a0_0,.int .i64 a0_1,.int .i64 a0_2,.string a0_3,.string a0_4] 24 (0,0))) ∧ Aside0 (Below w.heap.size w wc))
 case first =>
  have H:=HC4.out
  clear HC4
  by_cases c6 : a0_0 < 1
  ·rw [if_pos c6] at H
   have c6b0 : decide (a0_0 < 1) = true:=decide_eq_true c6
   clear c6
   (first|rw [c6b0]|(simp only [i64_w,i32_w];rw [c6b0])|skip)
   have H':=Aside0.mk H
   clear H
   have hcz7_0 : w5.cell? ⟨gb109,0,none⟩ = some (.int .i64 a0_0):=(blk_cell BK109.out 0).trans rfl
   have hcz7_1 : w5.cell? ⟨gb109,1,none⟩ = some (.int .i64 a0_1):=(blk_cell BK109.out 1).trans rfl
   have hcz7_2 : w5.cell? ⟨gb109,2,none⟩ = some (.int .i64 a0_2):=(blk_cell BK109.out 2).trans rfl
   have hcz7_3 : w5.cell? ⟨gb109,3,none⟩ = some (.string a0_3):=(blk_cell BK109.out 3).trans rfl
   have hcz7_4 : w5.cell? ⟨gb109,4,none⟩ = some (.string a0_4):=(blk_cell BK109.out 4).trans rfl
   have hfz7_0:=blk_frozen BK109.out 0
   have hfz7_1:=blk_frozen BK109.out 1
   have hfz7_2:=blk_frozen BK109.out 2
   have hfz7_3:=blk_frozen BK109.out 3
   have hfz7_4:=blk_frozen BK109.out 4
   go_wp2
   go_meet
   case rel => exact ⟨_,(true),(by first|rfl|(simp;done)|(simp;decide +kernel)|(simp [*];done)),(by first|exact H'|(subst_vars;exact H')),⟨by first|omega|exact Nat.le_refl _⟩,⟨by (with_reducible repeat (first|refine blk_drewN ?_ _|refine blk_drew ?_|refine blk_alloc ?_ _));exact BK109.out⟩,⟨by repeat (first|(with_reducible first|exact HB.out|apply below_alloc|apply pw_below_drewN|apply below_drew1|refine below_set ?_ GE109.out)|exact HB.out)⟩⟩
  ·rw [if_neg c6] at H
   have c6b0 : decide (a0_0 < 1) = false:=decide_eq_false c6
   clear c6
   (first|rw [c6b0]|(simp only [i64_w,i32_w];rw [c6b0])|skip)
   by_cases c8 : a0_0 > 7
   ·rw [if_pos c8] at H
    have c8b0 : decide (7 < a0_0) = true:=decide_eq_true c8
    clear c8
    have H':=Aside0.mk H
    clear H
    have hcz9_0 : w5.cell? ⟨gb109,0,none⟩ = some (.int .i64 a0_0):=(blk_cell BK109.out 0).trans rfl
    have hcz9_1 : w5.cell? ⟨gb109,1,none⟩ = some (.int .i64 a0_1):=(blk_cell BK109.out 1).trans rfl
    have hcz9_2 : w5.cell? ⟨gb109,2,none⟩ = some (.int .i64 a0_2):=(blk_cell BK109.out 2).trans rfl
    have hcz9_3 : w5.cell? ⟨gb109,3,none⟩ = some (.string a0_3):=(blk_cell BK109.out 3).trans rfl
    have hcz9_4 : w5.cell? ⟨gb109,4,none⟩ = some (.string a0_4):=(blk_cell BK109.out 4).trans rfl
    have hfz9_0:=blk_frozen BK109.out 0
    have hfz9_1:=blk_frozen BK109.out 1
    have hfz9_2:=blk_frozen BK109.out 2
    have hfz9_3:=blk_frozen BK109.out 3
    have hfz9_4:=blk_frozen BK109.out 4
    go_wp2
    go_meet
    case rel => exact ⟨_,(true),(by first|rfl|(simp;done)|(simp;decide +kernel)|(simp [*];done)),(by first|exact H'|(subst_vars;exact H')),⟨by first|omega|exact Nat.le_refl _⟩,⟨by (with_reducible repeat (first|refine blk_drewN ?_ _|refine blk_drew ?_|refine blk_alloc ?_ _));exact BK109.out⟩,⟨by repeat (first|(with_reducible first|exact HB.out|apply below_alloc|apply pw_below_drewN|apply below_drew1|refine below_set ?_ GE109.out)|exact HB.out)⟩⟩
   ·rw [if_neg c8] at H
    have c8b0 : decide (7 < a0_0) = false:=decide_eq_false c8
    clear c8
    by_cases c10 : a0_1 < 1
    ·rw [if_pos c10] at H
     have c10b0 : decide (a0_1 < 1) = true:=decide_eq_true c10
     clear c10
     have H':=Aside0.mk H
     clear H
     have hcz11_0 : w5.cell? ⟨gb109,0,none⟩ = some (.int .i64 a0_0):=(blk_cell BK109.out 0).trans rfl
     have hcz11_1 : w5.cell? ⟨gb109,1,none⟩ = some (.int .i64 a0_1):=(blk_cell BK109.out 1).trans rfl
     have hcz11_2 : w5.cell? ⟨gb109,2,none⟩ = some (.int .i64 a0_2):=(blk_cell BK109.out 2).trans rfl
     have hcz11_3 : w5.cell? ⟨gb109,3,none⟩ = some (.string a0_3):=(blk_cell BK109.out 3).trans rfl
     have hcz11_4 : w5.cell? ⟨gb109,4,none⟩ = some (.string a0_4):=(blk_cell BK109.out 4).trans rfl
     have hfz11_0:=blk_frozen BK109.out 0
     have hfz11_1:=blk_frozen BK109.out 1
     have hfz11_2:=blk_frozen BK109.out 2
     have hfz11_3:=blk_frozen BK109.out 3
     have hfz11_4:=blk_frozen BK109.out 4
     go_wp2
     go_meet
     case rel => exact ⟨_,(true),(by first|rfl|(simp;done)|(simp;decide +kernel)|(simp [*];done)),(by first|exact H'|(subst_vars;exact H')),⟨by first|omega|exact Nat.le_refl _⟩,⟨by (with_reducible repeat (first|refine blk_drewN ?_ _|refine blk_drew ?_|refine blk_alloc ?_ _));exact BK109.out⟩,⟨by repeat (first|(with_reducible first|exact HB.out|apply below_alloc|apply pw_below_drewN|apply below_drew1|refine below_set ?_ GE109.out)|exact HB.out)⟩⟩
    ·rw [if_neg c10] at H
     have c10b0 : decide (a0_1 < 1) = false:=decide_eq_false c10
     clear c10
     by_cases c12 : a0_2 < 0
     ·rw [if_pos c12] at H
      have c12b0 : decide (a0_2 < 0) = true:=decide_eq_true c12
      clear c12
      have H':=Aside0.mk H
      clear H
      have hcz13_0 : w5.cell? ⟨gb109,0,none⟩ = some (.int .i64 a0_0):=(blk_cell BK109.out 0).trans rfl
      have hcz13_1 : w5.cell? ⟨gb109,1,none⟩ = some (.int .i64 a0_1):=(blk_cell BK109.out 1).trans rfl
      have hcz13_2 : w5.cell? ⟨gb109,2,none⟩ = some (.int .i64 a0_2):=(blk_cell BK109.out 2).trans rfl
      have hcz13_3 : w5.cell? ⟨gb109,3,none⟩ = some (.string a0_3):=(blk_cell BK109.out 3).trans rfl
      have hcz13_4 : w5.cell? ⟨gb109,4,none⟩ = some (.string a0_4):=(blk_cell BK109.out 4).trans rfl
      have hfz13_0:=blk_frozen BK109.out 0
      have hfz13_1:=blk_frozen BK109.out 1
      have hfz13_2:=blk_frozen BK109.out 2
      have hfz13_3:=blk_frozen BK109.out 3
      have hfz13_4:=blk_frozen BK109.out 4
      go_wp2
      go_meet
      case rel => exact ⟨_,(true),(by first|rfl|(simp;done)|(simp;decide +kernel)|(simp [*];done)),(by first|exact H'|(subst_vars;exact H')),⟨by first|omega|exact Nat.le_refl _⟩,⟨by (with_reducible repeat (first|refine blk_drewN ?_ _|refine blk_drew ?_|refine blk_alloc ?_ _));exact BK109.out⟩,⟨by repeat (first|(with_reducible first|exact HB.out|apply below_alloc|apply pw_below_drewN|apply below_drew1|refine below_set ?_ GE109.out)|exact HB.out)⟩⟩
     ·rw [if_neg c12] at H
      have c12b0 : decide (a0_2 < 0) = false:=decide_eq_false c12
      clear c12
      have H':=Aside0.mk H
      clear H
      have hcz14_0 : w5.cell? ⟨gb109,0,none⟩ = some (.int .i64 a0_0):=(blk_cell BK109.out 0).trans rfl
      have hcz14_1 : w5.cell? ⟨gb109,1,none⟩ = some (.int .i64 a0_1):=(blk_cell BK109.out 1).trans rfl
      have hcz14_2 : w5.cell? ⟨gb109,2,none⟩ = some (.int .i64 a0_2):=(blk_cell BK109.out 2).trans rfl
      have hcz14_3 : w5.cell? ⟨gb109,3,none⟩ = some (.string a0_3):=(blk_cell BK109.out 3).trans rfl
      have hcz14_4 : w5.cell? ⟨gb109,4,none⟩ = some (.string a0_4):=(blk_cell BK109.out 4).trans rfl
      have hfz14_0:=blk_frozen BK109.out 0
      have hfz14_1:=blk_frozen BK109.out 1
      have hfz14_2:=blk_frozen BK109.out 2
      have hfz14_3:=blk_frozen BK109.out 3
      have hfz14_4:=blk_frozen BK109.out 4
      go_wp2
      go_meet
      case rel => exact ⟨_,(decide (a2 ≥ 32)),(by first|rfl|(simp;done)|(simp;decide +kernel)|(simp [*];done)),(by first|exact H'|(subst_vars;exact H')),⟨by first|omega|exact Nat.le_refl _⟩,⟨by (with_reducible repeat (first|refine blk_drewN ?_ _|refine blk_drew ?_|refine blk_alloc ?_ _));exact BK109.out⟩,⟨by repeat (first|(with_reducible first|exact HB.out|apply below_alloc|apply pw_below_drewN|apply below_drew1|refine below_set ?_ GE109.out)|exact HB.out)⟩⟩
 case rest =>
  clear HC4
  try clear c1
  try clear p2
  try clear c4
  try clear c6
  try clear c6b0
  try clear c8
  try clear c8b0
  try clear c10
  try clear c10b0
  try clear c12
  try clear c12b0
  try clear hcz11_0
  try clear hcz11_1
  try clear hcz11_2
  try clear hcz11_3
  try clear hcz11_4
  try clear hcz13_0
  try clear hcz13_1
  try clear hcz13_2
  try clear hcz13_3
  try clear hcz13_4
  try clear hcz14_0
  try clear hcz14_1
  try clear hcz14_2
  try clear hcz14_3
  try clear hcz14_4
  try clear hcz7_0
  try clear hcz7_1
  try clear hcz7_2
  try clear hcz7_3
  try clear hcz7_4
  try clear hcz9_0
  try clear hcz9_1
  try clear hcz9_2
  try clear hcz9_3
  try clear hcz9_4
  try clear hfz11_0
  try clear hfz11_1
  try clear hfz11_2
  try clear hfz11_3
  try clear hfz11_4
  try clear hfz13_0
  try clear hfz13_1
  try clear hfz13_2
  try clear hfz13_3
  try clear hfz13_4
  try clear hfz14_0
  try clear hfz14_1
  try clear hfz14_2
  try clear hfz14_3
  try clear hfz14_4
  try clear hfz7_0
  try clear hfz7_1
  try clear hfz7_2
  try clear hfz7_3
  try clear hfz7_4
  try clear hfz9_0
  try clear hfz9_1
  try clear hfz9_2
  try clear hfz9_3
  try clear hfz9_4
  obtain ⟨kq,x7_3,rfl,HA,HJ3,BK109,HB⟩:=hcut
  cases kq with
  | zero => exact absurd HA.out (by simp [jsontext_wrong.j0])
  | succ kj3 =>
   have H:=HA.out
   clear HA
   simp only [jsontext_wrong.j0] at H
   by_cases c15 : x7_3 = true
   ·subst c15
    have H1 : (some true) = some r:=by rw [if_pos rfl] at H;exact H
    clear H
    have H:=H1
    clear H1
    obtain rfl:=Option.some.inj H
    go_wp2
    go_ret
    exact ⟨by first|rfl|(simp [errW_none,errW_some] <;> rfl)|(simp [*,errW_none,errW_some] <;> rfl)|(simp [errW_none,errW_some,show ∀ l : List UInt8,(l != []) = !l.isEmpty from fun l => by cases l <;> rfl]),by repeat (first|(with_reducible first|exact HB.out|apply below_alloc|apply pw_below_drewN|apply below_drew1|refine below_set ?_ GE109.out)|exact HB.out)⟩
   ·replace c15:=Bool.eq_false_iff.mpr c15
    subst c15
    have H1 : (if a0_2 > 0 then (jsontext_wrong.j1 kj3 a1 (decide (a0_0 < 6)) a0_0 a0_1 a0_2 a0_3 a0_4) else (jsontext_wrong.j1 kj3 a1 false a0_0 a0_1 a0_2 a0_3 a0_4)) = some r:=by rw [if_neg (show ¬ (false = true) by decide)] at H;exact H
    clear H
    have H:=H1
    clear H1
    have HC16:=Aside0.mk H
    clear H
    go_upto_region 3 with (fail)
    go_cut [30] (fun v30 wc => ∃ (kq : Nat) (x30_15 : Bool),v30 = .bool x30_15 ∧ Aside0 (jsontext_wrong.j1 kq a1 x30_15 a0_0 a0_1 a0_2 a0_3 a0_4 = some r) ∧ Aside0 (kq ≤ kj3) ∧ Aside0 (wc.heap[gb109]? = some (.cells #[.int .i64 a0_0,.int .i64 a0_1,.int .i64 a0_2,.string a0_3,.string a0_4] 24 (0,0))) ∧ Aside0 (Below w.heap.size w wc))
    case first =>
     have H:=HC16.out
     clear HC16
     by_cases c17 : a0_2 > 0
     ·rw [if_pos c17] at H
      have c17b0 : decide (0 < a0_2) = true:=decide_eq_true c17
      clear c17
      (first|rw [c17b0]|(simp only [i64_w,i32_w];rw [c17b0])|skip)
      have H':=Aside0.mk H
      clear H
      have hcz18_0 : wc.cell? ⟨gb109,0,none⟩ = some (.int .i64 a0_0):=(blk_cell BK109.out 0).trans rfl
      have hcz18_1 : wc.cell? ⟨gb109,1,none⟩ = some (.int .i64 a0_1):=(blk_cell BK109.out 1).trans rfl
      have hcz18_2 : wc.cell? ⟨gb109,2,none⟩ = some (.int .i64 a0_2):=(blk_cell BK109.out 2).trans rfl
      have hcz18_3 : wc.cell? ⟨gb109,3,none⟩ = some (.string a0_3):=(blk_cell BK109.out 3).trans rfl
      have hcz18_4 : wc.cell? ⟨gb109,4,none⟩ = some (.string a0_4):=(blk_cell BK109.out 4).trans rfl
      have hfz18_0:=blk_frozen BK109.out 0
      have hfz18_1:=blk_frozen BK109.out 1
      have hfz18_2:=blk_frozen BK109.out 2
      have hfz18_3:=blk_frozen BK109.out 3
      have hfz18_4:=blk_frozen BK109.out 4
      go_wp2
      go_meet
      case rel => exact ⟨_,(decide (a0_0 < 6)),(by first|rfl|(simp;done)|(simp;decide +kernel)|(simp [*];done)),(by first|exact H'|(subst_vars;exact H')),⟨by have:=HJ3.out;first|omega|exact Nat.le_refl _⟩,⟨by (with_reducible repeat (first|refine blk_drewN ?_ _|refine blk_drew ?_|refine blk_alloc ?_ _));exact BK109.out⟩,⟨by repeat (first|(with_reducible first|exact HB.out|apply below_alloc|apply pw_below_drewN|apply below_drew1|refine below_set ?_ GE109.out)|exact HB.out)⟩⟩
     ·rw [if_neg c17] at H
      have c17b0 : decide (0 < a0_2) = false:=decide_eq_false c17
      clear c17
      (first|rw [c17b0]|(simp only [i64_w,i32_w];rw [c17b0])|skip)
      have H':=Aside0.mk H
      clear H
      have hcz19_0 : wc.cell? ⟨gb109,0,none⟩ = some (.int .i64 a0_0):=(blk_cell BK109.out 0).trans rfl
      have hcz19_1 : wc.cell? ⟨gb109,1,none⟩ = some (.int .i64 a0_1):=(blk_cell BK109.out 1).trans rfl
      have hcz19_2 : wc.cell? ⟨gb109,2,none⟩ = some (.int .i64 a0_2):=(blk_cell BK109.out 2).trans rfl
      have hcz19_3 : wc.cell? ⟨gb109,3,none⟩ = some (.string a0_3):=(blk_cell BK109.out 3).trans rfl
      have hcz19_4 : wc.cell? ⟨gb109,4,none⟩ = some (.string a0_4):=(blk_cell BK109.out 4).trans rfl
      have hfz19_0:=blk_frozen BK109.out 0
      have hfz19_1:=blk_frozen BK109.out 1
      have hfz19_2:=blk_frozen BK109.out 2
      have hfz19_3:=blk_frozen BK109.out 3
      have hfz19_4:=blk_frozen BK109.out 4
      go_wp2
      go_meet
      case rel => exact ⟨_,(false),(by first|rfl|(simp;done)|(simp;decide +kernel)|(simp [*];done)),(by first|exact H'|(subst_vars;exact H')),⟨by have:=HJ3.out;first|omega|exact Nat.le_refl _⟩,⟨by (with_reducible repeat (first|refine blk_drewN ?_ _|refine blk_drew ?_|refine blk_alloc ?_ _));exact BK109.out⟩,⟨by repeat (first|(with_reducible first|exact HB.out|apply below_alloc|apply pw_below_drewN|apply below_drew1|refine below_set ?_ GE109.out)|exact HB.out)⟩⟩
    case rest =>
     clear HC16
     try clear c1
     try clear p2
     try clear c4
     try clear c6
     try clear c6b0
     try clear c8
     try clear c8b0
     try clear c10
     try clear c10b0
     try clear c12
     try clear c12b0
     try clear c15
     try clear c17
     try clear c17b0
     try clear hcz11_0
     try clear hcz11_1
     try clear hcz11_2
     try clear hcz11_3
     try clear hcz11_4
     try clear hcz13_0
     try clear hcz13_1
     try clear hcz13_2
     try clear hcz13_3
     try clear hcz13_4
     try clear hcz14_0
     try clear hcz14_1
     try clear hcz14_2
     try clear hcz14_3
     try clear hcz14_4
     try clear hcz18_0
     try clear hcz18_1
     try clear hcz18_2
     try clear hcz18_3
     try clear hcz18_4
     try clear hcz19_0
     try clear hcz19_1
     try clear hcz19_2
     try clear hcz19_3
     try clear hcz19_4
     try clear hcz7_0
     try clear hcz7_1
     try clear hcz7_2
     try clear hcz7_3
     try clear hcz7_4
     try clear hcz9_0
     try clear hcz9_1
     try clear hcz9_2
     try clear hcz9_3
     try clear hcz9_4
     try clear hfz11_0
     try clear hfz11_1
     try clear hfz11_2
     try clear hfz11_3
     try clear hfz11_4
     try clear hfz13_0
     try clear hfz13_1
     try clear hfz13_2
     try clear hfz13_3
     try clear hfz13_4
     try clear hfz14_0
     try clear hfz14_1
     try clear hfz14_2
     try clear hfz14_3
     try clear hfz14_4
     try clear hfz18_0
     try clear hfz18_1
     try clear hfz18_2
     try clear hfz18_3
     try clear hfz18_4
     try clear hfz19_0
     try clear hfz19_1
     try clear hfz19_2
     try clear hfz19_3
     try clear hfz19_4
     try clear hfz7_0
     try clear hfz7_1
     try clear hfz7_2
     try clear hfz7_3
     try clear hfz7_4
     try clear hfz9_0
     try clear hfz9_1
     try clear hfz9_2
     try clear hfz9_3
     try clear hfz9_4
     try clear p2
     obtain ⟨kq,x30_15,rfl,HA,HJ15,BK109,HB⟩:=hcut
     cases kq with
     | zero => exact absurd HA.out (by simp [jsontext_wrong.j1])
     | succ kj15 =>
      have H:=HA.out
      clear HA
      simp only [jsontext_wrong.j1] at H
      have HC20:=Aside0.mk H
      clear H
      go_upto_if 30 with (fail)
      go_cut [30] (fun v30 wc => ∃ (kq : Nat) (x30_19 : Bool),v30 = .bool x30_19 ∧ Aside0 (jsontext_wrong.j2 kq x30_19 a0_0 a0_1 a0_2 a0_3 a0_4 = some r) ∧ Aside0 (kq ≤ kj15) ∧ Aside0 (wc.heap[gb109]? = some (.cells #[.int .i64 a0_0,.int .i64 a0_1,.int .i64 a0_2,.string a0_3,.string a0_4] 24 (0,0))) ∧ Aside0 (Below w.heap.size w wc))
      case first =>
       have H:=HC20.out
       clear HC20
       by_cases c21 : x30_15 = true
       ·subst c21
        have H1 : (jsontext_wrong.j2 kj15 true a0_0 a0_1 a0_2 a0_3 a0_4) = some r:=by rw [if_pos rfl] at H;exact H
        clear H
        have H:=H1
        clear H1
        have H':=Aside0.mk H
        clear H
        go_wp2
        go_meet
        case rel => exact ⟨_,(true),(by first|rfl|(simp;done)|(simp;decide +kernel)|(simp [*];done)),(by first|exact H'|(subst_vars;exact H')),⟨by have:=HJ3.out;have:=HJ15.out;first|omega|exact Nat.le_refl _⟩,⟨by (with_reducible repeat (first|refine blk_drewN ?_ _|refine blk_drew ?_|refine blk_alloc ?_ _));exact BK109.out⟩,⟨by repeat (first|(with_reducible first|exact HB.out|apply below_alloc|apply pw_below_drewN|apply below_drew1|refine below_set ?_ GE109.out)|exact HB.out)⟩⟩
       ·replace c21:=Bool.eq_false_iff.mpr c21
        subst c21
        have H1 : (if a0_3.toList = ([] : List UInt8) then ((utf8_ValidString.f a0_3).bind fun t110 => (jsontext_wrong.j2 kj15 (!t110) a0_0 a0_1 a0_2 a0_3 a0_4)) else (if a1 = true then ((utf8_ValidString.f a0_3).bind fun t111 => (jsontext_wrong.j2 kj15 (!t111) a0_0 a0_1 a0_2 a0_3 a0_4)) else (jsontext_wrong.j2 kj15 (!a1) a0_0 a0_1 a0_2 a0_3 a0_4))) = some r:=by rw [if_neg (show ¬ (false = true) by decide)] at H;exact H
        clear H
        have H:=H1
        clear H1
        by_cases c22 : a0_3.toList = ([] : List UInt8)
        ·rw [if_pos c22] at H
         have c22b0 : (a0_3.toList == ([] : List UInt8)) = true:=beq_iff_eq.mpr c22
         have c22b1 : (a0_3.toList != ([] : List UInt8)) = false:=bne_eq_false_iff_eq.mpr c22
         clear c22
         (first|rw [c22b0]|(simp only [i64_w,i32_w];rw [c22b0])|skip)
         replace H:=Option.bind_eq_some_iff.mp H
         obtain ⟨t110,A230,H⟩:=H
         replace H : (jsontext_wrong.j2 kj15 (!t110) a0_0 a0_1 a0_2 a0_3 a0_4) = some r:=H
         have A23:=Aside0.mk A230
         clear A230
         have H':=Aside0.mk H
         clear H
         have hcz24_0 : wc.cell? ⟨gb109,0,none⟩ = some (.int .i64 a0_0):=(blk_cell BK109.out 0).trans rfl
         have hcz24_1 : wc.cell? ⟨gb109,1,none⟩ = some (.int .i64 a0_1):=(blk_cell BK109.out 1).trans rfl
         have hcz24_2 : wc.cell? ⟨gb109,2,none⟩ = some (.int .i64 a0_2):=(blk_cell BK109.out 2).trans rfl
         have hcz24_3 : wc.cell? ⟨gb109,3,none⟩ = some (.string a0_3):=(blk_cell BK109.out 3).trans rfl
         have hcz24_4 : wc.cell? ⟨gb109,4,none⟩ = some (.string a0_4):=(blk_cell BK109.out 4).trans rfl
         have hfz24_0:=blk_frozen BK109.out 0
         have hfz24_1:=blk_frozen BK109.out 1
         have hfz24_2:=blk_frozen BK109.out 2
         have hfz24_3:=blk_frozen BK109.out 3
         have hfz24_4:=blk_frozen BK109.out 4
         go_wp2_with (first|((with_reducible refine gate_callee (f:=29) rfl ?_);refine goesL_ (some 48) rfl rfl Tryd.func29 (by kernel_rfl) rfl #[.string a0_3] rfl (by (try simp only [List.map_toArray,List.map_cons,List.map_nil]);first|done|rfl|(simp only [List.length_drop,List.length_take];rfl)) ?_;(with_reducible refine (utf8_ValidString.calls a0_3 t110 _ ?side1 A23.out).mono ?_);(case side1 => first|exact HGU8.out|exact GlobU8.below HGU8.out (by repeat (first|(with_reducible first|exact HB.out|apply below_alloc|apply pw_below_drewN|apply below_drew1|refine below_set ?_ GE109.out)|exact HB.out))|exact GlobU8.drawn HGU8.out (by repeat (first|exact Drawn0.refl _|apply Drawn0.step)));rintro e w25 ⟨rfl,hb⟩;refine ⟨_,rfl,?_⟩;have n0_:=Aside0.mk (blk_below (g:=gb109) (o:=.cells #[.int .i64 a0_0,.int .i64 a0_1,.int .i64 a0_2,.string a0_3,.string a0_4] 24 (0,0)) (by (with_reducible repeat (first|refine blk_drewN ?_ _|refine blk_drew ?_|refine blk_alloc ?_ _));exact BK109.out) hb);have n1_:=Aside0.mk (below_step (by repeat (first|(with_reducible first|exact HB.out|apply below_alloc|apply pw_below_drewN|apply below_drew1|refine below_set ?_ GE109.out)|exact HB.out)) hb);clear BK109;clear HB;have BK109:=n0_;have HB:=n1_;clear n0_ n1_;(try clear hb);(try clear hb2);(try clear hk);(try clear hi)))
         go_meet
         case rel => exact ⟨_,(!t110),(by first|rfl|(simp;done)|(simp;decide +kernel)|(simp [*];done)),(by first|exact H'|(subst_vars;exact H')),⟨by have:=HJ3.out;have:=HJ15.out;first|omega|exact Nat.le_refl _⟩,⟨by (with_reducible repeat (first|refine blk_drewN ?_ _|refine blk_drew ?_|refine blk_alloc ?_ _));exact BK109.out⟩,⟨by repeat (first|(with_reducible first|exact HB.out|apply below_alloc|apply pw_below_drewN|apply below_drew1|refine below_set ?_ GE109.out)|exact HB.out)⟩⟩
        ·rw [if_neg c22] at H
         have c22b0 : (a0_3.toList == ([] : List UInt8)) = false:=beq_eq_false_iff_ne.mpr c22
         have c22b1 : (a0_3.toList != ([] : List UInt8)) = true:=bne_iff_ne.mpr c22
         (first|rw [c22b0]|(simp only [i64_w,i32_w];rw [c22b0])|skip)
         by_cases c26 : a1 = true
         ·subst c26
          have H1 : ((utf8_ValidString.f a0_3).bind fun t111 => (jsontext_wrong.j2 kj15 (!t111) a0_0 a0_1 a0_2 a0_3 a0_4)) = some r:=by rw [if_pos rfl] at H;exact H
          clear H
          have H:=H1
          clear H1
          replace H:=Option.bind_eq_some_iff.mp H
          obtain ⟨t111,A270,H⟩:=H
          replace H : (jsontext_wrong.j2 kj15 (!t111) a0_0 a0_1 a0_2 a0_3 a0_4) = some r:=H
          have A27:=Aside0.mk A270
          clear A270
          have H':=Aside0.mk H
          clear H
          have hcz28_0 : wc.cell? ⟨gb109,0,none⟩ = some (.int .i64 a0_0):=(blk_cell BK109.out 0).trans rfl
          have hcz28_1 : wc.cell? ⟨gb109,1,none⟩ = some (.int .i64 a0_1):=(blk_cell BK109.out 1).trans rfl
          have hcz28_2 : wc.cell? ⟨gb109,2,none⟩ = some (.int .i64 a0_2):=(blk_cell BK109.out 2).trans rfl
          have hcz28_3 : wc.cell? ⟨gb109,3,none⟩ = some (.string a0_3):=(blk_cell BK109.out 3).trans rfl
          have hcz28_4 : wc.cell? ⟨gb109,4,none⟩ = some (.string a0_4):=(blk_cell BK109.out 4).trans rfl
          have hfz28_0:=blk_frozen BK109.out 0
          have hfz28_1:=blk_frozen BK109.out 1
          have hfz28_2:=blk_frozen BK109.out 2
          have hfz28_3:=blk_frozen BK109.out 3
          have hfz28_4:=blk_frozen BK109.out 4
          go_wp2_with (first|((with_reducible refine gate_callee (f:=29) rfl ?_);refine goesL_ (some 48) rfl rfl Tryd.func29 (by kernel_rfl) rfl #[.string a0_3] rfl (by (try simp only [List.map_toArray,List.map_cons,List.map_nil]);first|done|rfl|(simp only [List.length_drop,List.length_take];rfl)) ?_;(with_reducible refine (utf8_ValidString.calls a0_3 t111 _ ?side1 A27.out).mono ?_);(case side1 => first|exact HGU8.out|exact GlobU8.below HGU8.out (by repeat (first|(with_reducible first|exact HB.out|apply below_alloc|apply pw_below_drewN|apply below_drew1|refine below_set ?_ GE109.out)|exact HB.out))|exact GlobU8.drawn HGU8.out (by repeat (first|exact Drawn0.refl _|apply Drawn0.step)));rintro e w29 ⟨rfl,hb⟩;refine ⟨_,rfl,?_⟩;have n0_:=Aside0.mk (blk_below (g:=gb109) (o:=.cells #[.int .i64 a0_0,.int .i64 a0_1,.int .i64 a0_2,.string a0_3,.string a0_4] 24 (0,0)) (by (with_reducible repeat (first|refine blk_drewN ?_ _|refine blk_drew ?_|refine blk_alloc ?_ _));exact BK109.out) hb);have n1_:=Aside0.mk (below_step (by repeat (first|(with_reducible first|exact HB.out|apply below_alloc|apply pw_below_drewN|apply below_drew1|refine below_set ?_ GE109.out)|exact HB.out)) hb);clear BK109;clear HB;have BK109:=n0_;have HB:=n1_;clear n0_ n1_;(try clear hb);(try clear hb2);(try clear hk);(try clear hi)))
          go_meet
          case rel => exact ⟨_,(!t111),(by first|rfl|(simp;done)|(simp;decide +kernel)|(simp [*];done)),(by first|exact H'|(subst_vars;exact H')),⟨by have:=HJ3.out;have:=HJ15.out;first|omega|exact Nat.le_refl _⟩,⟨by (with_reducible repeat (first|refine blk_drewN ?_ _|refine blk_drew ?_|refine blk_alloc ?_ _));exact BK109.out⟩,⟨by repeat (first|(with_reducible first|exact HB.out|apply below_alloc|apply pw_below_drewN|apply below_drew1|refine below_set ?_ GE109.out)|exact HB.out)⟩⟩
         ·replace c26:=Bool.eq_false_iff.mpr c26
          subst c26
          have H1 : (jsontext_wrong.j2 kj15 (!false) a0_0 a0_1 a0_2 a0_3 a0_4) = some r:=by rw [if_neg (show ¬ (false = true) by decide)] at H;exact H
          clear H
          have H:=H1
          clear H1
          have H':=Aside0.mk H
          clear H
          have hcz30_0 : wc.cell? ⟨gb109,0,none⟩ = some (.int .i64 a0_0):=(blk_cell BK109.out 0).trans rfl
          have hcz30_1 : wc.cell? ⟨gb109,1,none⟩ = some (.int .i64 a0_1):=(blk_cell BK109.out 1).trans rfl
          have hcz30_2 : wc.cell? ⟨gb109,2,none⟩ = some (.int .i64 a0_2):=(blk_cell BK109.out 2).trans rfl
          have hcz30_3 : wc.cell? ⟨gb109,3,none⟩ = some (.string a0_3):=(blk_cell BK109.out 3).trans rfl
          have hcz30_4 : wc.cell? ⟨gb109,4,none⟩ = some (.string a0_4):=(blk_cell BK109.out 4).trans rfl
          have hfz30_0:=blk_frozen BK109.out 0
          have hfz30_1:=blk_frozen BK109.out 1
          have hfz30_2:=blk_frozen BK109.out 2
          have hfz30_3:=blk_frozen BK109.out 3
          have hfz30_4:=blk_frozen BK109.out 4
          go_wp2
          go_meet
          case rel => exact ⟨_,(!false),(by first|rfl|(simp;done)|(simp;decide +kernel)|(simp [*];done)),(by first|exact H'|(subst_vars;exact H')),⟨by have:=HJ3.out;have:=HJ15.out;first|omega|exact Nat.le_refl _⟩,⟨by (with_reducible repeat (first|refine blk_drewN ?_ _|refine blk_drew ?_|refine blk_alloc ?_ _));exact BK109.out⟩,⟨by repeat (first|(with_reducible first|exact HB.out|apply below_alloc|apply pw_below_drewN|apply below_drew1|refine below_set ?_ GE109.out)|exact HB.out)⟩⟩
      case rest =>
       clear HC20
       try clear c1
       try clear c2
       try clear p2
       try clear c4
       try clear c6
       try clear c6b0
       try clear c8
       try clear c8b0
       try clear c10
       try clear c10b0
       try clear c12
       try clear c12b0
       try clear c15
       try clear c17
       try clear c17b0
       try clear c21
       try clear c22
       try clear c22b0
       try clear c22b1
       try clear c26
       try clear c29
       try clear hcz11_0
       try clear hcz11_1
       try clear hcz11_2
       try clear hcz11_3
       try clear hcz11_4
       try clear hcz13_0
       try clear hcz13_1
       try clear hcz13_2
       try clear hcz13_3
       try clear hcz13_4
       try clear hcz14_0
       try clear hcz14_1
       try clear hcz14_2
       try clear hcz14_3
       try clear hcz14_4
       try clear hcz18_0
       try clear hcz18_1
       try clear hcz18_2
       try clear hcz18_3
       try clear hcz18_4
       try clear hcz19_0
       try clear hcz19_1
       try clear hcz19_2
       try clear hcz19_3
       try clear hcz19_4
       try clear hcz24_0
       try clear hcz24_1
       try clear hcz24_2
       try clear hcz24_3
       try clear hcz24_4
       try clear hcz28_0
       try clear hcz28_1
       try clear hcz28_2
       try clear hcz28_3
       try clear hcz28_4
       try clear hcz30_0
       try clear hcz30_1
       try clear hcz30_2
       try clear hcz30_3
       try clear hcz30_4
       try clear hcz7_0
       try clear hcz7_1
       try clear hcz7_2
       try clear hcz7_3
       try clear hcz7_4
       try clear hcz9_0
       try clear hcz9_1
       try clear hcz9_2
       try clear hcz9_3
       try clear hcz9_4
       try clear hfz11_0
       try clear hfz11_1
       try clear hfz11_2
       try clear hfz11_3
       try clear hfz11_4
       try clear hfz13_0
       try clear hfz13_1
       try clear hfz13_2
       try clear hfz13_3
       try clear hfz13_4
       try clear hfz14_0
       try clear hfz14_1
       try clear hfz14_2
       try clear hfz14_3
       try clear hfz14_4
       try clear hfz18_0
       try clear hfz18_1
       try clear hfz18_2
       try clear hfz18_3
       try clear hfz18_4
       try clear hfz19_0
       try clear hfz19_1
       try clear hfz19_2
       try clear hfz19_3
       try clear hfz19_4
       try clear hfz24_0
       try clear hfz24_1
       try clear hfz24_2
       try clear hfz24_3
       try clear hfz24_4
       try clear hfz28_0
       try clear hfz28_1
       try clear hfz28_2
       try clear hfz28_3
       try clear hfz28_4
       try clear hfz30_0
       try clear hfz30_1
       try clear hfz30_2
       try clear hfz30_3
       try clear hfz30_4
       try clear hfz7_0
       try clear hfz7_1
       try clear hfz7_2
       try clear hfz7_3
       try clear hfz7_4
       try clear hfz9_0
       try clear hfz9_1
       try clear hfz9_2
       try clear hfz9_3
       try clear hfz9_4
       try clear p2
       obtain ⟨kq,x30_19,rfl,HA,HJ19,BK109,HB⟩:=hcut
       cases kq with
       | zero => exact absurd HA.out (by simp [jsontext_wrong.j2])
       | succ kj19 =>
        have H:=HA.out
        clear HA
        simp only [jsontext_wrong.j2] at H
        by_cases c31 : x30_19 = true
        ·subst c31
         have H1 : (some true) = some r:=by rw [if_pos rfl] at H;exact H
         clear H
         have H:=H1
         clear H1
         obtain rfl:=Option.some.inj H
         go_wp2
         go_ret
         exact ⟨by first|rfl|(simp [errW_none,errW_some] <;> rfl)|(simp [*,errW_none,errW_some] <;> rfl)|(simp [errW_none,errW_some,show ∀ l : List UInt8,(l != []) = !l.isEmpty from fun l => by cases l <;> rfl]),by repeat (first|(with_reducible first|exact HB.out|apply below_alloc|apply pw_below_drewN|apply below_drew1|refine below_set ?_ GE109.out)|exact HB.out)⟩
        ·replace c31:=Bool.eq_false_iff.mpr c31
         subst c31
         have H1 : (if a0_0 = 4 then (if (a0_4.size : Int) > 65536 then (some true) else ((jsontext_number.f a0_4).bind fun t112 => (some (!t112)))) else (if a0_0 = 5 then ((utf8_ValidString.f a0_4).bind fun t113 => (some (!t113))) else (some (a0_4.toList != ([] : List UInt8))))) = some r:=by rw [if_neg (show ¬ (false = true) by decide)] at H;exact H
         clear H
         have H:=H1
         clear H1
         by_cases c32 : a0_0 = 4
         ·rw [if_pos c32] at H
          have c32b0 : (a0_0 == 4) = true:=beq_iff_eq.mpr c32
          have c32b1 : (a0_0 != 4) = false:=bne_eq_false_iff_eq.mpr c32
          clear c32
          by_cases c33 : (a0_4.size : Int) > 65536
          ·rw [if_pos c33] at H
           have c33b0 : decide (65536 < (a0_4.size : Int)) = true:=decide_eq_true c33
           have c33b1 : decide (65536 < a0_4.size) = true:=decide_eq_true (by omega)
           clear c33
           obtain rfl:=Option.some.inj H
           have hcz34_0 : wc.cell? ⟨gb109,0,none⟩ = some (.int .i64 a0_0):=(blk_cell BK109.out 0).trans rfl
           have hcz34_1 : wc.cell? ⟨gb109,1,none⟩ = some (.int .i64 a0_1):=(blk_cell BK109.out 1).trans rfl
           have hcz34_2 : wc.cell? ⟨gb109,2,none⟩ = some (.int .i64 a0_2):=(blk_cell BK109.out 2).trans rfl
           have hcz34_3 : wc.cell? ⟨gb109,3,none⟩ = some (.string a0_3):=(blk_cell BK109.out 3).trans rfl
           have hcz34_4 : wc.cell? ⟨gb109,4,none⟩ = some (.string a0_4):=(blk_cell BK109.out 4).trans rfl
           have hfz34_0:=blk_frozen BK109.out 0
           have hfz34_1:=blk_frozen BK109.out 1
           have hfz34_2:=blk_frozen BK109.out 2
           have hfz34_3:=blk_frozen BK109.out 3
           have hfz34_4:=blk_frozen BK109.out 4
           go_wp2
           go_ret
           exact ⟨by first|rfl|(simp [errW_none,errW_some] <;> rfl)|(simp [*,errW_none,errW_some] <;> rfl)|(simp [errW_none,errW_some,show ∀ l : List UInt8,(l != []) = !l.isEmpty from fun l => by cases l <;> rfl]),by repeat (first|(with_reducible first|exact HB.out|apply below_alloc|apply pw_below_drewN|apply below_drew1|refine below_set ?_ GE109.out)|exact HB.out)⟩
          ·rw [if_neg c33] at H
           have c33b0 : decide (65536 < (a0_4.size : Int)) = false:=decide_eq_false c33
           have c33b1 : decide (65536 < a0_4.size) = false:=decide_eq_false (by omega)
           clear c33
           replace H:=Option.bind_eq_some_iff.mp H
           obtain ⟨t112,A350,H⟩:=H
           replace H : (some (!t112)) = some r:=H
           have A35:=Aside0.mk A350
           clear A350
           obtain rfl:=Option.some.inj H
           have hcz36_0 : wc.cell? ⟨gb109,0,none⟩ = some (.int .i64 a0_0):=(blk_cell BK109.out 0).trans rfl
           have hcz36_1 : wc.cell? ⟨gb109,1,none⟩ = some (.int .i64 a0_1):=(blk_cell BK109.out 1).trans rfl
           have hcz36_2 : wc.cell? ⟨gb109,2,none⟩ = some (.int .i64 a0_2):=(blk_cell BK109.out 2).trans rfl
           have hcz36_3 : wc.cell? ⟨gb109,3,none⟩ = some (.string a0_3):=(blk_cell BK109.out 3).trans rfl
           have hcz36_4 : wc.cell? ⟨gb109,4,none⟩ = some (.string a0_4):=(blk_cell BK109.out 4).trans rfl
           have hfz36_0:=blk_frozen BK109.out 0
           have hfz36_1:=blk_frozen BK109.out 1
           have hfz36_2:=blk_frozen BK109.out 2
           have hfz36_3:=blk_frozen BK109.out 3
           have hfz36_4:=blk_frozen BK109.out 4
           go_wp2_with (first|(go_at_call 58;(with_reducible refine (jsontext_number.calls a0_4 t112 _ ?side1 A35.out).mono ?_);(case side1 => first|exact HGU8.out|exact GlobU8.below HGU8.out (by repeat (first|(with_reducible first|exact HB.out|apply below_alloc|apply pw_below_drewN|apply below_drew1|refine below_set ?_ GE109.out)|exact HB.out))|exact GlobU8.drawn HGU8.out (by repeat (first|exact Drawn0.refl _|apply Drawn0.step)));rintro e w37 ⟨rfl,hb⟩;have n0_:=Aside0.mk (blk_below (g:=gb109) (o:=.cells #[.int .i64 a0_0,.int .i64 a0_1,.int .i64 a0_2,.string a0_3,.string a0_4] 24 (0,0)) (by (with_reducible repeat (first|refine blk_drewN ?_ _|refine blk_drew ?_|refine blk_alloc ?_ _));exact BK109.out) hb);have n1_:=Aside0.mk (below_step (by repeat (first|(with_reducible first|exact HB.out|apply below_alloc|apply pw_below_drewN|apply below_drew1|refine below_set ?_ GE109.out)|exact HB.out)) hb);clear BK109;clear HB;have BK109:=n0_;have HB:=n1_;clear n0_ n1_;(try clear hb);(try clear hb2);(try clear hk);(try clear hi)))
           go_ret
           exact ⟨by first|rfl|(simp [errW_none,errW_some] <;> rfl)|(simp [*,errW_none,errW_some] <;> rfl)|(simp [errW_none,errW_some,show ∀ l : List UInt8,(l != []) = !l.isEmpty from fun l => by cases l <;> rfl]),by repeat (first|(with_reducible first|exact HB.out|apply below_alloc|apply pw_below_drewN|apply below_drew1|refine below_set ?_ GE109.out)|exact HB.out)⟩
         ·rw [if_neg c32] at H
          have c32b0 : (a0_0 == 4) = false:=beq_eq_false_iff_ne.mpr c32
          have c32b1 : (a0_0 != 4) = true:=bne_iff_ne.mpr c32
          by_cases c38 : a0_0 = 5
          ·rw [if_pos c38] at H
           have c38b0 : (a0_0 == 5) = true:=beq_iff_eq.mpr c38
           have c38b1 : (a0_0 != 5) = false:=bne_eq_false_iff_eq.mpr c38
           clear c38
           replace H:=Option.bind_eq_some_iff.mp H
           obtain ⟨t113,A390,H⟩:=H
           replace H : (some (!t113)) = some r:=H
           have A39:=Aside0.mk A390
           clear A390
           obtain rfl:=Option.some.inj H
           have hcz40_0 : wc.cell? ⟨gb109,0,none⟩ = some (.int .i64 a0_0):=(blk_cell BK109.out 0).trans rfl
           have hcz40_1 : wc.cell? ⟨gb109,1,none⟩ = some (.int .i64 a0_1):=(blk_cell BK109.out 1).trans rfl
           have hcz40_2 : wc.cell? ⟨gb109,2,none⟩ = some (.int .i64 a0_2):=(blk_cell BK109.out 2).trans rfl
           have hcz40_3 : wc.cell? ⟨gb109,3,none⟩ = some (.string a0_3):=(blk_cell BK109.out 3).trans rfl
           have hcz40_4 : wc.cell? ⟨gb109,4,none⟩ = some (.string a0_4):=(blk_cell BK109.out 4).trans rfl
           have hfz40_0:=blk_frozen BK109.out 0
           have hfz40_1:=blk_frozen BK109.out 1
           have hfz40_2:=blk_frozen BK109.out 2
           have hfz40_3:=blk_frozen BK109.out 3
           have hfz40_4:=blk_frozen BK109.out 4
           go_wp2_with (first|((with_reducible refine gate_callee (f:=29) rfl ?_);refine goesL_ (some 70) rfl rfl Tryd.func29 (by kernel_rfl) rfl #[.string a0_4] rfl (by (try simp only [List.map_toArray,List.map_cons,List.map_nil]);first|done|rfl|(simp only [List.length_drop,List.length_take];rfl)) ?_;(with_reducible refine (utf8_ValidString.calls a0_4 t113 _ ?side1 A39.out).mono ?_);(case side1 => first|exact HGU8.out|exact GlobU8.below HGU8.out (by repeat (first|(with_reducible first|exact HB.out|apply below_alloc|apply pw_below_drewN|apply below_drew1|refine below_set ?_ GE109.out)|exact HB.out))|exact GlobU8.drawn HGU8.out (by repeat (first|exact Drawn0.refl _|apply Drawn0.step)));rintro e w41 ⟨rfl,hb⟩;refine ⟨_,rfl,?_⟩;have n0_:=Aside0.mk (blk_below (g:=gb109) (o:=.cells #[.int .i64 a0_0,.int .i64 a0_1,.int .i64 a0_2,.string a0_3,.string a0_4] 24 (0,0)) (by (with_reducible repeat (first|refine blk_drewN ?_ _|refine blk_drew ?_|refine blk_alloc ?_ _));exact BK109.out) hb);have n1_:=Aside0.mk (below_step (by repeat (first|(with_reducible first|exact HB.out|apply below_alloc|apply pw_below_drewN|apply below_drew1|refine below_set ?_ GE109.out)|exact HB.out)) hb);clear BK109;clear HB;have BK109:=n0_;have HB:=n1_;clear n0_ n1_;(try clear hb);(try clear hb2);(try clear hk);(try clear hi)))
           go_ret
           exact ⟨by first|rfl|(simp [errW_none,errW_some] <;> rfl)|(simp [*,errW_none,errW_some] <;> rfl)|(simp [errW_none,errW_some,show ∀ l : List UInt8,(l != []) = !l.isEmpty from fun l => by cases l <;> rfl]),by repeat (first|(with_reducible first|exact HB.out|apply below_alloc|apply pw_below_drewN|apply below_drew1|refine below_set ?_ GE109.out)|exact HB.out)⟩
          ·rw [if_neg c38] at H
           have c38b0 : (a0_0 == 5) = false:=beq_eq_false_iff_ne.mpr c38
           have c38b1 : (a0_0 != 5) = true:=bne_iff_ne.mpr c38
           obtain rfl:=Option.some.inj H
           have hcz42_0 : wc.cell? ⟨gb109,0,none⟩ = some (.int .i64 a0_0):=(blk_cell BK109.out 0).trans rfl
           have hcz42_1 : wc.cell? ⟨gb109,1,none⟩ = some (.int .i64 a0_1):=(blk_cell BK109.out 1).trans rfl
           have hcz42_2 : wc.cell? ⟨gb109,2,none⟩ = some (.int .i64 a0_2):=(blk_cell BK109.out 2).trans rfl
           have hcz42_3 : wc.cell? ⟨gb109,3,none⟩ = some (.string a0_3):=(blk_cell BK109.out 3).trans rfl
           have hcz42_4 : wc.cell? ⟨gb109,4,none⟩ = some (.string a0_4):=(blk_cell BK109.out 4).trans rfl
           have hfz42_0:=blk_frozen BK109.out 0
           have hfz42_1:=blk_frozen BK109.out 1
           have hfz42_2:=blk_frozen BK109.out 2
           have hfz42_3:=blk_frozen BK109.out 3
           have hfz42_4:=blk_frozen BK109.out 4
           go_wp2
           go_ret
           exact ⟨by first|rfl|(simp [errW_none,errW_some] <;> rfl)|(simp [*,errW_none,errW_some] <;> rfl)|(simp [errW_none,errW_some,show ∀ l : List UInt8,(l != []) = !l.isEmpty from fun l => by cases l <;> rfl]),by repeat (first|(with_reducible first|exact HB.out|apply below_alloc|apply pw_below_drewN|apply below_drew1|refine below_set ?_ GE109.out)|exact HB.out)⟩
end Go.Proofs.YtjehflambbjoaaaDoor.X
namespace Go.Proofs.YtjehflambbjoaaaDoor.X
open Go.RowKit Go.Proofs.YtjehflambbjoaaaDoorW.PrintWords Go.Proofs.YtjehflambbjoaaaDoorW.PrintLast Go.Proofs.YtjehflambbjoaaaDoorW.PrintMore
attribute [local go_sem] max2_int min2_int max_two min_two max_three min_three max_four min_four
set_option linter.unusedVariables false
set_option linter.unusedSimpArgs false
mutual
def jsontext_check.j0 : Nat → List (S24) → Int → Int → Bool → Int → Int → Int → ByteArray → ByteArray → Option (Bool)
 | 0,_,_,_,_,_,_,_,_,_ => none
 | k + 1,x0,x1,x4,x28,x116000,x116001,x116002,x116003,x116004 => if x28 = true then (some false) else (jsontext_check.l0 k x0 x1 x4 (wrap64 (x1 + 1)) x116002 0 x116000 x116001 x116002 x116003 x116004)
def jsontext_check.l0 : Nat → List (S24) → Int → Int → Int → Int → Int → Int → Int → Int → ByteArray → ByteArray → Option (Bool)
 | 0,_,_,_,_,_,_,_,_,_,_,_ => none
 | k + 1,x0,x1,x4,x12,x32,x33,x116000,x116001,x116002,x116003,x116004 => if x33 < x32 then (if x12 ≥ (wrap64 (x1 + x116001)) then (some false) else ((jsontext_check.f k x0 x12 (wrap64 (x1 + x116001)) (x116000 == 7) (wrap64 (x4 + 1))).bind fun t117 => (if t117 = true then (if 0 ≤ x12 then (if x12 < (x0.length : Int) then (jsontext_check.l0 k x0 x1 x4 (wrap64 (x12 + ((rd_T24 x0 x12).f1))) x32 (wrap64 (x33 + 1)) x116000 x116001 x116002 x116003 x116004) else (none)) else (none)) else (some false)))) else (some (x12 == (wrap64 (x1 + x116001))))
def jsontext_check.f : Nat → List (S24) → Int → Int → Bool → Int → Option (Bool)
 | 0,_,_,_,_,_ => none
 | k + 1,l0,a1,a2,a3,a4 => if 0 ≤ a1 then (if a1 < (l0.length : Int) then ((jsontext_wrong.f k ((rd_T24 l0 a1).f0) ((rd_T24 l0 a1).f1) ((rd_T24 l0 a1).f2) ((rd_T24 l0 a1).f3) ((rd_T24 l0 a1).f4) a3 a4).bind fun t116 => (if t116 = true then (jsontext_check.j0 k l0 a1 a4 true ((rd_T24 l0 a1).f0) ((rd_T24 l0 a1).f1) ((rd_T24 l0 a1).f2) ((rd_T24 l0 a1).f3) ((rd_T24 l0 a1).f4)) else (jsontext_check.j0 k l0 a1 a4 (decide (((rd_T24 l0 a1).f1) > (wrap64 (a2 - a1)))) ((rd_T24 l0 a1).f0) ((rd_T24 l0 a1).f1) ((rd_T24 l0 a1).f2) ((rd_T24 l0 a1).f3) ((rd_T24 l0 a1).f4)))) else (none)) else (none)
end
theorem jsontext_check.mono_l : ∀ k,(∀ y0 y1 y2 y3 y4,LeO (jsontext_check.f k y0 y1 y2 y3 y4) (jsontext_check.f (k + 1) y0 y1 y2 y3 y4)) ∧ (∀ y0 y1 y2 y3 y4 y5 y6 y7 y8,LeO (jsontext_check.j0 k y0 y1 y2 y3 y4 y5 y6 y7 y8) (jsontext_check.j0 (k + 1) y0 y1 y2 y3 y4 y5 y6 y7 y8)) ∧ (∀ y0 y1 y2 y3 y4 y5 y6 y7 y8 y9 y10,LeO (jsontext_check.l0 k y0 y1 y2 y3 y4 y5 y6 y7 y8 y9 y10) (jsontext_check.l0 (k + 1) y0 y1 y2 y3 y4 y5 y6 y7 y8 y9 y10))
 | 0 => ⟨fun _ _ _ _ _ r h => by simp [jsontext_check.f] at h,fun _ _ _ _ _ _ _ _ _ r h => by simp [jsontext_check.j0] at h,fun _ _ _ _ _ _ _ _ _ _ _ r h => by simp [jsontext_check.l0] at h⟩
 | k + 1 => by
  obtain ⟨ih0,ih1,ih2⟩:=jsontext_check.mono_l k
  refine ⟨?_,?_,?_⟩
  ·intro y0 y1 y2 y3 y4
   unfold jsontext_check.f
   repeat' first
   | (with_reducible exact ih0 _ _ _ _ _)
   | (with_reducible exact ih1 _ _ _ _ _ _ _ _ _)
   | (with_reducible exact ih2 _ _ _ _ _ _ _ _ _ _ _)
   | (with_reducible exact jsontext_wrong.mono _ _ _ _ _ _ _ _)
   | (with_reducible exact LeO.refl _)
   | (with_reducible exact LeO.none _)
   | (with_reducible refine LeO.ite ?_ ?_)
   | (with_reducible refine LeO.bind ?_ (fun _ => ?_))
   | exact ih0 _ _ _ _ _
   | exact ih1 _ _ _ _ _ _ _ _ _
   | exact ih2 _ _ _ _ _ _ _ _ _ _ _
   | exact jsontext_wrong.mono _ _ _ _ _ _ _ _
   | exact LeO.none _
   | refine LeO.ite ?_ ?_
   | refine LeO.bind ?_ (fun _ => ?_)
  ·intro y0 y1 y2 y3 y4 y5 y6 y7 y8
   unfold jsontext_check.j0
   repeat' first
   | (with_reducible exact ih0 _ _ _ _ _)
   | (with_reducible exact ih1 _ _ _ _ _ _ _ _ _)
   | (with_reducible exact ih2 _ _ _ _ _ _ _ _ _ _ _)
   | (with_reducible exact jsontext_wrong.mono _ _ _ _ _ _ _ _)
   | (with_reducible exact LeO.refl _)
   | (with_reducible exact LeO.none _)
   | (with_reducible refine LeO.ite ?_ ?_)
   | (with_reducible refine LeO.bind ?_ (fun _ => ?_))
   | exact ih0 _ _ _ _ _
   | exact ih1 _ _ _ _ _ _ _ _ _
   | exact ih2 _ _ _ _ _ _ _ _ _ _ _
   | exact jsontext_wrong.mono _ _ _ _ _ _ _ _
   | exact LeO.none _
   | refine LeO.ite ?_ ?_
   | refine LeO.bind ?_ (fun _ => ?_)
  ·intro y0 y1 y2 y3 y4 y5 y6 y7 y8 y9 y10
   unfold jsontext_check.l0
   repeat' first
   | (with_reducible exact ih0 _ _ _ _ _)
   | (with_reducible exact ih1 _ _ _ _ _ _ _ _ _)
   | (with_reducible exact ih2 _ _ _ _ _ _ _ _ _ _ _)
   | (with_reducible exact jsontext_wrong.mono _ _ _ _ _ _ _ _)
   | (with_reducible exact LeO.refl _)
   | (with_reducible exact LeO.none _)
   | (with_reducible refine LeO.ite ?_ ?_)
   | (with_reducible refine LeO.bind ?_ (fun _ => ?_))
   | exact ih0 _ _ _ _ _
   | exact ih1 _ _ _ _ _ _ _ _ _
   | exact ih2 _ _ _ _ _ _ _ _ _ _ _
   | exact jsontext_wrong.mono _ _ _ _ _ _ _ _
   | exact LeO.none _
   | refine LeO.ite ?_ ?_
   | refine LeO.bind ?_ (fun _ => ?_)
theorem jsontext_check.mono : ∀ a0 a1 a2 a3 a4 k,LeO (jsontext_check.f k a0 a1 a2 a3 a4) (jsontext_check.f (k + 1) a0 a1 a2 a3 a4):=by
 intro a0 a1 a2 a3 a4 k
 obtain ⟨ih0,ih1,ih2⟩:=jsontext_check.mono_l k
 exact ih0 a0 a1 a2 a3 a4
set_option maxHeartbeats 8000000 in
set_option maxRecDepth 100000 in
theorem jsontext_check.calls (k : Nat) : ∀ (A0 : Option Addr) (c0 : Nat) (l0 : List (S24)) (a1 : Int) (a2 : Int) (a3 : Bool) (a4 : Int) (r : Bool) (w : World) (hGU8 : GlobU8 w) (hr0 : Kd.C k24 w A0 l0.length l0) (hc0 : l0.length ≤ c0) (h : jsontext_check.f k l0 a1 a2 a3 a4 = some r),
  Calls Tryd.prog 33 #[.slice A0 l0.length c0,.int .i64 a1,.int .i64 a2,.bool a3,.int .i64 a4] w fun e w' => e = .returned (.bool r) ∧ Below w.heap.size w w':=by
 induction k using Nat.strongRecOn with
 | _ k ih =>
 intro A0 c0 l0 a1 a2 a3 a4 r w hGU8 hr0 hc0 h
 cases k with
 | zero => exact absurd h (by simp [jsontext_check.f])
 | succ k =>
 simp only [jsontext_check.f] at h
 have hu24:=Tryd.underlying24
 have HGU8:=Aside0.mk hGU8
 clear hGU8
 have HR0:=Aside0.mk hr0
 have HC0:=Aside0.mk hc0
 clear hr0 hc0
 have HB:=Aside0.mk (Below.refl w.heap.size w)
 have H : (if 0 ≤ a1 then (if a1 < (l0.length : Int) then ((jsontext_wrong.f k ((rd_T24 l0 a1).f0) ((rd_T24 l0 a1).f1) ((rd_T24 l0 a1).f2) ((rd_T24 l0 a1).f3) ((rd_T24 l0 a1).f4) a3 a4).bind fun t116 => (if t116 = true then (jsontext_check.j0 k l0 a1 a4 true ((rd_T24 l0 a1).f0) ((rd_T24 l0 a1).f1) ((rd_T24 l0 a1).f2) ((rd_T24 l0 a1).f3) ((rd_T24 l0 a1).f4)) else (jsontext_check.j0 k l0 a1 a4 (decide (((rd_T24 l0 a1).f1) > (wrap64 (a2 - a1)))) ((rd_T24 l0 a1).f0) ((rd_T24 l0 a1).f1) ((rd_T24 l0 a1).f2) ((rd_T24 l0 a1).f3) ((rd_T24 l0 a1).f4)))) else (none)) else (none)) = some r:=h
 clear h
 by_cases c6 : 0 ≤ a1
 ·rw [if_pos c6] at H
  have c6b0 : decide (0 ≤ a1) = true:=decide_eq_true c6
  clear c6
  by_cases c7 : a1 < (l0.length : Int)
  ·rw [if_pos c7] at H
   have c7b0 : decide (a1 < (l0.length : Int)) = true:=decide_eq_true c7
   clear c7
   have HC8:=Aside0.mk H
   clear H
   have p114 : 0 ≤ (a1 : Int):=of_decide_eq_true (by first|(with_reducible assumption)|assumption)
   have q114 : a1 < (l0.length : Int):=of_decide_eq_true (by first|(with_reducible assumption)|assumption)
   obtain ⟨ad114,e114,hx114_0,hx114_1,hx114_2,hx114_3,hx114_4⟩:=at_T24 HR0.out a1 p114 q114
   cases e114
   replace p114:=eq_true p114
   replace q114:=eq_true q114
   go_enter Tryd.func33,Tryd.ntmps33
   go_upto_region 2 with (first|((with_reducible refine gate_dst (N:=11) rfl ?_);refine box_event ?hg (N:=11) ?hd (cs:=#[.int .i64 0,.int .i64 0,.int .i64 0,.string (⟨#[]⟩ : ByteArray),.string (⟨#[]⟩ : ByteArray)]) (t:=24) ?hr ?_;(case hd => rfl);(case hg => rfl);(case hr => first|(go_simp;done)|(go_simp;rfl));intro gb115 hg w9 hbox hb;have n0_:=Aside0.mk (below_step (by repeat (first|(with_reducible first|exact HB.out|apply below_alloc|apply pw_below_drewN|apply below_drew1)|exact HB.out)) hb);have n1_:=Aside0.mk (hbox);have n2_:=Aside0.mk ((by rw [hg];exact (below_size (by repeat (first|(with_reducible first|exact HB.out|apply below_alloc|apply pw_below_drewN|apply below_drew1)|exact HB.out))) : w.heap.size ≤ gb115));have n3_:=Aside0.mk ((by rw [hg];exact (below_size (by repeat (first|(with_reducible first|exact HB.out|apply below_alloc|apply pw_below_drewN|apply below_drew1)|exact HB.out))) : w.heap.size ≤ gb115));clear HB;have HB:=n0_;have BK115:=n1_;have GW115:=n2_;have GE115:=n3_;clear n0_ n1_ n2_ n3_;clear hb hbox hg;have hcz10_0 : w9.cell? ⟨gb115,0,none⟩ = some (.int .i64 0):=(blk_cell BK115.out 0).trans rfl;have hcz10_1 : w9.cell? ⟨gb115,1,none⟩ = some (.int .i64 0):=(blk_cell BK115.out 1).trans rfl;have hcz10_2 : w9.cell? ⟨gb115,2,none⟩ = some (.int .i64 0):=(blk_cell BK115.out 2).trans rfl;have hcz10_3 : w9.cell? ⟨gb115,3,none⟩ = some (.string (⟨#[]⟩ : ByteArray)):=(blk_cell BK115.out 3).trans rfl;have hcz10_4 : w9.cell? ⟨gb115,4,none⟩ = some (.string (⟨#[]⟩ : ByteArray)):=(blk_cell BK115.out 4).trans rfl;have hfz10_0:=blk_frozen BK115.out 0;have hfz10_1:=blk_frozen BK115.out 1;have hfz10_2:=blk_frozen BK115.out 2;have hfz10_3:=blk_frozen BK115.out 3;have hfz10_4:=blk_frozen BK115.out 4))
   (try simp only [Act.put,List.setIfInBounds_toArray,List.set_cons_zero,List.set_cons_succ])
   go_cut [28] (fun v28 wc => ∃ (kq : Nat) (x28_7 : Bool),v28 = .bool x28_7 ∧ Aside0 (jsontext_check.j0 kq l0 a1 a4 x28_7 ((rd_T24 l0 a1).f0) ((rd_T24 l0 a1).f1) ((rd_T24 l0 a1).f2) ((rd_T24 l0 a1).f3) ((rd_T24 l0 a1).f4) = some r) ∧ Aside0 (kq ≤ k) ∧ Aside0 (wc.heap[gb115]? = some (.cells #[.int .i64 ((rd_T24 l0 a1).f0),.int .i64 ((rd_T24 l0 a1).f1),.int .i64 ((rd_T24 l0 a1).f2),.string ((rd_T24 l0 a1).f3),.string ((rd_T24 l0 a1).f4)] 24 (0,0))) ∧ Aside0 (Below w.heap.size w wc))
   case first =>
    have H:=HC8.out
    clear HC8
    replace H:=Option.bind_eq_some_iff.mp H
    obtain ⟨t116,A110,H⟩:=H
    replace H : (if t116 = true then (jsontext_check.j0 k l0 a1 a4 true ((rd_T24 l0 a1).f0) ((rd_T24 l0 a1).f1) ((rd_T24 l0 a1).f2) ((rd_T24 l0 a1).f3) ((rd_T24 l0 a1).f4)) else (jsontext_check.j0 k l0 a1 a4 (decide (((rd_T24 l0 a1).f1) > (wrap64 (a2 - a1)))) ((rd_T24 l0 a1).f0) ((rd_T24 l0 a1).f1) ((rd_T24 l0 a1).f2) ((rd_T24 l0 a1).f3) ((rd_T24 l0 a1).f4))) = some r:=H
    have A11:=Aside0.mk A110
    clear A110
    by_cases c12 : t116 = true
    ·subst c12
     have H1 : (jsontext_check.j0 k l0 a1 a4 true ((rd_T24 l0 a1).f0) ((rd_T24 l0 a1).f1) ((rd_T24 l0 a1).f2) ((rd_T24 l0 a1).f3) ((rd_T24 l0 a1).f4)) = some r:=by rw [if_pos rfl] at H;exact H
     clear H
     have H:=H1
     clear H1
     have H':=Aside0.mk H
     clear H
     have hcz13_0 : w9.cell? ⟨gb115,0,none⟩ = some (.int .i64 0):=(blk_cell BK115.out 0).trans rfl
     have hcz13_1 : w9.cell? ⟨gb115,1,none⟩ = some (.int .i64 0):=(blk_cell BK115.out 1).trans rfl
     have hcz13_2 : w9.cell? ⟨gb115,2,none⟩ = some (.int .i64 0):=(blk_cell BK115.out 2).trans rfl
     have hcz13_3 : w9.cell? ⟨gb115,3,none⟩ = some (.string (⟨#[]⟩ : ByteArray)):=(blk_cell BK115.out 3).trans rfl
     have hcz13_4 : w9.cell? ⟨gb115,4,none⟩ = some (.string (⟨#[]⟩ : ByteArray)):=(blk_cell BK115.out 4).trans rfl
     have hfz13_0:=blk_frozen BK115.out 0
     have hfz13_1:=blk_frozen BK115.out 1
     have hfz13_2:=blk_frozen BK115.out 2
     have hfz13_3:=blk_frozen BK115.out 3
     have hfz13_4:=blk_frozen BK115.out 4
     go_wp2_with (first|((with_reducible refine gate_callee (f:=47) rfl ?_);refine goesL_ (some 20) rfl rfl Tryd.func47 (by kernel_rfl) rfl #[.agg #[.int .i64 ((rd_T24 l0 a1).f0),.int .i64 ((rd_T24 l0 a1).f1),.int .i64 ((rd_T24 l0 a1).f2),.string ((rd_T24 l0 a1).f3),.string ((rd_T24 l0 a1).f4)],.bool a3,.int .i64 a4] rfl (by (try simp only [List.map_toArray,List.map_cons,List.map_nil]);first|done|rfl|(simp only [List.length_drop,List.length_take];rfl)) ?_;(with_reducible refine (jsontext_wrong.calls k ((rd_T24 l0 a1).f0) ((rd_T24 l0 a1).f1) ((rd_T24 l0 a1).f2) ((rd_T24 l0 a1).f3) ((rd_T24 l0 a1).f4) a3 a4 true _ ?side1 A11.out).mono ?_);(case side1 => first|exact HGU8.out|exact GlobU8.below HGU8.out (by repeat (first|(with_reducible first|exact HB.out|apply below_alloc|apply pw_below_drewN|apply below_drew1|refine below_set ?_ GE115.out)|exact HB.out))|exact GlobU8.drawn HGU8.out (by repeat (first|exact Drawn0.refl _|apply Drawn0.step)));rintro e w14 ⟨rfl,hb⟩;refine ⟨_,rfl,?_⟩;have n0_:=Aside0.mk (blk_below (g:=gb115) (o:=.cells #[.int .i64 ((rd_T24 l0 a1).f0),.int .i64 ((rd_T24 l0 a1).f1),.int .i64 ((rd_T24 l0 a1).f2),.string ((rd_T24 l0 a1).f3),.string ((rd_T24 l0 a1).f4)] 24 (0,0)) (by (with_reducible repeat (first|refine blk_drewN ?_ _|refine blk_drew ?_|refine blk_alloc ?_ _));refine blk_put (cs:=#[.int .i64 ((rd_T24 l0 a1).f0),.int .i64 ((rd_T24 l0 a1).f1),.int .i64 ((rd_T24 l0 a1).f2),.string ((rd_T24 l0 a1).f3),.string (⟨#[]⟩ : ByteArray)]) ?_ 4 _ rfl;(with_reducible repeat (first|refine blk_drewN ?_ _|refine blk_drew ?_|refine blk_alloc ?_ _));refine blk_put (cs:=#[.int .i64 ((rd_T24 l0 a1).f0),.int .i64 ((rd_T24 l0 a1).f1),.int .i64 ((rd_T24 l0 a1).f2),.string (⟨#[]⟩ : ByteArray),.string (⟨#[]⟩ : ByteArray)]) ?_ 3 _ rfl;(with_reducible repeat (first|refine blk_drewN ?_ _|refine blk_drew ?_|refine blk_alloc ?_ _));refine blk_put (cs:=#[.int .i64 ((rd_T24 l0 a1).f0),.int .i64 ((rd_T24 l0 a1).f1),.int .i64 0,.string (⟨#[]⟩ : ByteArray),.string (⟨#[]⟩ : ByteArray)]) ?_ 2 _ rfl;(with_reducible repeat (first|refine blk_drewN ?_ _|refine blk_drew ?_|refine blk_alloc ?_ _));refine blk_put (cs:=#[.int .i64 ((rd_T24 l0 a1).f0),.int .i64 0,.int .i64 0,.string (⟨#[]⟩ : ByteArray),.string (⟨#[]⟩ : ByteArray)]) ?_ 1 _ rfl;(with_reducible repeat (first|refine blk_drewN ?_ _|refine blk_drew ?_|refine blk_alloc ?_ _));refine blk_put (cs:=#[.int .i64 0,.int .i64 0,.int .i64 0,.string (⟨#[]⟩ : ByteArray),.string (⟨#[]⟩ : ByteArray)]) ?_ 0 _ rfl;(with_reducible repeat (first|refine blk_drewN ?_ _|refine blk_drew ?_|refine blk_alloc ?_ _));exact BK115.out) hb);have n1_:=Aside0.mk (below_step (by repeat (first|(with_reducible first|exact HB.out|apply below_alloc|apply pw_below_drewN|apply below_drew1|refine below_set ?_ GE115.out)|exact HB.out)) hb);clear BK115;clear HB;have BK115:=n0_;have HB:=n1_;clear n0_ n1_;(try clear hb);(try clear hb2);(try clear hk);(try clear hi)))
     go_meet
     case rel => exact ⟨_,(true),(by first|rfl|(simp;done)|(simp;decide +kernel)|(simp [*];done)),(by first|exact H'|(subst_vars;exact H')),⟨by first|omega|exact Nat.le_refl _⟩,⟨by (with_reducible repeat (first|refine blk_drewN ?_ _|refine blk_drew ?_|refine blk_alloc ?_ _));exact BK115.out⟩,⟨by repeat (first|(with_reducible first|exact HB.out|apply below_alloc|apply pw_below_drewN|apply below_drew1|refine below_set ?_ GE115.out)|exact HB.out)⟩⟩
    ·replace c12:=Bool.eq_false_iff.mpr c12
     subst c12
     have H1 : (jsontext_check.j0 k l0 a1 a4 (decide (((rd_T24 l0 a1).f1) > (wrap64 (a2 - a1)))) ((rd_T24 l0 a1).f0) ((rd_T24 l0 a1).f1) ((rd_T24 l0 a1).f2) ((rd_T24 l0 a1).f3) ((rd_T24 l0 a1).f4)) = some r:=by rw [if_neg (show ¬ (false = true) by decide)] at H;exact H
     clear H
     have H:=H1
     clear H1
     have H':=Aside0.mk H
     clear H
     have hcz15_0 : w9.cell? ⟨gb115,0,none⟩ = some (.int .i64 0):=(blk_cell BK115.out 0).trans rfl
     have hcz15_1 : w9.cell? ⟨gb115,1,none⟩ = some (.int .i64 0):=(blk_cell BK115.out 1).trans rfl
     have hcz15_2 : w9.cell? ⟨gb115,2,none⟩ = some (.int .i64 0):=(blk_cell BK115.out 2).trans rfl
     have hcz15_3 : w9.cell? ⟨gb115,3,none⟩ = some (.string (⟨#[]⟩ : ByteArray)):=(blk_cell BK115.out 3).trans rfl
     have hcz15_4 : w9.cell? ⟨gb115,4,none⟩ = some (.string (⟨#[]⟩ : ByteArray)):=(blk_cell BK115.out 4).trans rfl
     have hfz15_0:=blk_frozen BK115.out 0
     have hfz15_1:=blk_frozen BK115.out 1
     have hfz15_2:=blk_frozen BK115.out 2
     have hfz15_3:=blk_frozen BK115.out 3
     have hfz15_4:=blk_frozen BK115.out 4
     go_wp2_with (first|((with_reducible refine gate_callee (f:=47) rfl ?_);refine goesL_ (some 20) rfl rfl Tryd.func47 (by kernel_rfl) rfl #[.agg #[.int .i64 ((rd_T24 l0 a1).f0),.int .i64 ((rd_T24 l0 a1).f1),.int .i64 ((rd_T24 l0 a1).f2),.string ((rd_T24 l0 a1).f3),.string ((rd_T24 l0 a1).f4)],.bool a3,.int .i64 a4] rfl (by (try simp only [List.map_toArray,List.map_cons,List.map_nil]);first|done|rfl|(simp only [List.length_drop,List.length_take];rfl)) ?_;(with_reducible refine (jsontext_wrong.calls k ((rd_T24 l0 a1).f0) ((rd_T24 l0 a1).f1) ((rd_T24 l0 a1).f2) ((rd_T24 l0 a1).f3) ((rd_T24 l0 a1).f4) a3 a4 false _ ?side1 A11.out).mono ?_);(case side1 => first|exact HGU8.out|exact GlobU8.below HGU8.out (by repeat (first|(with_reducible first|exact HB.out|apply below_alloc|apply pw_below_drewN|apply below_drew1|refine below_set ?_ GE115.out)|exact HB.out))|exact GlobU8.drawn HGU8.out (by repeat (first|exact Drawn0.refl _|apply Drawn0.step)));rintro e w16 ⟨rfl,hb⟩;refine ⟨_,rfl,?_⟩;have n0_:=Aside0.mk (blk_below (g:=gb115) (o:=.cells #[.int .i64 ((rd_T24 l0 a1).f0),.int .i64 ((rd_T24 l0 a1).f1),.int .i64 ((rd_T24 l0 a1).f2),.string ((rd_T24 l0 a1).f3),.string ((rd_T24 l0 a1).f4)] 24 (0,0)) (by (with_reducible repeat (first|refine blk_drewN ?_ _|refine blk_drew ?_|refine blk_alloc ?_ _));refine blk_put (cs:=#[.int .i64 ((rd_T24 l0 a1).f0),.int .i64 ((rd_T24 l0 a1).f1),.int .i64 ((rd_T24 l0 a1).f2),.string ((rd_T24 l0 a1).f3),.string (⟨#[]⟩ : ByteArray)]) ?_ 4 _ rfl;(with_reducible repeat (first|refine blk_drewN ?_ _|refine blk_drew ?_|refine blk_alloc ?_ _));refine blk_put (cs:=#[.int .i64 ((rd_T24 l0 a1).f0),.int .i64 ((rd_T24 l0 a1).f1),.int .i64 ((rd_T24 l0 a1).f2),.string (⟨#[]⟩ : ByteArray),.string (⟨#[]⟩ : ByteArray)]) ?_ 3 _ rfl;(with_reducible repeat (first|refine blk_drewN ?_ _|refine blk_drew ?_|refine blk_alloc ?_ _));refine blk_put (cs:=#[.int .i64 ((rd_T24 l0 a1).f0),.int .i64 ((rd_T24 l0 a1).f1),.int .i64 0,.string (⟨#[]⟩ : ByteArray),.string (⟨#[]⟩ : ByteArray)]) ?_ 2 _ rfl;(with_reducible repeat (first|refine blk_drewN ?_ _|refine blk_drew ?_|refine blk_alloc ?_ _));refine blk_put (cs:=#[.int .i64 ((rd_T24 l0 a1).f0),.int .i64 0,.int .i64 0,.string (⟨#[]⟩ : ByteArray),.string (⟨#[]⟩ : ByteArray)]) ?_ 1 _ rfl;(with_reducible repeat (first|refine blk_drewN ?_ _|refine blk_drew ?_|refine blk_alloc ?_ _));refine blk_put (cs:=#[.int .i64 0,.int .i64 0,.int .i64 0,.string (⟨#[]⟩ : ByteArray),.string (⟨#[]⟩ : ByteArray)]) ?_ 0 _ rfl;(with_reducible repeat (first|refine blk_drewN ?_ _|refine blk_drew ?_|refine blk_alloc ?_ _));exact BK115.out) hb);have n1_:=Aside0.mk (below_step (by repeat (first|(with_reducible first|exact HB.out|apply below_alloc|apply pw_below_drewN|apply below_drew1|refine below_set ?_ GE115.out)|exact HB.out)) hb);clear BK115;clear HB;have BK115:=n0_;have HB:=n1_;clear n0_ n1_;(try clear hb);(try clear hb2);(try clear hk);(try clear hi);have hcz17_0 : w16.cell? ⟨gb115,0,none⟩ = some (.int .i64 ((rd_T24 l0 a1).f0)):=(blk_cell BK115.out 0).trans rfl;have hcz17_1 : w16.cell? ⟨gb115,1,none⟩ = some (.int .i64 ((rd_T24 l0 a1).f1)):=(blk_cell BK115.out 1).trans rfl;have hcz17_2 : w16.cell? ⟨gb115,2,none⟩ = some (.int .i64 ((rd_T24 l0 a1).f2)):=(blk_cell BK115.out 2).trans rfl;have hcz17_3 : w16.cell? ⟨gb115,3,none⟩ = some (.string ((rd_T24 l0 a1).f3)):=(blk_cell BK115.out 3).trans rfl;have hcz17_4 : w16.cell? ⟨gb115,4,none⟩ = some (.string ((rd_T24 l0 a1).f4)):=(blk_cell BK115.out 4).trans rfl;have hfz17_0:=blk_frozen BK115.out 0;have hfz17_1:=blk_frozen BK115.out 1;have hfz17_2:=blk_frozen BK115.out 2;have hfz17_3:=blk_frozen BK115.out 3;have hfz17_4:=blk_frozen BK115.out 4))
     go_meet
     case rel => exact ⟨_,(decide (((rd_T24 l0 a1).f1) > (wrap64 (a2 - a1)))),(by first|rfl|(simp;done)|(simp;decide +kernel)|(simp [*];done)),(by first|exact H'|(subst_vars;exact H')),⟨by first|omega|exact Nat.le_refl _⟩,⟨by (with_reducible repeat (first|refine blk_drewN ?_ _|refine blk_drew ?_|refine blk_alloc ?_ _));exact BK115.out⟩,⟨by repeat (first|(with_reducible first|exact HB.out|apply below_alloc|apply pw_below_drewN|apply below_drew1|refine below_set ?_ GE115.out)|exact HB.out)⟩⟩
   case rest =>
    clear HC8
    try clear c1
    try clear p1
    try clear q1
    try clear hx1
    try clear p2
    try clear c3
    try clear c4
    try clear c6
    try clear c6b0
    try clear p6
    try clear c7
    try clear c7b0
    try clear p11
    try clear q11
    try clear hx11
    try clear c12
    try clear hcz10_0
    try clear hcz10_1
    try clear hcz10_2
    try clear hcz10_3
    try clear hcz10_4
    try clear hcz13_0
    try clear hcz13_1
    try clear hcz13_2
    try clear hcz13_3
    try clear hcz13_4
    try clear hcz15_0
    try clear hcz15_1
    try clear hcz15_2
    try clear hcz15_3
    try clear hcz15_4
    try clear hcz17_0
    try clear hcz17_1
    try clear hcz17_2
    try clear hcz17_3
    try clear hcz17_4
    try clear hfz10_0
    try clear hfz10_1
    try clear hfz10_2
    try clear hfz10_3
    try clear hfz10_4
    try clear hfz13_0
    try clear hfz13_1
    try clear hfz13_2
    try clear hfz13_3
    try clear hfz13_4
    try clear hfz15_0
    try clear hfz15_1
    try clear hfz15_2
    try clear hfz15_3
    try clear hfz15_4
    try clear hfz17_0
    try clear hfz17_1
    try clear hfz17_2
    try clear hfz17_3
    try clear hfz17_4
    try clear hx114_0
    try clear hx114_1
    try clear hx114_2
    try clear hx114_3
    try clear hx114_4
    try clear p114
    try clear q114
    obtain ⟨kq,x28_7,rfl,HA,HJ7,BK115,HB⟩:=hcut
    cases kq with
    | zero => exact absurd HA.out (by simp [jsontext_check.j0])
    | succ kj7 =>
     have H:=HA.out
     clear HA
     simp only [jsontext_check.j0] at H
     by_cases c18 : x28_7 = true
     ·subst c18
      have H1 : (some false) = some r:=by rw [if_pos rfl] at H;exact H
      clear H
      have H:=H1
      clear H1
      obtain rfl:=Option.some.inj H
      go_wp2
      go_ret
      exact ⟨by first|rfl|(simp [errW_none,errW_some] <;> rfl)|(simp [*,errW_none,errW_some] <;> rfl),by repeat (first|(with_reducible first|exact HB.out|apply below_alloc|apply pw_below_drewN|apply below_drew1|refine below_set ?_ GE115.out)|exact HB.out)⟩
     ·replace c18:=Bool.eq_false_iff.mpr c18
      subst c18
      have H1 : (jsontext_check.l0 kj7 l0 a1 a4 (wrap64 (a1 + 1)) ((rd_T24 l0 a1).f2) 0 ((rd_T24 l0 a1).f0) ((rd_T24 l0 a1).f1) ((rd_T24 l0 a1).f2) ((rd_T24 l0 a1).f3) ((rd_T24 l0 a1).f4)) = some r:=by rw [if_neg (show ¬ (false = true) by decide)] at H;exact H
      clear H
      have H:=H1
      clear H1
      have H':=Aside0.mk H
      clear H
      have hcz19_0 : wc.cell? ⟨gb115,0,none⟩ = some (.int .i64 ((rd_T24 l0 a1).f0)):=(blk_cell BK115.out 0).trans rfl
      have hcz19_1 : wc.cell? ⟨gb115,1,none⟩ = some (.int .i64 ((rd_T24 l0 a1).f1)):=(blk_cell BK115.out 1).trans rfl
      have hcz19_2 : wc.cell? ⟨gb115,2,none⟩ = some (.int .i64 ((rd_T24 l0 a1).f2)):=(blk_cell BK115.out 2).trans rfl
      have hcz19_3 : wc.cell? ⟨gb115,3,none⟩ = some (.string ((rd_T24 l0 a1).f3)):=(blk_cell BK115.out 3).trans rfl
      have hcz19_4 : wc.cell? ⟨gb115,4,none⟩ = some (.string ((rd_T24 l0 a1).f4)):=(blk_cell BK115.out 4).trans rfl
      have hfz19_0:=blk_frozen BK115.out 0
      have hfz19_1:=blk_frozen BK115.out 1
      have hfz19_2:=blk_frozen BK115.out 2
      have hfz19_3:=blk_frozen BK115.out 3
      have hfz19_4:=blk_frozen BK115.out 4
      go_wp2
      go_loopg [12,33] kj7 (fun kq v12 v33 w' => ∃ (x12_2 : Int) (x33_2 : Int),v12 = .int .i64 x12_2 ∧ v33 = .int .i64 x33_2 ∧ Aside0 (jsontext_check.l0 kq l0 a1 a4 x12_2 ((rd_T24 l0 a1).f2) x33_2 ((rd_T24 l0 a1).f0) ((rd_T24 l0 a1).f1) ((rd_T24 l0 a1).f2) ((rd_T24 l0 a1).f3) ((rd_T24 l0 a1).f4) = some r) ∧ Aside0 (kq ≤ kj7) ∧ Aside0 (w'.heap[gb115]? = some (.cells #[.int .i64 ((rd_T24 l0 a1).f0),.int .i64 ((rd_T24 l0 a1).f1),.int .i64 ((rd_T24 l0 a1).f2),.string ((rd_T24 l0 a1).f3),.string ((rd_T24 l0 a1).f4)] 24 (0,0))) ∧ Aside0 (Below w.heap.size w w'))
      case atStart => exact ⟨(wrap64 (a1 + 1)),(0),(by first|rfl|(simp;done)|(simp;decide +kernel)|(simp [*];done)),(by first|rfl|(simp;done)|(simp;decide +kernel)|(simp [*];done)),(by first|exact H'|(subst_vars;exact H')),⟨Nat.le_refl _⟩,⟨by (with_reducible repeat (first|refine blk_drewN ?_ _|refine blk_drew ?_|refine blk_alloc ?_ _));exact BK115.out⟩,⟨by repeat (first|(with_reducible first|exact HB.out|apply below_alloc|apply pw_below_drewN|apply below_drew1|refine below_set ?_ GE115.out)|exact HB.out)⟩⟩
      case round =>
       clear H'
       try clear c1
       try clear p1
       try clear q1
       try clear hx1
       try clear p2
       try clear c3
       try clear c4
       try clear c6
       try clear c6b0
       try clear p6
       try clear c7
       try clear c7b0
       try clear p11
       try clear q11
       try clear hx11
       try clear c12
       try clear c18
       try clear hcz10_0
       try clear hcz10_1
       try clear hcz10_2
       try clear hcz10_3
       try clear hcz10_4
       try clear hcz13_0
       try clear hcz13_1
       try clear hcz13_2
       try clear hcz13_3
       try clear hcz13_4
       try clear hcz15_0
       try clear hcz15_1
       try clear hcz15_2
       try clear hcz15_3
       try clear hcz15_4
       try clear hcz17_0
       try clear hcz17_1
       try clear hcz17_2
       try clear hcz17_3
       try clear hcz17_4
       try clear hcz19_0
       try clear hcz19_1
       try clear hcz19_2
       try clear hcz19_3
       try clear hcz19_4
       try clear hfz10_0
       try clear hfz10_1
       try clear hfz10_2
       try clear hfz10_3
       try clear hfz10_4
       try clear hfz13_0
       try clear hfz13_1
       try clear hfz13_2
       try clear hfz13_3
       try clear hfz13_4
       try clear hfz15_0
       try clear hfz15_1
       try clear hfz15_2
       try clear hfz15_3
       try clear hfz15_4
       try clear hfz17_0
       try clear hfz17_1
       try clear hfz17_2
       try clear hfz17_3
       try clear hfz17_4
       try clear hfz19_0
       try clear hfz19_1
       try clear hfz19_2
       try clear hfz19_3
       try clear hfz19_4
       try clear hx114_0
       try clear hx114_1
       try clear hx114_2
       try clear hx114_3
       try clear hx114_4
       try clear p1
       try clear p11
       try clear p114
       try clear p2
       try clear p6
       try clear q1
       try clear q11
       try clear q114
       obtain ⟨x12_2,x33_2,rfl,rfl,HA,HK2,BK115,HB⟩:=hrel
       cases gk with
       | zero => exact absurd HA.out (by simp [jsontext_check.l0])
       | succ k2 =>
        have H:=HA.out
        clear HA
        simp only [jsontext_check.l0] at H
        by_cases c20 : x33_2 < ((rd_T24 l0 a1).f2)
        ·rw [if_pos c20] at H
         have c20b0 : decide (x33_2 < ((rd_T24 l0 a1).f2)) = true:=decide_eq_true c20
         clear c20
         by_cases c21 : x12_2 ≥ (wrap64 (a1 + ((rd_T24 l0 a1).f1)))
         ·rw [if_pos c21] at H
          have c21b0 : decide ((wrap64 (a1 + ((rd_T24 l0 a1).f1))) ≤ x12_2) = true:=decide_eq_true c21
          clear c21
          obtain rfl:=Option.some.inj H
          have hcz22_0 : wr.cell? ⟨gb115,0,none⟩ = some (.int .i64 ((rd_T24 l0 a1).f0)):=(blk_cell BK115.out 0).trans rfl
          have hcz22_1 : wr.cell? ⟨gb115,1,none⟩ = some (.int .i64 ((rd_T24 l0 a1).f1)):=(blk_cell BK115.out 1).trans rfl
          have hcz22_2 : wr.cell? ⟨gb115,2,none⟩ = some (.int .i64 ((rd_T24 l0 a1).f2)):=(blk_cell BK115.out 2).trans rfl
          have hcz22_3 : wr.cell? ⟨gb115,3,none⟩ = some (.string ((rd_T24 l0 a1).f3)):=(blk_cell BK115.out 3).trans rfl
          have hcz22_4 : wr.cell? ⟨gb115,4,none⟩ = some (.string ((rd_T24 l0 a1).f4)):=(blk_cell BK115.out 4).trans rfl
          have hfz22_0:=blk_frozen BK115.out 0
          have hfz22_1:=blk_frozen BK115.out 1
          have hfz22_2:=blk_frozen BK115.out 2
          have hfz22_3:=blk_frozen BK115.out 3
          have hfz22_4:=blk_frozen BK115.out 4
          go_wp2
          go_ret
          exact ⟨by first|rfl|(simp [errW_none,errW_some] <;> rfl)|(simp [*,errW_none,errW_some] <;> rfl),by repeat (first|(with_reducible first|exact HB.out|apply below_alloc|apply pw_below_drewN|apply below_drew1|refine below_set ?_ GE115.out)|exact HB.out)⟩
         ·rw [if_neg c21] at H
          have c21b0 : decide ((wrap64 (a1 + ((rd_T24 l0 a1).f1))) ≤ x12_2) = false:=decide_eq_false c21
          clear c21
          replace H:=Option.bind_eq_some_iff.mp H
          obtain ⟨t117,A230,H⟩:=H
          replace H : (if t117 = true then (if 0 ≤ x12_2 then (if x12_2 < (l0.length : Int) then (jsontext_check.l0 k2 l0 a1 a4 (wrap64 (x12_2 + ((rd_T24 l0 x12_2).f1))) ((rd_T24 l0 a1).f2) (wrap64 (x33_2 + 1)) ((rd_T24 l0 a1).f0) ((rd_T24 l0 a1).f1) ((rd_T24 l0 a1).f2) ((rd_T24 l0 a1).f3) ((rd_T24 l0 a1).f4)) else (none)) else (none)) else (some false)) = some r:=H
          have A23:=Aside0.mk A230
          clear A230
          by_cases c24 : t117 = true
          ·subst c24
           have H1 : (if 0 ≤ x12_2 then (if x12_2 < (l0.length : Int) then (jsontext_check.l0 k2 l0 a1 a4 (wrap64 (x12_2 + ((rd_T24 l0 x12_2).f1))) ((rd_T24 l0 a1).f2) (wrap64 (x33_2 + 1)) ((rd_T24 l0 a1).f0) ((rd_T24 l0 a1).f1) ((rd_T24 l0 a1).f2) ((rd_T24 l0 a1).f3) ((rd_T24 l0 a1).f4)) else (none)) else (none)) = some r:=by rw [if_pos rfl] at H;exact H
           clear H
           have H:=H1
           clear H1
           by_cases c25 : 0 ≤ x12_2
           ·rw [if_pos c25] at H
            have c25b0 : decide (0 ≤ x12_2) = true:=decide_eq_true c25
            clear c25
            by_cases c26 : x12_2 < (l0.length : Int)
            ·rw [if_pos c26] at H
             have c26b0 : decide (x12_2 < (l0.length : Int)) = true:=decide_eq_true c26
             clear c26
             have H':=Aside0.mk H
             clear H
             have hcz27_0 : wr.cell? ⟨gb115,0,none⟩ = some (.int .i64 ((rd_T24 l0 a1).f0)):=(blk_cell BK115.out 0).trans rfl
             have hcz27_1 : wr.cell? ⟨gb115,1,none⟩ = some (.int .i64 ((rd_T24 l0 a1).f1)):=(blk_cell BK115.out 1).trans rfl
             have hcz27_2 : wr.cell? ⟨gb115,2,none⟩ = some (.int .i64 ((rd_T24 l0 a1).f2)):=(blk_cell BK115.out 2).trans rfl
             have hcz27_3 : wr.cell? ⟨gb115,3,none⟩ = some (.string ((rd_T24 l0 a1).f3)):=(blk_cell BK115.out 3).trans rfl
             have hcz27_4 : wr.cell? ⟨gb115,4,none⟩ = some (.string ((rd_T24 l0 a1).f4)):=(blk_cell BK115.out 4).trans rfl
             have hfz27_0:=blk_frozen BK115.out 0
             have hfz27_1:=blk_frozen BK115.out 1
             have hfz27_2:=blk_frozen BK115.out 2
             have hfz27_3:=blk_frozen BK115.out 3
             have hfz27_4:=blk_frozen BK115.out 4
             go_wp2_with (first|(go_at_call 33;(with_reducible refine (ih k2 (by have:=HJ7.out;have:=HK2.out;omega) _ _ l0 x12_2 (wrap64 (a1 + ((rd_T24 l0 a1).f1))) (((rd_T24 l0 a1).f0) == 7) (wrap64 (a4 + 1)) true _ ?side3 ?side1 ?side2 A23.out).mono ?_);(case side1 => repeat (first|exact (Kd.C_below HR0.out HB.out)|(with_reducible refine Kd.C_alloc ?_ _)|(with_reducible refine Kd.C_drewN ?_ _)|(with_reducible refine Kd.C_drew ?_)));(case side2 => exact HC0.out);(case side3 => first|exact HGU8.out|exact GlobU8.below HGU8.out (by repeat (first|(with_reducible first|exact HB.out|apply below_alloc|apply pw_below_drewN|apply below_drew1|refine below_set ?_ GE115.out)|exact HB.out))|exact GlobU8.drawn HGU8.out (by repeat (first|exact Drawn0.refl _|apply Drawn0.step)));rintro e w28 ⟨rfl,hb⟩;have n0_:=Aside0.mk (blk_below (g:=gb115) (o:=.cells #[.int .i64 ((rd_T24 l0 a1).f0),.int .i64 ((rd_T24 l0 a1).f1),.int .i64 ((rd_T24 l0 a1).f2),.string ((rd_T24 l0 a1).f3),.string ((rd_T24 l0 a1).f4)] 24 (0,0)) (by (with_reducible repeat (first|refine blk_drewN ?_ _|refine blk_drew ?_|refine blk_alloc ?_ _));exact BK115.out) hb);have n1_:=Aside0.mk (below_step (by repeat (first|(with_reducible first|exact HB.out|apply below_alloc|apply pw_below_drewN|apply below_drew1|refine below_set ?_ GE115.out)|exact HB.out)) hb);clear BK115;clear HB;have BK115:=n0_;have HB:=n1_;clear n0_ n1_;(try clear hb);(try clear hb2);(try clear hk);(try clear hi);have p118 : 0 ≤ (x12_2 : Int):=of_decide_eq_true (by first|(with_reducible assumption)|assumption);have q118 : x12_2 < (l0.length : Int):=of_decide_eq_true (by first|(with_reducible assumption)|assumption);obtain ⟨ad118,e118,hx118_0,hx118_1,hx118_2,hx118_3,hx118_4⟩:=at_T24 HR0.out x12_2 p118 q118;obtain rfl : ad114 = ad118:=(by injection e118);replace hx118_0:=(HB.out.cell (World.block_lt_of_cell? w _ hx118_0)).trans hx118_0;replace hx118_1:=(HB.out.cell (World.block_lt_of_cell? w _ hx118_1)).trans hx118_1;replace hx118_2:=(HB.out.cell (World.block_lt_of_cell? w _ hx118_2)).trans hx118_2;replace hx118_3:=(HB.out.cell (World.block_lt_of_cell? w _ hx118_3)).trans hx118_3;replace hx118_4:=(HB.out.cell (World.block_lt_of_cell? w _ hx118_4)).trans hx118_4;replace p118:=eq_true p118;replace q118:=eq_true q118))
             go_roundg k2
             case measure => have:=HJ7.out;have:=HK2.out;omega
             case rel => exact ⟨(wrap64 (x12_2 + ((rd_T24 l0 x12_2).f1))),(wrap64 (x33_2 + 1)),(by first|rfl|(simp;done)|(simp;decide +kernel)|(simp [*];done)),(by first|rfl|(simp;done)|(simp;decide +kernel)|(simp [*];done)),(by first|exact H'|(subst_vars;exact H')),⟨by have:=HJ7.out;have:=HK2.out;omega⟩,⟨by (with_reducible repeat (first|refine blk_drewN ?_ _|refine blk_drew ?_|refine blk_alloc ?_ _));exact BK115.out⟩,⟨by repeat (first|(with_reducible first|exact HB.out|apply below_alloc|apply pw_below_drewN|apply below_drew1|refine below_set ?_ GE115.out)|exact HB.out)⟩⟩
            ·rw [if_neg c26] at H
             exact absurd H (by simp)
           ·rw [if_neg c25] at H
            exact absurd H (by simp)
          ·replace c24:=Bool.eq_false_iff.mpr c24
           subst c24
           have H1 : (some false) = some r:=by rw [if_neg (show ¬ (false = true) by decide)] at H;exact H
           clear H
           have H:=H1
           clear H1
           obtain rfl:=Option.some.inj H
           have hcz29_0 : wr.cell? ⟨gb115,0,none⟩ = some (.int .i64 ((rd_T24 l0 a1).f0)):=(blk_cell BK115.out 0).trans rfl
           have hcz29_1 : wr.cell? ⟨gb115,1,none⟩ = some (.int .i64 ((rd_T24 l0 a1).f1)):=(blk_cell BK115.out 1).trans rfl
           have hcz29_2 : wr.cell? ⟨gb115,2,none⟩ = some (.int .i64 ((rd_T24 l0 a1).f2)):=(blk_cell BK115.out 2).trans rfl
           have hcz29_3 : wr.cell? ⟨gb115,3,none⟩ = some (.string ((rd_T24 l0 a1).f3)):=(blk_cell BK115.out 3).trans rfl
           have hcz29_4 : wr.cell? ⟨gb115,4,none⟩ = some (.string ((rd_T24 l0 a1).f4)):=(blk_cell BK115.out 4).trans rfl
           have hfz29_0:=blk_frozen BK115.out 0
           have hfz29_1:=blk_frozen BK115.out 1
           have hfz29_2:=blk_frozen BK115.out 2
           have hfz29_3:=blk_frozen BK115.out 3
           have hfz29_4:=blk_frozen BK115.out 4
           go_wp2_with (first|(go_at_call 33;(with_reducible refine (ih k2 (by have:=HJ7.out;have:=HK2.out;omega) _ _ l0 x12_2 (wrap64 (a1 + ((rd_T24 l0 a1).f1))) (((rd_T24 l0 a1).f0) == 7) (wrap64 (a4 + 1)) false _ ?side3 ?side1 ?side2 A23.out).mono ?_);(case side1 => repeat (first|exact (Kd.C_below HR0.out HB.out)|(with_reducible refine Kd.C_alloc ?_ _)|(with_reducible refine Kd.C_drewN ?_ _)|(with_reducible refine Kd.C_drew ?_)));(case side2 => exact HC0.out);(case side3 => first|exact HGU8.out|exact GlobU8.below HGU8.out (by repeat (first|(with_reducible first|exact HB.out|apply below_alloc|apply pw_below_drewN|apply below_drew1|refine below_set ?_ GE115.out)|exact HB.out))|exact GlobU8.drawn HGU8.out (by repeat (first|exact Drawn0.refl _|apply Drawn0.step)));rintro e w30 ⟨rfl,hb⟩;have n0_:=Aside0.mk (blk_below (g:=gb115) (o:=.cells #[.int .i64 ((rd_T24 l0 a1).f0),.int .i64 ((rd_T24 l0 a1).f1),.int .i64 ((rd_T24 l0 a1).f2),.string ((rd_T24 l0 a1).f3),.string ((rd_T24 l0 a1).f4)] 24 (0,0)) (by (with_reducible repeat (first|refine blk_drewN ?_ _|refine blk_drew ?_|refine blk_alloc ?_ _));exact BK115.out) hb);have n1_:=Aside0.mk (below_step (by repeat (first|(with_reducible first|exact HB.out|apply below_alloc|apply pw_below_drewN|apply below_drew1|refine below_set ?_ GE115.out)|exact HB.out)) hb);clear BK115;clear HB;have BK115:=n0_;have HB:=n1_;clear n0_ n1_;(try clear hb);(try clear hb2);(try clear hk);(try clear hi)))
           go_ret
           exact ⟨by first|rfl|(simp [errW_none,errW_some] <;> rfl)|(simp [*,errW_none,errW_some] <;> rfl),by repeat (first|(with_reducible first|exact HB.out|apply below_alloc|apply pw_below_drewN|apply below_drew1|refine below_set ?_ GE115.out)|exact HB.out)⟩
        ·rw [if_neg c20] at H
         have c20b0 : decide (x33_2 < ((rd_T24 l0 a1).f2)) = false:=decide_eq_false c20
         clear c20
         obtain rfl:=Option.some.inj H
         have hcz31_0 : wr.cell? ⟨gb115,0,none⟩ = some (.int .i64 ((rd_T24 l0 a1).f0)):=(blk_cell BK115.out 0).trans rfl
         have hcz31_1 : wr.cell? ⟨gb115,1,none⟩ = some (.int .i64 ((rd_T24 l0 a1).f1)):=(blk_cell BK115.out 1).trans rfl
         have hcz31_2 : wr.cell? ⟨gb115,2,none⟩ = some (.int .i64 ((rd_T24 l0 a1).f2)):=(blk_cell BK115.out 2).trans rfl
         have hcz31_3 : wr.cell? ⟨gb115,3,none⟩ = some (.string ((rd_T24 l0 a1).f3)):=(blk_cell BK115.out 3).trans rfl
         have hcz31_4 : wr.cell? ⟨gb115,4,none⟩ = some (.string ((rd_T24 l0 a1).f4)):=(blk_cell BK115.out 4).trans rfl
         have hfz31_0:=blk_frozen BK115.out 0
         have hfz31_1:=blk_frozen BK115.out 1
         have hfz31_2:=blk_frozen BK115.out 2
         have hfz31_3:=blk_frozen BK115.out 3
         have hfz31_4:=blk_frozen BK115.out 4
         go_wp2
         go_ret
         exact ⟨by first|rfl|(simp [errW_none,errW_some] <;> rfl)|(simp [*,errW_none,errW_some] <;> rfl),by repeat (first|(with_reducible first|exact HB.out|apply below_alloc|apply pw_below_drewN|apply below_drew1|refine below_set ?_ GE115.out)|exact HB.out)⟩
  ·rw [if_neg c7] at H
   exact absurd H (by simp)
 ·rw [if_neg c6] at H
  exact absurd H (by simp)
end Go.Proofs.YtjehflambbjoaaaDoor.X
namespace Go.Proofs.YtjehflambbjoaaaDoor.X
open Go.RowKit Go.Proofs.YtjehflambbjoaaaDoorW.PrintWords Go.Proofs.YtjehflambbjoaaaDoorW.PrintLast Go.Proofs.YtjehflambbjoaaaDoorW.PrintMore
attribute [local go_sem] max2_int min2_int max_two min_two max_three min_three max_four min_four
set_option linter.unusedVariables false
set_option linter.unusedSimpArgs false
def jsontext_Check.f (k : Nat) (l0 : List (S24)) : Option (Int):=if (l0.length : Int) = 0 then (some 2) else (if 0 < (l0.length : Int) then (if ((rd_T24 l0 0).f1) = (l0.length : Int) then ((jsontext_check.f k l0 0 (l0.length : Int) false 0).bind fun t120 => (if t120 = true then (some 0) else (some 2))) else (some 2)) else (none))
theorem jsontext_Check.mono : ∀ a0 k,LeO (jsontext_Check.f k a0) (jsontext_Check.f (k + 1) a0):=by
 intro a0 k
 unfold jsontext_Check.f
 repeat' first
   | (with_reducible exact jsontext_check.mono _ _ _ _ _ _)
   | (with_reducible exact LeO.refl _)
   | (with_reducible exact LeO.none _)
   | (with_reducible refine LeO.ite ?_ ?_)
   | (with_reducible refine LeO.bind ?_ (fun _ => ?_))
   | exact jsontext_check.mono _ _ _ _ _ _
   | exact LeO.none _
   | refine LeO.ite ?_ ?_
   | refine LeO.bind ?_ (fun _ => ?_)
set_option maxHeartbeats 8000000 in
set_option maxRecDepth 100000 in
theorem jsontext_Check.calls (k : Nat) (A0 : Option Addr) (c0 : Nat) (l0 : List (S24)) (r : Int) (w : World) (hGU8 : GlobU8 w) (hr0 : Kd.C k24 w A0 l0.length l0) (hc0 : l0.length ≤ c0) (h : jsontext_Check.f k l0 = some r) :
  Calls Tryd.prog 16 #[.slice A0 l0.length c0] w fun e w' => e = .returned (.int .i64 r) ∧ Below w.heap.size w w':=by
 have HGU8:=Aside0.mk hGU8
 clear hGU8
 have HR0:=Aside0.mk hr0
 have HC0:=Aside0.mk hc0
 clear hr0 hc0
 have HB:=Aside0.mk (Below.refl w.heap.size w)
 have H : (if (l0.length : Int) = 0 then (some 2) else (if 0 < (l0.length : Int) then (if ((rd_T24 l0 0).f1) = (l0.length : Int) then ((jsontext_check.f k l0 0 (l0.length : Int) false 0).bind fun t120 => (if t120 = true then (some 0) else (some 2))) else (some 2)) else (none))) = some r:=h
 clear h
 by_cases c2 : (l0.length : Int) = 0
 ·rw [if_pos c2] at H
  have c2b0 : ((l0.length : Int) == 0) = true:=beq_iff_eq.mpr c2
  have c2b1 : ((l0.length : Int) != 0) = false:=bne_eq_false_iff_eq.mpr c2
  clear c2
  obtain rfl:=Option.some.inj H
  go_enter Tryd.func16,Tryd.ntmps16
  go_wp2
  go_ret
  exact ⟨by first|rfl|(simp [errW_none,errW_some] <;> rfl)|(simp [*,errW_none,errW_some] <;> rfl),by repeat (first|(with_reducible first|exact HB.out|apply below_alloc|apply pw_below_drewN|apply below_drew1)|exact HB.out)⟩
 ·rw [if_neg c2] at H
  have c2b0 : ((l0.length : Int) == 0) = false:=beq_eq_false_iff_ne.mpr c2
  have c2b1 : ((l0.length : Int) != 0) = true:=bne_iff_ne.mpr c2
  have c2b2 : ¬ (l0 = []):=fun h_ => c2 (by rw [h_];rfl)
  by_cases c3 : 0 < (l0.length : Int)
  ·rw [if_pos c3] at H
   have c3b0 : decide (0 < (l0.length : Int)) = true:=decide_eq_true c3
   have c3b1 : decide (0 < l0.length) = true:=decide_eq_true (by omega)
   clear c3
   by_cases c4 : ((rd_T24 l0 0).f1) = (l0.length : Int)
   ·rw [if_pos c4] at H
    have c4b0 : (((rd_T24 l0 0).f1) == (l0.length : Int)) = true:=beq_iff_eq.mpr c4
    have c4b1 : (((rd_T24 l0 0).f1) != (l0.length : Int)) = false:=bne_eq_false_iff_eq.mpr c4
    clear c4
    replace H:=Option.bind_eq_some_iff.mp H
    obtain ⟨t120,A50,H⟩:=H
    replace H : (if t120 = true then (some 0) else (some 2)) = some r:=H
    have A5:=Aside0.mk A50
    clear A50
    by_cases c6 : t120 = true
    ·subst c6
     have H1 : (some 0) = some r:=by rw [if_pos rfl] at H;exact H
     clear H
     have H:=H1
     clear H1
     obtain rfl:=Option.some.inj H
     have p119 : 0 ≤ (0 : Int):=(by omega)
     have q119 : 0 < (l0.length : Int):=of_decide_eq_true (by first|(with_reducible assumption)|assumption)
     obtain ⟨ad119,e119,hx119_0,hx119_1,hx119_2,hx119_3,hx119_4⟩:=at_T24 HR0.out 0 p119 q119
     cases e119
     have qi119 : (0 < l0.length) = True:=eq_true (by omega)
     (try rw [show ((0 : Int)).toNat = 0 from rfl] at hx119_0)
     (try rw [show 0 * 5 = 0 from rfl] at hx119_0)
     (try rw [Addr.add_zero'] at hx119_0)
     (try rw [show ((0 : Int)).toNat = 0 from rfl] at hx119_1)
     (try rw [show 0 * 5 = 0 from rfl] at hx119_1)
     (try rw [Addr.add_zero'] at hx119_1)
     (try rw [show ((0 : Int)).toNat = 0 from rfl] at hx119_2)
     (try rw [show 0 * 5 = 0 from rfl] at hx119_2)
     (try rw [Addr.add_zero'] at hx119_2)
     (try rw [show ((0 : Int)).toNat = 0 from rfl] at hx119_3)
     (try rw [show 0 * 5 = 0 from rfl] at hx119_3)
     (try rw [Addr.add_zero'] at hx119_3)
     (try rw [show ((0 : Int)).toNat = 0 from rfl] at hx119_4)
     (try rw [show 0 * 5 = 0 from rfl] at hx119_4)
     (try rw [Addr.add_zero'] at hx119_4)
     replace p119:=eq_true p119
     replace q119:=eq_true q119
     go_enter Tryd.func16,Tryd.ntmps16
     go_wp2_with (first|(go_at_call 33;(with_reducible refine (jsontext_check.calls k _ _ l0 0 (l0.length : Int) false 0 true _ ?side3 ?side1 ?side2 A5.out).mono ?_);(case side1 => repeat (first|exact HR0.out|(with_reducible refine Kd.C_alloc ?_ _)|(with_reducible refine Kd.C_drewN ?_ _)|(with_reducible refine Kd.C_drew ?_)));(case side2 => exact HC0.out);(case side3 => first|exact HGU8.out|exact GlobU8.below HGU8.out (by repeat (first|(with_reducible first|exact HB.out|apply below_alloc|apply pw_below_drewN|apply below_drew1)|exact HB.out))|exact GlobU8.drawn HGU8.out (by repeat (first|exact Drawn0.refl _|apply Drawn0.step)));rintro e w7 ⟨rfl,hb⟩;have n0_:=Aside0.mk (below_step (by repeat (first|(with_reducible first|exact HB.out|apply below_alloc|apply pw_below_drewN|apply below_drew1)|exact HB.out)) hb);clear HB;have HB:=n0_;clear n0_;(try clear hb);(try clear hb2);(try clear hk);(try clear hi)))
     go_ret
     exact ⟨by first|rfl|(simp [errW_none,errW_some] <;> rfl)|(simp [*,errW_none,errW_some] <;> rfl),by repeat (first|(with_reducible first|exact HB.out|apply below_alloc|apply pw_below_drewN|apply below_drew1)|exact HB.out)⟩
    ·replace c6:=Bool.eq_false_iff.mpr c6
     subst c6
     have H1 : (some 2) = some r:=by rw [if_neg (show ¬ (false = true) by decide)] at H;exact H
     clear H
     have H:=H1
     clear H1
     obtain rfl:=Option.some.inj H
     have p119 : 0 ≤ (0 : Int):=(by omega)
     have q119 : 0 < (l0.length : Int):=of_decide_eq_true (by first|(with_reducible assumption)|assumption)
     obtain ⟨ad119,e119,hx119_0,hx119_1,hx119_2,hx119_3,hx119_4⟩:=at_T24 HR0.out 0 p119 q119
     cases e119
     have qi119 : (0 < l0.length) = True:=eq_true (by omega)
     (try rw [show ((0 : Int)).toNat = 0 from rfl] at hx119_0)
     (try rw [show 0 * 5 = 0 from rfl] at hx119_0)
     (try rw [Addr.add_zero'] at hx119_0)
     (try rw [show ((0 : Int)).toNat = 0 from rfl] at hx119_1)
     (try rw [show 0 * 5 = 0 from rfl] at hx119_1)
     (try rw [Addr.add_zero'] at hx119_1)
     (try rw [show ((0 : Int)).toNat = 0 from rfl] at hx119_2)
     (try rw [show 0 * 5 = 0 from rfl] at hx119_2)
     (try rw [Addr.add_zero'] at hx119_2)
     (try rw [show ((0 : Int)).toNat = 0 from rfl] at hx119_3)
     (try rw [show 0 * 5 = 0 from rfl] at hx119_3)
     (try rw [Addr.add_zero'] at hx119_3)
     (try rw [show ((0 : Int)).toNat = 0 from rfl] at hx119_4)
     (try rw [show 0 * 5 = 0 from rfl] at hx119_4)
     (try rw [Addr.add_zero'] at hx119_4)
     replace p119:=eq_true p119
     replace q119:=eq_true q119
     go_enter Tryd.func16,Tryd.ntmps16
     go_wp2_with (first|(go_at_call 33;(with_reducible refine (jsontext_check.calls k _ _ l0 0 (l0.length : Int) false 0 false _ ?side3 ?side1 ?side2 A5.out).mono ?_);(case side1 => repeat (first|exact HR0.out|(with_reducible refine Kd.C_alloc ?_ _)|(with_reducible refine Kd.C_drewN ?_ _)|(with_reducible refine Kd.C_drew ?_)));(case side2 => exact HC0.out);(case side3 => first|exact HGU8.out|exact GlobU8.below HGU8.out (by repeat (first|(with_reducible first|exact HB.out|apply below_alloc|apply pw_below_drewN|apply below_drew1)|exact HB.out))|exact GlobU8.drawn HGU8.out (by repeat (first|exact Drawn0.refl _|apply Drawn0.step)));rintro e w8 ⟨rfl,hb⟩;have n0_:=Aside0.mk (below_step (by repeat (first|(with_reducible first|exact HB.out|apply below_alloc|apply pw_below_drewN|apply below_drew1)|exact HB.out)) hb);clear HB;have HB:=n0_;clear n0_;(try clear hb);(try clear hb2);(try clear hk);(try clear hi)))
     go_ret
     exact ⟨by first|rfl|(simp [errW_none,errW_some] <;> rfl)|(simp [*,errW_none,errW_some] <;> rfl),by repeat (first|(with_reducible first|exact HB.out|apply below_alloc|apply pw_below_drewN|apply below_drew1)|exact HB.out)⟩
   ·rw [if_neg c4] at H
    have c4b0 : (((rd_T24 l0 0).f1) == (l0.length : Int)) = false:=beq_eq_false_iff_ne.mpr c4
    have c4b1 : (((rd_T24 l0 0).f1) != (l0.length : Int)) = true:=bne_iff_ne.mpr c4
    obtain rfl:=Option.some.inj H
    have p119 : 0 ≤ (0 : Int):=(by omega)
    have q119 : 0 < (l0.length : Int):=of_decide_eq_true (by first|(with_reducible assumption)|assumption)
    obtain ⟨ad119,e119,hx119_0,hx119_1,hx119_2,hx119_3,hx119_4⟩:=at_T24 HR0.out 0 p119 q119
    cases e119
    have qi119 : (0 < l0.length) = True:=eq_true (by omega)
    (try rw [show ((0 : Int)).toNat = 0 from rfl] at hx119_0)
    (try rw [show 0 * 5 = 0 from rfl] at hx119_0)
    (try rw [Addr.add_zero'] at hx119_0)
    (try rw [show ((0 : Int)).toNat = 0 from rfl] at hx119_1)
    (try rw [show 0 * 5 = 0 from rfl] at hx119_1)
    (try rw [Addr.add_zero'] at hx119_1)
    (try rw [show ((0 : Int)).toNat = 0 from rfl] at hx119_2)
    (try rw [show 0 * 5 = 0 from rfl] at hx119_2)
    (try rw [Addr.add_zero'] at hx119_2)
    (try rw [show ((0 : Int)).toNat = 0 from rfl] at hx119_3)
    (try rw [show 0 * 5 = 0 from rfl] at hx119_3)
    (try rw [Addr.add_zero'] at hx119_3)
    (try rw [show ((0 : Int)).toNat = 0 from rfl] at hx119_4)
    (try rw [show 0 * 5 = 0 from rfl] at hx119_4)
    (try rw [Addr.add_zero'] at hx119_4)
    replace p119:=eq_true p119
    replace q119:=eq_true q119
    go_enter Tryd.func16,Tryd.ntmps16
    go_wp2
    go_ret
    exact ⟨by first|rfl|(simp [errW_none,errW_some] <;> rfl)|(simp [*,errW_none,errW_some] <;> rfl),by repeat (first|(with_reducible first|exact HB.out|apply below_alloc|apply pw_below_drewN|apply below_drew1)|exact HB.out)⟩
  ·rw [if_neg c3] at H
   exact absurd H (by simp)
end Go.Proofs.YtjehflambbjoaaaDoor.X
namespace Go.Proofs.YtjehflambbjoaaaDoor.X
set_option linter.unusedVariables false
def mark (c : UInt8) : Option UInt8 :=
 if c = 34 then some 34 else if c = 92 then some 92 else if c = 8 then some 98 else if c = 12 then some 102
 else if c = 10 then some 110 else if c = 13 then some 114 else if c = 9 then some 116 else none
def hexd (n : Nat) : UInt8:=[48,49,50,51,52,53,54,55,56,57,97,98,99,100,101,102].getD n 0
def esc1 (c : UInt8) : Bs:=match mark c with
 | some m => [92,m]
 | none => if c.toNat < 32 then [92,117,48,48,hexd (c.toNat / 16),hexd (c.toNat % 16)] else [c]
def quote (l : Bs) : Bs:=34 :: (l.flatMap esc1 ++ [34])
def ltx (kind : Int) (t : Bs) : Bs :=
 if kind = 1 then [110,117,108,108] else if kind = 2 then [116,114,117,101] else if kind = 3 then [102,97,108,115,101]
 else if kind = 4 then t else quote t
def F.out : F → Bool → Bool → Bs
 | .nil,_,_ => []
 | .leaf k d t r,ob,first => (if first then [] else [44]) ++ (if ob then quote k ++ [58] else []) ++ ltx d t ++ r.out ob false
 | .node k d ks r,ob,first => (if first then [] else [44]) ++ (if ob then quote k ++ [58] else []) ++ (if d = 7 then 123 :: (ks.out true true ++ [125]) else 91 :: (ks.out false true ++ [93])) ++ r.out ob false
def F.txt (f : F) : Bs:=f.out false true
end Go.Proofs.YtjehflambbjoaaaDoor.X
namespace Go.Proofs.YtjehflambbjoaaaDoor.X
open Go.RowKit Go.Proofs.YtjehflambbjoaaaDoorW.PrintWords
set_option linter.unusedVariables false
set_option linter.unusedSimpArgs false
def escB : ByteArray:=⟨#[34,92,98,102,110,114,116]⟩
theorem idx_esc (c : UInt8) : match mark c with
  | some m => ∃ j : Nat,Lib.indexByte [34,92,8,12,10,13,9] c = (j : Int) ∧ j < 7 ∧ (∀ h : j < escB.size,escB[j]'h = m) ∧ (Utf8.encode (m.toNat : Int)).data.toList = [m]
  | none => Lib.indexByte [34,92,8,12,10,13,9] c = -1:=by
 have:=all_bytes (p:=fun c => match mark c with
  | some m => decide (0 ≤ Lib.indexByte [34,92,8,12,10,13,9] c) && decide ((Lib.indexByte [34,92,8,12,10,13,9] c).toNat < 7) && decide (escB.data.toList.getD (Lib.indexByte [34,92,8,12,10,13,9] c).toNat 0 = m) && decide ((Utf8.encode (m.toNat : Int)).data.toList = [m])
  | none => decide (Lib.indexByte [34,92,8,12,10,13,9] c = -1)) (by decide +kernel) c
 revert this
 cases mark c with
 | none => simp
 | some m =>
  simp only [Bool.and_eq_true,decide_eq_true_eq]
  rintro ⟨⟨⟨h0,h1⟩,h2⟩,h3⟩
  refine ⟨(Lib.indexByte [34,92,8,12,10,13,9] c).toNat,by omega,h1,fun h => ?_,h3⟩
  rw [← h2,List.getD_eq_getElem?_getD,List.getElem?_eq_getElem (by simpa using h)]
  rfl
theorem esc_len (c : UInt8) : (esc1 c).length ≤ 6:=by
 unfold esc1
 split
 ·simp
 ·split <;> simp
theorem esc_all (l : Bs) : (l.flatMap esc1).length ≤ 6 * l.length:=by
 induction l with
 | nil => simp
 | cons c l ih =>
  have:=esc_len c
  simp only [List.flatMap_cons,List.length_append,List.length_cons]
  omega
theorem idx_ofC (s : ByteArray) (c : UInt8) (C : Int) (hC : C = (c.toNat : Int)) (r : Int) (w : World) (h : Lib.indexByte s.data.toList c = r) :
  Calls Tryd.prog 63 #[.string s,.int .u8 C] w fun e w' => e = .returned (.int .i64 r) ∧ w' = w:=by
 subst hC
 exact idx_of s c r w h
theorem and15 (c : UInt8) : bits .and .u8 (c.toNat : Int) 15 = ((c.toNat % 16 : Nat) : Int):=by
 have:=all_bytes (p:=fun c => decide (bits .and .u8 (c.toNat : Int) 15 = ((c.toNat % 16 : Nat) : Int))) (by decide +kernel) c
 simpa using this
theorem hexd_enc (n : Nat) (h : n < 16) : ∃ M : Int,M = ((hexd n).toNat : Int) ∧ (Utf8.encode M).data.toList = [hexd n]:=by
 refine ⟨_,rfl,?_⟩
 have : ∀ n,n < 16 → (Utf8.encode ((hexd n).toNat : Int)).data.toList = [hexd n]:=by decide +kernel
 exact this n h
theorem hex_two (n : Nat) (h : n < 2) (h' : n < ByteArray.size ⟨#[48,49]⟩) : (((⟨#[48,49]⟩ : ByteArray)[n]'h').toNat : Int) = ((hexd n).toNat : Int):=by
 match n,h with
 | 0,_ => rfl
 | 1,_ => rfl
theorem hex_all (n : Nat) (h : n < 16) (h' : n < ByteArray.size ⟨#[48,49,50,51,52,53,54,55,56,57,97,98,99,100,101,102]⟩) : (((⟨#[48,49,50,51,52,53,54,55,56,57,97,98,99,100,101,102]⟩ : ByteArray)[n]'h').toNat : Int) = ((hexd n).toNat : Int):=by
 have : ∀ n : Fin 16,((((⟨#[48,49,50,51,52,53,54,55,56,57,97,98,99,100,101,102]⟩ : ByteArray)[n.val]'n.isLt).toNat : Int) = ((hexd n.val).toNat : Int)):=by decide +kernel
 exact this ⟨n,h⟩
set_option maxHeartbeats 4000000 in
set_option maxRecDepth 100000 in
theorem quote_calls (B b : Nat) (s : ByteArray) (acc : Bs) (w : World) (hlen : acc.length + 6 * s.size + 2 ≤ 140737488355328) (hb : Bld B b acc w) :
  Calls Tryd.prog 52 #[.pointer (some ⟨b,0,none⟩),.string s] w fun e w' => e = .returned (.tuple #[]) ∧ Bld B b (acc ++ quote s.data.toList) w' ∧ Below B w w' ∧ Spare b w w':=by
 have HB:=Lib.hid hb
 have hlt:=hb.lt
 have HL:=Lib.hid hlen
 clear hb hlen
 go_enter Tryd.func52,Tryd.ntmps52
 go_wp2_with (go_at_call 45;refine (writeByte_spare B b acc 34 _ HB.out (by have:=HL.out;omega) HB.out.lt).mono ?_;rintro e w1 ⟨⟨x,rfl⟩,hb1,hbel1,hs1⟩;have HS1:=Lib.hid hs1;clear hs1;have HB1 : Hid (Bld B b (acc ++ [34]) w1):=Lib.hid hb1;have HBEL1:=Lib.hid hbel1;clear hb1 hbel1)
 go_loopg [11] s.size (fun k x wr => ∃ (q : Nat) (m : Bs) (o : Bs),x = .int .i64 (q : Int) ∧ Hid (At s q m ∧ o ++ m.flatMap esc1 = s.data.toList.flatMap esc1 ∧ m.length ≤ k ∧ o.length ≤ 6 * q) ∧ Hid (Bld B b (acc ++ [34] ++ o) wr) ∧ Hid (Below B w wr ∧ Spare b w wr))
 case atStart => exact ⟨0,s.data.toList,[],rfl,Lib.hid ⟨At.start s,by simp,by simp,by simp⟩,Lib.hid (by simpa using HB1.out),Lib.hid ⟨HBEL1.out,HS1.out⟩⟩
 case round =>
  obtain ⟨q,m,o,rfl,HM,HBR,HBL⟩:=hrel
  cases m with
  | nil =>
   obtain ⟨d1,d2⟩:=at_ge HM.out.1
   go_wp2_with (go_at_call 45;refine (writeByte_spare B b (acc ++ [34] ++ o) 34 _ HBR.out (by have:=HL.out;have:=HM.out.2.2.2;have:=HM.out.1.len;simp;omega) HBR.out.lt).mono ?_;rintro e w2 ⟨⟨x,rfl⟩,hb2,hbel2,hs2⟩;have HS2:=Lib.hid hs2;clear hs2;have HB2 : Hid (Bld B b (acc ++ [34] ++ o ++ [34]) w2):=Lib.hid hb2;have HBEL2:=Lib.hid hbel2;clear hb2 hbel2)
   go_end0
   refine ⟨rfl,?_,HBL.out.1.trans HBEL2.out,HBL.out.2.trans HS2.out⟩
   have he:=HM.out.2.1
   simp only [List.flatMap_nil,List.append_nil] at he
   rw [quote,← he]
   simpa using HB2.out
  | cons c m =>
   obtain ⟨d1,d2⟩:=at_lt HM.out.1
   have hlt:=HM.out.1.lt
   have hx:=HM.out.1.byte
   have hi:=idx_esc c
   have HCL : Hid ((acc ++ [34] ++ o).length + 6 ≤ 140737488355328):=Lib.hid (by have:=HL.out;have:=HM.out.2.2.2;have:=HM.out.1.lt;simp;omega)
   have HQ : Hid (q < 140737488355328):=Lib.hid (by have:=HL.out;omega)
   have NEXT : ∀ (wx : World),Bld B b (acc ++ [34] ++ o ++ esc1 c) wx → (Below B w wx ∧ Spare b w wx) → ∃ (q' : Nat) (m' : Bs) (o' : Bs),Value.int .i64 (wrap64 ((q : Int) + 1)) = .int .i64 (q' : Int) ∧ Hid (At s q' m' ∧ o' ++ m'.flatMap esc1 = s.data.toList.flatMap esc1 ∧ m'.length ≤ m.length ∧ o'.length ≤ 6 * q') ∧ Hid (Bld B b (acc ++ [34] ++ o') wx) ∧ Hid (Below B w wx ∧ Spare b w wx):=by
    intro wx hbx hlx
    refine ⟨q + 1,m,o ++ esc1 c,by rw [show wrap64 ((q : Int) + 1) = (q : Int) + 1 by have:=HQ.out;unfold wrap64;omega];simp,Lib.hid ⟨HM.out.1.next,?_,Nat.le_refl _,?_⟩,Lib.hid (by simpa using hbx),Lib.hid hlx⟩
    ·have:=HM.out.2.1
     simpa using this
    ·have:=HM.out.2.2.2
     have:=esc_len c
     simp
     omega
   have HN:=Lib.hid NEXT
   clear NEXT
   cases hu : mark c with
   | some mm =>
    rw [hu] at hi
    obtain ⟨j,hj,hj7,hm,hen⟩:=hi
    have HJ:=Lib.hid hj
    have hE : esc1 c = [92,mm]:=by rw [esc1,hu]
    have HE:=Lib.hid hE
    obtain ⟨M,hM⟩ : ∃ M : Int,M = (mm.toNat : Int):=⟨_,rfl⟩
    have hmx : ∀ h : j < ByteArray.size ⟨#[34,92,98,102,110,114,116]⟩,(((⟨#[34,92,98,102,110,114,116]⟩ : ByteArray)[j]'h).toNat : Int) = M:=fun h => by
     have:=hm h
     unfold escB at this
     rw [this,hM]
    rw [← hM] at hen
    have hz : (Utf8.encode M).size = 1:=by
     have:=congrArg List.length hen
     simpa using this
    have HEN:=Lib.hid hen
    have w1 : (0 ≤ (j : Int)) = True:=eq_true (by omega)
    have w2 : ((j : Int) < 7) = True:=eq_true (by omega)
    clear hj hu hm hE hen hM
    go_wp2_with (first
     | (go_at_call 63;refine (idx_of _ c (j : Int) _ HJ.out).mono ?_;rintro e w1 ⟨rfl,rfl⟩))
    go_wp2_with (first
     | (go_at_call 50;refine (writeStr_spare B b (acc ++ [34] ++ o) [92,mm] _ _ HBR.out (by simp [HEN.out]) (by have:=HCL.out;simp only [List.length_cons,List.length_nil];omega) HBR.out.lt).mono ?_;rintro e w3 ⟨⟨y,rfl⟩,hb3,hbel3,hs3⟩;have HS3:=Lib.hid hs3;clear hs3;have HB3 : Hid (Bld B b (acc ++ [34] ++ o ++ [92,mm]) w3):=Lib.hid hb3;have HBEL3:=Lib.hid hbel3;clear hb3 hbel3))
    go_roundg m.length
    case measure => have:=HM.out.2.2.1;simp at this;omega
    case rel => exact HN.out _ (by rw [HE.out];exact HB3.out) ⟨HBL.out.1.trans HBEL3.out,HBL.out.2.trans (HS3.out)⟩
   | none =>
    rw [hu] at hi
    have HI : Hid (Lib.indexByte [34,92,8,12,10,13,9] c = -1):=Lib.hid hi
    by_cases hc : c.toNat < 32
    ·have hE : esc1 c = [92,117,48,48,hexd (c.toNat / 16),hexd (c.toNat % 16)]:=by rw [esc1,hu];simp only;rw [if_pos hc]
     have HE:=Lib.hid hE
     obtain ⟨C,hC⟩ : ∃ C : Int,C = (c.toNat : Int):=⟨_,rfl⟩
     have hd : decide (C < 32) = true:=decide_eq_true (by omega)
     have hC0 : 0 ≤ C:=by omega
     have hC1 : C < 32:=by omega
     have HD:=Lib.hid hc
     obtain ⟨a,haN⟩ : ∃ a : Nat,a = c.toNat / 16:=⟨_,rfl⟩
     obtain ⟨d,hdN⟩ : ∃ d : Nat,d = c.toNat % 16:=⟨_,rfl⟩
     have hdv : C / 16 = (a : Int):=by omega
     have hmd : bits .and .u8 C 15 = (d : Int):=by rw [hC,hdN];exact and15 c
     obtain ⟨MA,ea1,ea2⟩:=hexd_enc a (by omega)
     obtain ⟨MD,ed1,ed2⟩:=hexd_enc d (by omega)
     have hma : ∀ h : a < ByteArray.size ⟨#[48,49]⟩,(((⟨#[48,49]⟩ : ByteArray)[a]'h).toNat : Int) = MA:=fun h => ea1 ▸ hex_two a (by omega) h
     have hmb : ∀ h : d < ByteArray.size ⟨#[48,49,50,51,52,53,54,55,56,57,97,98,99,100,101,102]⟩,(((⟨#[48,49,50,51,52,53,54,55,56,57,97,98,99,100,101,102]⟩ : ByteArray)[d]'h).toNat : Int) = MD:=fun h => ed1 ▸ hex_all d (by omega) h
     have hza : (Utf8.encode MA).size = 1:=by
      have:=congrArg List.length ea2
      simpa using this
     have hzd : (Utf8.encode MD).size = 1:=by
      have:=congrArg List.length ed2
      simpa using this
     have v1 : (0 ≤ (a : Int)) = True:=eq_true (by omega)
     have v2 : ((a : Int) < 2) = True:=eq_true (by omega)
     have v3 : (0 ≤ (d : Int)) = True:=eq_true (by omega)
     have v4 : ((d : Int) < 16) = True:=eq_true (by omega)
     have EA2:=Lib.hid ea2
     have ED2:=Lib.hid ed2
     have HA:=Lib.hid haN
     have HDN:=Lib.hid hdN
     rw [← hC] at hx
     clear ea1 ea2 ed1 ed2 haN hdN
     have HCC:=Lib.hid hC
     clear hi hu hE hc hC
     go_wp2_with (first
      | (go_at_call 63;refine (idx_ofC _ c C HCC.out (-1) _ HI.out).mono ?_;rintro e w1 ⟨rfl,rfl⟩))
     go_region_held3 (fun _ => True) (trivial) ((go_at_call 50;refine (writeStr_spare B b (acc ++ [34] ++ o) [92,117,48,48,hexd (c.toNat / 16),hexd (c.toNat % 16)] _ _ (HBR.out.drawn (by repeat (first|exact Drawn0.refl _|apply Drawn0.step|apply drawn_drew))) (by rw [← HA.out,← HDN.out];simp [EA2.out,ED2.out]) (by have:=HCL.out;simp only [List.length_cons,List.length_nil];omega) (HBR.out.drawn (by repeat (first|exact Drawn0.refl _|apply Drawn0.step|apply drawn_drew))).lt).mono ?_;rintro e w3 ⟨⟨y,rfl⟩,hb3,hbel3,hs3⟩;have HS3:=Lib.hid hs3;clear hs3;have HB3 : Hid (Bld B b (acc ++ [34] ++ o ++ [92,117,48,48,hexd (c.toNat / 16),hexd (c.toNat % 16)]) w3):=Lib.hid hb3;have HBEL3 : Hid (Below B w1 w3):=Lib.hid (((Drawn0.below (by repeat (first|exact Drawn0.refl _|apply Drawn0.step|apply drawn_drew))).mono HBR.out.lt).trans hbel3);clear hb3 hbel3))
     all_goals
      go_wp2_with fail
      go_roundg m.length
      case measure => have:=HM.out.2.2.1;simp at this;omega
      case rel => exact HN.out _ (by rw [HE.out];exact HB3.out) ⟨HBL.out.1.trans HBEL3.out,HBL.out.2.trans ((Spare.drawn (by repeat (first|exact Drawn0.refl _|apply Drawn0.step|apply drawn_drew))).trans HS3.out)⟩
    ·have hE : esc1 c = [c]:=by rw [esc1,hu];simp only;rw [if_neg hc]
     have HE:=Lib.hid hE
     have hd : decide ((c.toNat : Int) < 32) = false:=decide_eq_false (by omega)
     clear hi hu hE
     go_wp2_with (first
      | (go_at_call 63;refine (idx_of _ c (-1) _ HI.out).mono ?_;rintro e w1 ⟨rfl,rfl⟩)
      | (go_at_call 45;refine (writeByte_spare B b (acc ++ [34] ++ o) c _ HBR.out (by have:=HCL.out;omega) HBR.out.lt).mono ?_;rintro e w3 ⟨⟨y,rfl⟩,hb3,hbel3,hs3⟩;have HS3:=Lib.hid hs3;clear hs3;have HB3 : Hid (Bld B b (acc ++ [34] ++ o ++ [c]) w3):=Lib.hid hb3;have HBEL3:=Lib.hid hbel3;clear hb3 hbel3))
     go_roundg m.length
     case measure => have:=HM.out.2.2.1;simp at this;omega
     case rel => exact HN.out _ (by rw [HE.out];exact HB3.out) ⟨HBL.out.1.trans HBEL3.out,HBL.out.2.trans (HS3.out)⟩
end Go.Proofs.YtjehflambbjoaaaDoor.X
namespace Go.Proofs.YtjehflambbjoaaaDoor.X
open Go.RowKit Go.Proofs.YtjehflambbjoaaaDoorW.PrintWords
set_option linter.unusedVariables false
set_option linter.unusedSimpArgs false
theorem str_list (t : Bs) : (str t).data.toList = t:=rfl
theorem str_size (t : Bs) : (str t).size = t.length:=by rw [← ByteArray.size_data];rfl
theorem esc_pos (c : UInt8) : 1 ≤ (esc1 c).length:=by
 unfold esc1
 split
 ·simp
 ·split <;> simp
theorem quote_ge (l : Bs) : l.length ≤ (quote l).length:=by
 have : l.length ≤ (l.flatMap esc1).length:=by
  induction l with
  | nil => simp
  | cons c l ih =>
   have:=esc_pos c
   simp only [List.flatMap_cons,List.length_append,List.length_cons]
   omega
 simp only [quote,List.length_cons,List.length_append,List.length_nil]
 omega
def F.trees : F → List F
 | .nil => []
 | .leaf k d t r => .leaf k d t .nil :: r.trees
 | .node k d ks r => .node k d ks .nil :: r.trees
abbrev big : Nat:=17592186044416
def WriteOk (t : F) : Prop:=∀ (B b : Nat) (A : Option Addr) (cp : Nat) (pre post : List Nd) (acc : Bs) (w0 w : World),(pre ++ t.flat ++ post).length ≤ cp → (pre ++ t.flat ++ post).length ≤ 1099511627776 → acc.length + (t.out false true).length ≤ big →
 Kd.C kN w0 A (pre ++ t.flat ++ post).length (pre ++ t.flat ++ post) → w0.heap.size ≤ B → Below w0.heap.size w0 w → Bld B b acc w →
 Calls Tryd.prog 37 #[.pointer (some ⟨b,0,none⟩),.slice A (pre ++ t.flat ++ post).length cp,.int .i64 (pre.length : Int)] w fun e w' => e = .returned (.int .i64 ((pre.length + t.flat.length : Nat) : Int)) ∧ Bld B b (acc ++ t.out false true) w' ∧ Below B w w' ∧ Spare b w w'
theorem Bld.blt {B b : Nat} {l : Bs} {w : World} (h : Bld B b l w) : b < w.heap.size:=by
 rcases h with ⟨hB,v,hb,_⟩|⟨hB,v,hb,_⟩ <;> exact (Array.getElem?_eq_some_iff.mp hb).1
theorem node_at {w0 w : World} {A : Option Addr} {pre post : List Nd} {x : Nd} (h : Kd.C kN w0 A (pre ++ x :: post).length (pre ++ x :: post)) (hb : Below w0.heap.size w0 w) :
  ∃ ad,A = some ad ∧ w.cell? (ad.add (pre.length * 5)) = some (.int .i64 x.f0) ∧ w.cell? ⟨(ad.add (pre.length * 5)).block,(ad.add (pre.length * 5)).off + 1,none⟩ = some (.int .i64 x.f1) ∧ w.cell? ⟨(ad.add (pre.length * 5)).block,(ad.add (pre.length * 5)).off + 2,none⟩ = some (.int .i64 x.f2) ∧ w.cell? ⟨(ad.add (pre.length * 5)).block,(ad.add (pre.length * 5)).off + 3,none⟩ = some (.string x.f3) ∧ w.cell? ⟨(ad.add (pre.length * 5)).block,(ad.add (pre.length * 5)).off + 4,none⟩ = some (.string x.f4):=by
 have h1:=Kd.C_below h hb
 obtain ⟨ad,e,h0,h1,h2,h3,h4⟩:=at_T24 h1 (pre.length : Int) (by omega) (by simp;omega)
 have hx : rd_T24 (pre ++ x :: post) (pre.length : Int) = x:=by simp [rd_T24]
 rw [hx] at h0 h1 h2 h3 h4
 exact ⟨ad,e,h0,h1,h2,h3,h4⟩
set_option maxHeartbeats 4000000 in
set_option maxRecDepth 100000 in
theorem write_leaf (k : Bs) (d : Int) (t : Bs) (hd : 1 ≤ d ∧ d ≤ 5) : WriteOk (.leaf k d t .nil):=by
 intro B b A cp pre post acc w0 w hcp hlen hbig hC hB hbel hbld
 simp only [F.flat,List.append_assoc,List.cons_append,List.nil_append] at hcp hlen hC ⊢
 obtain ⟨ad,rfl,k0,k1,k2,k3,k4⟩:=node_at hC hbel
 simp only at k0 k1 k2 k3 k4
 generalize hN : (pre ++ (⟨d,1,0,str k,str t⟩ : Nd) :: post).length = N at hcp hlen hC
 have hp : pre.length < N:=by rw [← hN];simp
 have p1 : (0 ≤ (pre.length : Int)) = True:=eq_true (by omega)
 have p2 : ((pre.length : Int) < (N : Int)) = True:=eq_true (by omega)
 have HBIG:=Lib.hid hbig
 have HBLD:=Lib.hid hbld
 have HL:=Lib.hid hlen
 clear hbig hbld hC hbel hN hlen
 have hal:=heap_alloc_new w (.cells #[.int .i64 d,.int .i64 1,.int .i64 0,.string (str k),.string (str t)] 24 (0,0))
 have hbw : Below w.heap.size w (w.alloc (.cells #[.int .i64 d,.int .i64 1,.int .i64 0,.string (str k),.string (str t)] 24 (0,0))):=(Below.refl _ _).alloc (Nat.le_refl _) _
 have x0:=(blk_cell hal 0).trans (rfl : _ = some (Value.int .i64 d))
 have x1:=(blk_cell hal 1).trans (rfl : _ = some (Value.int .i64 1))
 have x4:=(blk_cell hal 4).trans (rfl : _ = some (Value.string (str t)))
 have HBN : Hid (Bld B b acc (w.alloc (.cells #[.int .i64 d,.int .i64 1,.int .i64 0,.string (str k),.string (str t)] 24 (0,0)))):=Lib.hid (HBLD.out.below hbw)
 have HBW:=Lib.hid (hbw.mono HBLD.out.lt)
 have HBA:=Lib.hid hbw
 have HLT:=Lib.hid (blk_lt hal)
 have HXX:=Lib.hid hal
 have hcase : d = 1 ∨ d = 2 ∨ d = 3 ∨ d = 4 ∨ d = 5:=by omega
 have HO : Hid ((F.leaf k d t .nil).out false true = ltx d t):=Lib.hid (by simp [F.out])
 rw [HO.out]
 have HBG : Hid (acc.length + (ltx d t).length ≤ 17592186044416):=Lib.hid (by have:=HBIG.out;rw [HO.out] at this;exact this)
 clear hal hbw HBIG HO
 have n1 : wrap64 ((pre.length : Int) + 1) = (pre.length : Int) + 1:=by have:=HL.out;unfold wrap64;omega
 have HW1:=Lib.hid n1
 have HNE : Hid (w.heap.size ≠ b):=Lib.hid (by have:=HBLD.out.blt;omega)
 clear n1
 rcases hcase with rfl|rfl|rfl|rfl|rfl
 ·clear x4
  go_enter Tryd.func37,Tryd.ntmps37
  go_wp2_with (go_at_call 50;refine (writeStr_spare B b acc ([110,117,108,108]) _ _ HBN.out rfl (by have:=HBG.out;simp [ltx] at this ⊢;omega) HBN.out.lt).mono ?_;rintro e w3 ⟨⟨y,rfl⟩,hb3,hbel3,hs3⟩;have HB3 : Hid (Bld B b (acc ++ [110,117,108,108]) w3):=Lib.hid hb3;have HBEL3:=Lib.hid hbel3;have HS3:=Lib.hid hs3;have y1 : w3.cell? ⟨w.heap.size,1,none⟩ = some (.int .i64 1):=(blk_cell (hs3.cells HXX.out (by decide) HNE.out) 1).trans rfl;clear hb3 hbel3 hs3)
  go_ret
  rw [HW1.out]
  exact ⟨rfl,HB3.out,HBW.out.trans HBEL3.out,(Spare.of_below (HBA.out)).trans HS3.out⟩
 ·clear x4
  go_enter Tryd.func37,Tryd.ntmps37
  go_wp2_with (go_at_call 50;refine (writeStr_spare B b acc ([116,114,117,101]) _ _ HBN.out rfl (by have:=HBG.out;simp [ltx] at this ⊢;omega) HBN.out.lt).mono ?_;rintro e w3 ⟨⟨y,rfl⟩,hb3,hbel3,hs3⟩;have HB3 : Hid (Bld B b (acc ++ [116,114,117,101]) w3):=Lib.hid hb3;have HBEL3:=Lib.hid hbel3;have HS3:=Lib.hid hs3;have y1 : w3.cell? ⟨w.heap.size,1,none⟩ = some (.int .i64 1):=(blk_cell (hs3.cells HXX.out (by decide) HNE.out) 1).trans rfl;clear hb3 hbel3 hs3)
  go_ret
  rw [HW1.out]
  exact ⟨rfl,HB3.out,HBW.out.trans HBEL3.out,(Spare.of_below (HBA.out)).trans HS3.out⟩
 ·clear x4
  go_enter Tryd.func37,Tryd.ntmps37
  go_wp2_with (go_at_call 50;refine (writeStr_spare B b acc ([102,97,108,115,101]) _ _ HBN.out rfl (by have:=HBG.out;simp [ltx] at this ⊢;omega) HBN.out.lt).mono ?_;rintro e w3 ⟨⟨y,rfl⟩,hb3,hbel3,hs3⟩;have HB3 : Hid (Bld B b (acc ++ [102,97,108,115,101]) w3):=Lib.hid hb3;have HBEL3:=Lib.hid hbel3;have HS3:=Lib.hid hs3;have y1 : w3.cell? ⟨w.heap.size,1,none⟩ = some (.int .i64 1):=(blk_cell (hs3.cells HXX.out (by decide) HNE.out) 1).trans rfl;clear hb3 hbel3 hs3)
  go_ret
  rw [HW1.out]
  exact ⟨rfl,HB3.out,HBW.out.trans HBEL3.out,(Spare.of_below (HBA.out)).trans HS3.out⟩
 ·go_enter Tryd.func37,Tryd.ntmps37
  go_wp2_with (go_at_call 50;refine (writeStr_spare B b acc (t) _ _ HBN.out rfl (by have:=HBG.out;simp [ltx] at this ⊢;omega) HBN.out.lt).mono ?_;rintro e w3 ⟨⟨y,rfl⟩,hb3,hbel3,hs3⟩;have HB3 : Hid (Bld B b (acc ++ t) w3):=Lib.hid hb3;have HBEL3:=Lib.hid hbel3;have HS3:=Lib.hid hs3;have y1 : w3.cell? ⟨w.heap.size,1,none⟩ = some (.int .i64 1):=(blk_cell (hs3.cells HXX.out (by decide) HNE.out) 1).trans rfl;clear hb3 hbel3 hs3)
  go_ret
  rw [HW1.out]
  exact ⟨rfl,HB3.out,HBW.out.trans HBEL3.out,(Spare.of_below (HBA.out)).trans HS3.out⟩
 ·go_enter Tryd.func37,Tryd.ntmps37
  go_wp2_with (go_at_call 52;refine (quote_calls B b (str t) acc _ (by rw [str_size];have h5:=HBG.out;have h6:=quote_ge t;simp [ltx] at h5;omega) HBN.out).mono ?_;rintro e w3 ⟨rfl,hb3,hbel3,hs3⟩;rw [str_list] at hb3;have HB3 : Hid (Bld B b (acc ++ (quote t)) w3):=Lib.hid hb3;have HBEL3:=Lib.hid hbel3;have HS3:=Lib.hid hs3;have y1 : w3.cell? ⟨w.heap.size,1,none⟩ = some (.int .i64 1):=(blk_cell (hs3.cells HXX.out (by decide) HNE.out) 1).trans rfl;clear hb3 hbel3 hs3)
  go_ret
  rw [HW1.out]
  exact ⟨rfl,HB3.out,HBW.out.trans HBEL3.out,(Spare.of_below (HBA.out)).trans HS3.out⟩
end Go.Proofs.YtjehflambbjoaaaDoor.X
