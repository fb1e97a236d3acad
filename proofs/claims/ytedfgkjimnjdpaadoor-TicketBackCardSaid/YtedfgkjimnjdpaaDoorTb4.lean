/-
  What the claim's law rests on, part 4 of 6: printed walks, externals, plain lemmas; conditions: none of its own.
-/
import Derived.Lib.Hide
import Derived.Lib.ReflectliteSwap
import Derived.StillTailTactics
import Derived.Test.YtedfgkjimnjdpaaDoorProg
import Derived.WalkKit
import Derived.WalkLawsBesides
import Derived.WalkSpells
import Derived.Test.YtedfgkjimnjdpaaDoorTb3
namespace Go.Proofs.YtedfgkjimnjdpaaDoor.X
open Go.RowKit Go.Proofs.YtedfgkjimnjdpaaDoorW.PrintWords Go.Proofs.YtedfgkjimnjdpaaDoorW.PrintLast Go.Proofs.YtedfgkjimnjdpaaDoorW.PrintMore
set_option linter.unusedVariables false
set_option linter.unusedSimpArgs false
theorem infoB_parts : ∃ i,Tryd.prog.info? 5 = some i ∧ i.size = 1:=by
 obtain ⟨i,h1,_,h2,_⟩:=info_parts infoB
 exact ⟨i,h1,h2⟩
theorem cut_mid (A : Option Addr) (c : Nat) (l : List Int) (a b : Nat) (hab : a ≤ b) (hb : b ≤ l.length) (hc : l.length ≤ c) : ∃ A',(∀ W : World,(Instr.slice 49 (.slice A l.length c) (some (.int .i64 (a : Int))) (some (.int .i64 (b : Int))) none).run Tryd.prog W = .ok (.slice A' ((l.take b).drop a).length (c - a)) W) ∧
  (∀ w : World,Kd.C (Kd.int .u8) w A l.length l → Kd.C (Kd.int .u8) w A' ((l.take b).drop a).length ((l.take b).drop a)) ∧ ((l.take b).drop a).length ≤ c - a:=by
 obtain ⟨i,h1,h2⟩:=infoB_parts
 obtain ⟨A',q1,q2,q3⟩:=print_mid_of (P:=Tryd.prog) (Value.int .u8) (0 : Int) 49 5 .i64 .i64 Tryd.underlying49 h1 h2 A c l (a : Int) (b : Int) (by omega) (by omega) (by omega) hc
 exact ⟨A',q1,fun w h => Kd.C_of_reads (h1:=fun _ => rfl) (q2 w (Kd.reads_of_C h)),q3⟩
theorem cut_drop (A : Option Addr) (c : Nat) (l : List Int) (a : Nat) (ha : a ≤ l.length) (hc : l.length ≤ c) : ∃ A',(∀ W : World,(Instr.slice 49 (.slice A l.length c) (some (.int .i64 (a : Int))) none none).run Tryd.prog W = .ok (.slice A' (l.drop a).length (c - a)) W) ∧
  (∀ w : World,Kd.C (Kd.int .u8) w A l.length l → Kd.C (Kd.int .u8) w A' (l.drop a).length (l.drop a)) ∧ (l.drop a).length ≤ c - a:=by
 obtain ⟨i,h1,h2⟩:=infoB_parts
 obtain ⟨A',q1,q2,q3⟩:=print_drop_of (P:=Tryd.prog) (Value.int .u8) (0 : Int) 49 5 .i64 Tryd.underlying49 h1 h2 A c l (a : Int) (by omega) (by omega) hc
 exact ⟨A',q1,fun w h => Kd.C_of_reads (h1:=fun _ => rfl) (q2 w (Kd.reads_of_C h)),q3⟩
theorem cut_take (A : Option Addr) (c : Nat) (l : List Int) (b : Nat) (hb : b ≤ l.length) (hc : l.length ≤ c) : (∀ W : World,(Instr.slice 49 (.slice A l.length c) none (some (.int .i64 (b : Int))) none).run Tryd.prog W = .ok (.slice A (l.take b).length c) W) ∧
  (∀ w : World,Kd.C (Kd.int .u8) w A l.length l → Kd.C (Kd.int .u8) w A (l.take b).length (l.take b)) ∧ (l.take b).length ≤ c:=by
 obtain ⟨i,h1,h2⟩:=infoB_parts
 obtain ⟨q1,q2,q3⟩:=print_take_of (P:=Tryd.prog) (Value.int .u8) (0 : Int) 49 5 .i64 Tryd.underlying49 h1 h2 A c l (b : Int) (by omega) (by omega) hc
 exact ⟨q1,fun w h => Kd.C_of_reads (h1:=fun _ => rfl) (q2 w (Kd.reads_of_C h)),q3⟩
theorem one_C {w : World} {A : Option Addr} {c : Nat} {l : List Int} (t : TypeId) (h : Kd.C (Kd.int .u8) w A l.length l) (hc : l.length ≤ c) : Kd.C (Kd.slice 5 (Kd.int .u8)) (w.alloc (.cells #[.slice A l.length c] t (0,0))) (some ⟨w.heap.size,0,none⟩) 1 [l]:=by
 have hbel : Below w.heap.size w (w.alloc (.cells #[.slice A l.length c] t (0,0))):=(Below.refl _ _).alloc (Nat.le_refl _) _
 have hb:=heap_alloc_new w (.cells #[.slice A l.length c] t (0,0))
 refine ⟨rfl,by omega,fun _ => ⟨_,rfl,fun j p hp => ?_⟩⟩
 rcases j with _|j
 ·simp at hp
  subst hp
  refine ⟨[.slice A l.length c],rfl,⟨A,c,rfl,hc,Kd.C_below h hbel⟩,fun i u hu => ?_⟩
  rcases i with _|i
  ·simp at hu
   subst hu
   exact (blk_cell hb 0).trans rfl
  ·simp at hu
 ·simp at hp
theorem sum_lit (n : Nat) (t : TypeId) {w : World} {A : Option Addr} {c : Nat} {l : List Int} (hn : l.length = n) (hG : GlobCr w) (h : Kd.C (Kd.int .u8) w A l.length l) (hc : n ≤ c) :
  Calls Tryd.prog 83 #[.slice (some ⟨w.heap.size,0,none⟩) 1 1] (w.alloc (.cells #[.slice A n c] t (0,0))).drew fun e w' => e = .returned (.int .u32 (crc1 l)) ∧ Below w.heap.size w w':=by
 subst hn
 have hbel : Below w.heap.size w (w.alloc (.cells #[.slice A l.length c] t (0,0))):=(Below.refl _ _).alloc (Nat.le_refl _) _
 refine (crc_Sum.calls (some ⟨w.heap.size,0,none⟩) 1 [l] (crc1 l) _ (hG.below hbel.drew) (Kd.C_below (one_C t h hc) (Below.refl _ _).drew) (Nat.le_refl _) rfl).mono ?_
 rintro e w1 ⟨rfl,hd⟩
 exact ⟨rfl,below_step hbel.drew hd.below⟩
theorem clone_at (n : Nat) {w : World} {A : Option Addr} {c : Nat} {l : List Int} (hn : l.length = n) (h : Kd.C (Kd.int .u8) w A l.length l) (hc : n ≤ c) (hl : n ≤ 10000000) :
  Calls Tryd.prog 80 #[.slice A n c] w fun e w' => ∃ v0_ : Value,e = .returned v0_ ∧ Kd.R (Kd.int .u8) 5 w' w.heap.size (fun _ => True) v0_ l ∧ Below w.heap.size w w':=by
 subst hn
 exact cloneB_calls A c l w h hc hl
theorem num_at (n : Nat) {w : World} {A : Option Addr} {c : Nat} {l : List Int} (hn : l.length = n) (h : Kd.C (Kd.int .u8) w A l.length l) (hc : n ≤ c) (hb : byteL l) (h4 : 4 ≤ n) :
  Calls Tryd.prog 92 #[.slice A n c] w fun e w' => e = .returned (.int .u32 (num4 l)) ∧ Below w.heap.size w w':=by
 subst hn
 refine (crc_number.calls A c l (num4 l) w h hc (number_is l hb h4)).mono ?_
 rintro e w1 ⟨rfl,hd⟩
 exact ⟨rfl,hd.below⟩
set_option maxHeartbeats 4000000 in
set_option maxRecDepth 100000 in
theorem crc_Next_calls (A0 : Option Addr) (c0 : Nat) (l0 : List Int) (w : World) (hG : GlobCr w) (hr0 : Kd.C (Kd.int .u8) w A0 l0.length l0) (hc0 : l0.length ≤ c0) (hb0 : byteL l0) (hl0 : l0.length ≤ 1000000) :
  Calls Tryd.prog 49 #[.slice A0 l0.length c0,.int .i64 0] w fun e w' => ∃ v0_ : Value,e = .returned (.tuple #[v0_,.int .i64 (nextB l0).2.1,.int .i64 (nextB l0).2.2]) ∧ Kd.R (Kd.int .u8) 5 w' w.heap.size (fun _ => True) v0_ (nextB l0).1 ∧ Below w.heap.size w w':=by
 have HG:=Lib.hid hG
 have HR:=Lib.hid hr0
 have HB:=Lib.hid hb0
 clear hG hr0 hb0
 have d1 : decide ((0 : Int) > (l0.length : Int)) = false:=decide_eq_false (by omega)
 have d1' : decide ((l0.length : Int) < 0) = false:=decide_eq_false (by omega)
 by_cases h12 : l0.length < 12
 ·have d2 : decide ((l0.length : Int) < 12) = true:=decide_eq_true (by omega)
  have hn : nextB l0 = ([],0,4):=by unfold nextB;rw [if_pos h12]
  rw [hn]
  have hw : wrap64 ((l0.length : Int) - 0) = l0.length:=w64 (by omega) (by omega)
  go_enter Tryd.func49,Tryd.ntmps49
  go_wp2
  go_ret3
  exact ⟨_,rfl,Kd.R_nil _ _ _ _ _,Below.refl _ _⟩
 ·have d2 : decide ((l0.length : Int) < 12) = false:=decide_eq_false (by omega)
  have hw : wrap64 ((l0.length : Int) - 0) = l0.length:=w64 (by omega) (by omega)
  obtain ⟨ad,rfl⟩ : ∃ ad,A0 = some ad:=by
   obtain ⟨ad,h,_⟩:=HR.out.2.2 (by omega)
   exact ⟨ad,h⟩
  have k1 : 12 ≤ c0:=by omega
  have k2 : 12 ≤ l0.length:=by omega
  go_enter Tryd.func49,Tryd.ntmps49
  have hw12 : IntKind.i64.wrap 12 = 12:=by rfl
  obtain ⟨A1,hcut1,hA1,hC1⟩:=cut_mid (some ad) c0 l0 0 12 (by omega) k2 hc0
  obtain ⟨A2,hcut2,hA2,hC2⟩:=cut_drop (some ad) c0 l0 12 k2 hc0
  have HA1:=Lib.hid (hA1 w HR.out)
  have HA2:=Lib.hid (hA2 w HR.out)
  clear hA1 hA2
  have hl1 : ((l0.take 12).drop 0).length = 12:=by rw [List.drop_zero,List.length_take];omega
  have hh1 : (l0.take 12).drop 0 = l0.take 12:=rfl
  rw [hl1] at hcut1 hC1
  obtain ⟨m,hm⟩ : ∃ m,l0.length - 12 = m:=⟨_,rfl⟩
  have hl2 : (l0.drop 12).length = m:=by rw [List.length_drop];exact hm
  rw [hl2] at hcut2 hC2
  have hcu1 : ∀ W : World,(Instr.slice 49 (.slice (some ad) l0.length c0) (some (.int .i64 0)) (some (.int .i64 12)) none).run Tryd.prog W = .ok (.slice A1 12 c0) W:=hcut1
  have hcu2 : ∀ W : World,(Instr.slice 49 (.slice (some ad) l0.length c0) (some (.int .i64 12)) none none).run Tryd.prog W = .ok (.slice A2 m (c0 - 12)) W:=hcut2
  have hC1' : 12 ≤ c0:=hC1
  clear hcut1 hcut2 hC1
  rw [hh1] at hl1 HA1
  obtain ⟨H,hHe⟩ : ∃ H,l0.take 12 = H:=⟨_,rfl⟩
  obtain ⟨R,hRe⟩ : ∃ R,l0.drop 12 = R:=⟨_,rfl⟩
  rw [hHe] at hl1 HA1
  rw [hRe] at hl2 HA2
  have HHE:=Lib.hid hHe
  have HRE:=Lib.hid hRe
  have HL1:=Lib.hid hl1
  have HL2:=Lib.hid hl2
  have HM:=Lib.hid (show l0.length = 12 + m by omega)
  have HC2:=Lib.hid hC2
  clear hm hC2
  clear hHe hRe hl1 hl2 hh1
  go_upto_region 5 with (fail)
  go_still (by kernel_rfl)
  obtain ⟨w0,hw0⟩ : ∃ w0,w.drew = w0:=⟨_,rfl⟩
  have hd0 : Below w.heap.size w w.drew:=(Below.refl _ _).drew
  change Exit.then _ _ Exit.normal _ w.drew
  rw [hw0] at hd0 ⊢
  have HD0:=Lib.hid hd0
  clear hw0 hd0
  have hbH : byteL H:=by rw [← HHE.out];exact HB.out.take 12
  have hn0:=(le4_num4 H hbH (by rw [HL1.out];omega)).2
  have HBH:=Lib.hid hbH
  clear hbH
  have HN:=num_at 12 HL1.out (Kd.C_below HA1.out HD0.out) hC1' HBH.out (by omega)
  have hnum : num4 H = num4 l0:=by
   rw [← HHE.out]
   unfold num4
   rcases l0 with _|⟨a,_|⟨b,_|⟨c,_|⟨d,l⟩⟩⟩⟩ <;> first|rfl|(simp only [List.length_cons,List.length_nil] at k2;omega)
  obtain ⟨n,hnn⟩ : ∃ n : Nat,num4 H = (n : Int):=⟨(num4 H).toNat,by omega⟩
  rw [hnn] at HN hn0 hnum
  have HNN:=Lib.hid HN
  have HE1:=Lib.hid hnn
  have HE2:=Lib.hid hnum
  clear HN hnn hnum
  have hlt : (n : Int) < 4294967296:=hn0.2
  clear hn0
  go_upto_region 7 with (go_at_call 92;refine HNN.out.mono ?_;rintro e w1 ⟨rfl,hb1⟩)
  obtain ⟨hcu4,hA4,hC4⟩:=cut_take A1 c0 H 4 (by rw [HL1.out];omega) (by rw [HL1.out];exact hC1')
  obtain ⟨A3,hcu5,hA5,hC5⟩:=cut_drop A1 c0 H 4 (by rw [HL1.out];omega) (by rw [HL1.out];exact hC1')
  have HA4:=Lib.hid (hA4 w0 (Kd.C_below HA1.out HD0.out))
  have HA5:=Lib.hid (hA5 w0 (Kd.C_below HA1.out HD0.out))
  clear hA4 hA5
  obtain ⟨H4,hH4⟩ : ∃ H4,H.take 4 = H4:=⟨_,rfl⟩
  obtain ⟨H5,hH5⟩ : ∃ H5,H.drop 4 = H5:=⟨_,rfl⟩
  have hl4 : H4.length = 4:=by rw [← hH4,List.length_take,HL1.out];rfl
  have hl5 : H5.length = 8:=by rw [← hH5,List.length_drop,HL1.out]
  have hb5 : byteL H5:=by rw [← hH5];exact HBH.out.drop 4
  rw [hH4] at hcu4 HA4 hC4
  rw [hH5] at hcu5 HA5 hC5
  rw [hl4,HL1.out] at hcu4
  rw [hl5,HL1.out] at hcu5
  rw [hl4] at hC4
  rw [hl5] at hC5
  have hcv4 : ∀ W : World,(Instr.slice 49 (.slice A1 12 c0) none (some (.int .i64 4)) none).run Tryd.prog W = .ok (.slice A1 4 c0) W:=hcu4
  have hcv5 : ∀ W : World,(Instr.slice 49 (.slice A1 12 c0) (some (.int .i64 4)) none none).run Tryd.prog W = .ok (.slice A3 8 (c0 - 4)) W:=hcu5
  have HL4:=Lib.hid hl4
  have HL5:=Lib.hid hl5
  have HB5:=Lib.hid hb5
  have HH4:=Lib.hid hH4
  have HH5:=Lib.hid hH5
  have HG0:=Lib.hid (HG.out.below HD0.out)
  clear hcu4 hcu5 hl4 hl5 hb5 hH4 hH5
  refine start_ (n:=9) (S:=fun w' => True) (ds:=[]) #[false,false,false,false,false,false,false,false,false] (by kernel_rfl) rfl rfl trivial (fun hHeld => ?_)
  refine pure_ (i:=0) (N:=some 38) (v:=?_) (a':=?_) #[true,false,false,false,false,false,false,false,false] rfl rfl (by kernel_rfl) (fun _ _ _ h => h) (Or.inl ⟨by rfl,?_⟩) ?_ ?_
  rotate_left
  ·intro w'
   go_simp
   with_reducible rfl
  rotate_left
  ·simp only [Act.put,List.setIfInBounds_toArray,List.set_cons_zero,List.set_cons_succ,i64_w,i32_w]
   rfl
  refine pure_ (i:=1) (N:=some 39) (v:=?_) (a':=?_) #[true,true,false,false,false,false,false,false,false] rfl rfl (by kernel_rfl) (fun _ _ _ h => h) (Or.inl ⟨by rfl,?_⟩) ?_ ?_
  rotate_left
  ·intro w'
   go_simp
   with_reducible rfl
  rotate_left
  ·simp only [Act.put,List.setIfInBounds_toArray,List.set_cons_zero,List.set_cons_succ,i64_w,i32_w]
   rfl
  refine pure_ (i:=4) (N:=some 42) (v:=?_) (a':=?_) #[true,true,false,false,true,false,false,false,false] rfl rfl (by kernel_rfl) (fun _ _ _ h => h) (Or.inl ⟨by rfl,?_⟩) ?_ ?_
  rotate_left
  ·intro w'
   go_simp
   with_reducible rfl
  rotate_left
  ·simp only [Act.put,List.setIfInBounds_toArray,List.set_cons_zero,List.set_cons_succ,i64_w,i32_w]
   rfl
  refine pure_ (i:=5) (N:=some 43) (v:=?_) (a':=?_) #[true,true,false,false,true,true,false,false,false] rfl rfl (by kernel_rfl) (fun _ _ _ h => h) (Or.inl ⟨by rfl,?_⟩) ?_ ?_
  rotate_left
  ·intro w'
   go_simp
   with_reducible rfl
  rotate_left
  ·simp only [Act.put,List.setIfInBounds_toArray,List.set_cons_zero,List.set_cons_succ,i64_w,i32_w]
   rfl
  refine one_ (i:=2) (N:=some 40) #[true,true,true,false,true,true,false,false,false] rfl rfl (by kernel_rfl) (by decide) (fun K hK => ?_)
  refine value_ (w1:=?_) (v:=?_) (by rfl) rfl ?_ ?_
  rotate_left 2
  ·go_simp
   constructor
   ·rfl
   ·rfl
  refine hK.out _ _ trivial (fun hHeld => ?_)
  clear hK K
  refine norm_ (a':=?_) ?_ ?_
  rotate_left
  ·show Act.put _ (some 40) _ = _
   simp only [Act.put,List.setIfInBounds_toArray,List.set_cons_zero,List.set_cons_succ,i64_w,i32_w]
   rfl
  refine one_ (i:=3) (N:=some 41) #[true,true,true,true,true,true,false,false,false] rfl rfl (by kernel_rfl) (by decide) (fun K hK => ?_)
  refine goes_ Tryd.func83 (by kernel_rfl) rfl #[.slice (some ⟨_,0,none⟩) 1 1] (by rfl) rfl rfl (by simp only [List.map_toArray,List.map_cons,List.map_nil];rfl) ?_
  with_reducible refine (sum_lit 4 49 HL4.out (HG0.out.below hb1) (Kd.C_below HA4.out hb1) hC4).mono ?_
  rintro e w3 ⟨rfl,hb3⟩
  refine ⟨_,rfl,?_⟩
  refine hK.out _ _ trivial (fun hHeld => ?_)
  clear hK K
  refine norm_ (a':=?_) ?_ ?_
  rotate_left
  ·show Act.put _ (some 41) _ = _
   simp only [Act.put,List.setIfInBounds_toArray,List.set_cons_zero,List.set_cons_succ,i64_w,i32_w]
   rfl
  refine one_ (i:=6) (N:=some 44) #[true,true,true,true,true,true,true,false,false] rfl rfl (by kernel_rfl) (by decide) (fun K hK => ?_)
  refine goes_ Tryd.func92 (by kernel_rfl) rfl #[.slice A3 8 (c0 - 4)] (by rfl) rfl rfl (by simp only [List.map_toArray,List.map_cons,List.map_nil];rfl) ?_
  with_reducible refine (num_at 8 HL5.out (Kd.C_below HA5.out (below_step hb1 hb3)) hC5 HB5.out (by omega)).mono ?_
  rintro e w4 ⟨rfl,hd4⟩
  refine ⟨_,rfl,?_⟩
  refine hK.out _ _ trivial (fun hHeld => ?_)
  clear hK K
  refine norm_ (a':=?_) ?_ ?_
  rotate_left
  ·show Act.put _ (some 44) _ = _
   simp only [Act.put,List.setIfInBounds_toArray,List.set_cons_zero,List.set_cons_succ,i64_w,i32_w]
   rfl
  refine pure_ (i:=7) (N:=some 45) (v:=?_) (a':=?_) #[true,true,true,true,true,true,true,true,false] rfl rfl (by kernel_rfl) (fun _ _ _ h => h) (Or.inl ⟨by rfl,?_⟩) ?_ ?_
  rotate_left
  ·intro w'
   go_simp
   with_reducible rfl
  rotate_left
  ·simp only [Act.put,List.setIfInBounds_toArray,List.set_cons_zero,List.set_cons_succ,i64_w,i32_w]
   rfl
  refine pure_ (i:=8) (N:=some 37) (v:=?_) (a':=?_) #[true,true,true,true,true,true,true,true,true] rfl rfl (by kernel_rfl) (fun _ _ _ h => h) (Or.inl ⟨by rfl,?_⟩) ?_ ?_
  rotate_left
  ·intro w'
   go_simp
   with_reducible rfl
  rotate_left
  ·simp only [Act.put,List.setIfInBounds_toArray,List.set_cons_zero,List.set_cons_succ,i64_w,i32_w]
   rfl
  refine done_ (by kernel_rfl) ?_
  have HB4:=Lib.hid (below_step (below_step (below_step HD0.out hb1) hb3) hd4)
  clear hb1 hb3 hd4 hcv4 hcv5 hcu1 hcu2
  have e4 : l0.take 4 = H4:=by rw [← HH4.out,← HHE.out,List.take_take];rfl
  have e5 : num4 (l0.drop 4) = num4 H5:=by
   rw [← HH5.out,← HHE.out]
   unfold num4
   rcases l0 with _|⟨x0,_|⟨x1,_|⟨x2,_|⟨x3,_|⟨x4,_|⟨x5,_|⟨x6,_|⟨x7,l⟩⟩⟩⟩⟩⟩⟩⟩ <;> first|rfl|(simp only [List.length_cons,List.length_nil] at k2;omega)
  have e8 : num4 (l0.drop 8) = num4 (H.drop 8):=by
   rw [← HHE.out]
   unfold num4
   rcases l0 with _|⟨x0,_|⟨x1,_|⟨x2,_|⟨x3,_|⟨x4,_|⟨x5,_|⟨x6,_|⟨x7,_|⟨x8,_|⟨x9,_|⟨xa,_|⟨xb,l⟩⟩⟩⟩⟩⟩⟩⟩⟩⟩⟩⟩ <;> first|rfl|(simp only [List.length_cons,List.length_nil] at k2;omega)
  have HNX:=Lib.hid (show nextB l0 = if crc1 H4 ≠ num4 H5 then ([],0,6) else if (n : Int) > 65536 then ([],0,3) else if (n : Int) > (l0.length : Int) - 12 then ([],0,4) else if crc1 (R.take n) ≠ num4 (H.drop 8) then ([],0,6) else (R.take n,12 + (n : Int),0) by
   unfold nextB
   rw [if_neg h12,e4,e5,← HE2.out,e8,HRE.out,Int.toNat_natCast])
  clear e4 e5 e8
  have HZ:=Lib.hid (show l0.length ≤ 1000000 ∧ l0.length ≤ c0 ∧ 12 ≤ l0.length from ⟨hl0,hc0,k2⟩)
  clear d1 d1' h12 d2 hw k1 k2 hl0 hc0 hlt hw12 hC4 hC5
  by_cases hs : crc1 H4 = num4 H5
  ·have t1 : (crc1 H4 != num4 H5) = false:=by rw [hs];simp
   rw [t1]
   clear t1
   by_cases h6 : (n : Int) > 65536
   ·have hn:=HNX.out
    rw [if_neg (by simp [hs]),if_pos h6] at hn
    have HNN2:=Lib.hid hn
    clear hn
    have t2 : decide ((65536 : Int) < (n : Int)) = true:=decide_eq_true h6
    go_wp2
    go_ret3
    exact ⟨_,by rw [HNN2.out];rfl,by rw [HNN2.out];exact Kd.R_nil _ _ _ _ _,HB4.out⟩
   ·have t2 : decide ((65536 : Int) < (n : Int)) = false:=decide_eq_false h6
    by_cases h7 : (n : Int) > (l0.length : Int) - 12
    ·have hn:=HNX.out
     rw [if_neg (by simp [hs]),if_neg h6,if_pos h7] at hn
     have HNN2:=Lib.hid hn
     have t3 : decide ((m : Int) < (n : Int)) = true:=decide_eq_true (by have:=HM.out;omega)
     have t3' : decide (m < n) = true:=decide_eq_true (by have:=HM.out;omega)
     clear hn h6 h7 hs
     go_wp2
     go_ret3
     exact ⟨_,by rw [HNN2.out];rfl,by rw [HNN2.out];exact Kd.R_nil _ _ _ _ _,HB4.out⟩
    ·have t3 : decide ((m : Int) < (n : Int)) = false:=decide_eq_false (by have:=HM.out;omega)
     have t3' : decide (m < n) = false:=decide_eq_false (by have:=HM.out;omega)
     have h65 : n ≤ 65536:=by omega
     have hnm : n ≤ m:=by have:=HM.out;omega
     have hny:=HNX.out
     rw [if_neg (by simp [hs]),if_neg h6,if_neg h7] at hny
     have HNY:=Lib.hid hny
     clear hny
     have H65:=Lib.hid h65
     have HNM:=Lib.hid hnm
     clear hs h6 h7 h65 hnm
     go_upto_region 13 with (fail)
     have HG4:=Lib.hid (HG.out.below HB4.out)
     obtain ⟨hcu6,hA6,hC6⟩:=cut_take A2 (c0 - 12) R n (by rw [HL2.out];exact HNM.out) (by rw [HL2.out];have:=HM.out;have:=HZ.out;omega)
     obtain ⟨A7,hcu7,hA7,hC7⟩:=cut_drop A1 c0 H 8 (by rw [HL1.out];omega) (by rw [HL1.out];have:=HZ.out;omega)
     have HA6:=Lib.hid (hA6 w4 (Kd.C_below HA2.out HB4.out))
     have HA2c:=Lib.hid (hA6 w HA2.out)
     have HA7:=Lib.hid (hA7 w4 (Kd.C_below HA1.out HB4.out))
     clear hA6 hA7
     have hl6 : (R.take n).length = n:=by rw [List.length_take,HL2.out];have:=HNM.out;omega
     have hl7 : (H.drop 8).length = 4:=by rw [List.length_drop,HL1.out]
     have HB7:=Lib.hid (HBH.out.drop 8)
     rw [hl6,HL2.out] at hcu6
     rw [hl7,HL1.out] at hcu7
     rw [hl6] at hC6
     rw [hl7] at hC7
     obtain ⟨c2,hc2⟩ : ∃ c2,c0 - 12 = c2:=⟨_,rfl⟩
     obtain ⟨c8,hc8⟩ : ∃ c8,c0 - 8 = c8:=⟨_,rfl⟩
     rw [hc2] at hcu6 hC6 ⊢
     rw [hc8] at hcu7 hC7
     have hcv6 : ∀ W : World,(Instr.slice 49 (.slice A2 m c2) none (some (.int .i64 (n : Int))) none).run Tryd.prog W = .ok (.slice A2 n c2) W:=hcu6
     have hcv7 : ∀ W : World,(Instr.slice 49 (.slice A1 12 c0) (some (.int .i64 8)) none none).run Tryd.prog W = .ok (.slice A7 4 c8) W:=hcu7
     have HL6:=Lib.hid hl6
     have HL7:=Lib.hid hl7
     have HC6:=Lib.hid hC6
     have HC7:=Lib.hid hC7
     clear hcu6 hcu7 hl6 hl7 hC6 hC7 hc2 hc8 t2 t3 t3'
     refine start_ (n:=10) (S:=fun w' => True) (ds:=[]) #[false,false,false,false,false,false,false,false,false,false] (by kernel_rfl) rfl rfl trivial (fun hHeld => ?_)
     refine pure_ (i:=0) (N:=some 55) (v:=?_) (a':=?_) #[true,false,false,false,false,false,false,false,false,false] rfl rfl (by kernel_rfl) (fun _ _ _ h => h) (Or.inl ⟨by rfl,?_⟩) ?_ ?_
     rotate_left
     ·intro w'
      go_simp
      with_reducible rfl
     rotate_left
     ·simp only [Act.put,List.setIfInBounds_toArray,List.set_cons_zero,List.set_cons_succ,i64_w,i32_w]
      rfl
     refine pure_ (i:=1) (N:=some 56) (v:=?_) (a':=?_) #[true,true,false,false,false,false,false,false,false,false] rfl rfl (by kernel_rfl) (fun _ _ _ h => h) (Or.inl ⟨by rfl,?_⟩) ?_ ?_
     rotate_left
     ·intro w'
      go_simp
      with_reducible rfl
     rotate_left
     ·simp only [Act.put,List.setIfInBounds_toArray,List.set_cons_zero,List.set_cons_succ,i64_w,i32_w]
      rfl
     refine pure_ (i:=2) (N:=some 57) (v:=?_) (a':=?_) #[true,true,true,false,false,false,false,false,false,false] rfl rfl (by kernel_rfl) (fun _ _ _ h => h) (Or.inl ⟨by rfl,?_⟩) ?_ ?_
     rotate_left
     ·intro w'
      go_simp
      with_reducible rfl
     rotate_left
     ·simp only [Act.put,List.setIfInBounds_toArray,List.set_cons_zero,List.set_cons_succ,i64_w,i32_w]
      rfl
     refine pure_ (i:=5) (N:=some 60) (v:=?_) (a':=?_) #[true,true,true,false,false,true,false,false,false,false] rfl rfl (by kernel_rfl) (fun _ _ _ h => h) (Or.inl ⟨by rfl,?_⟩) ?_ ?_
     rotate_left
     ·intro w'
      go_simp
      with_reducible rfl
     rotate_left
     ·simp only [Act.put,List.setIfInBounds_toArray,List.set_cons_zero,List.set_cons_succ,i64_w,i32_w]
      rfl
     refine pure_ (i:=6) (N:=some 61) (v:=?_) (a':=?_) #[true,true,true,false,false,true,true,false,false,false] rfl rfl (by kernel_rfl) (fun _ _ _ h => h) (Or.inl ⟨by rfl,?_⟩) ?_ ?_
     rotate_left
     ·intro w'
      go_simp
      with_reducible rfl
     rotate_left
     ·simp only [Act.put,List.setIfInBounds_toArray,List.set_cons_zero,List.set_cons_succ,i64_w,i32_w]
      rfl
     refine one_ (i:=3) (N:=some 58) #[true,true,true,true,false,true,true,false,false,false] rfl rfl (by kernel_rfl) (by decide) (fun K hK => ?_)
     refine value_ (w1:=?_) (v:=?_) (by rfl) rfl ?_ ?_
     rotate_left 2
     ·go_simp
      constructor
      ·rfl
      ·rfl
     refine hK.out _ _ trivial (fun hHeld => ?_)
     clear hK K
     refine norm_ (a':=?_) ?_ ?_
     rotate_left
     ·show Act.put _ (some 58) _ = _
      simp only [Act.put,List.setIfInBounds_toArray,List.set_cons_zero,List.set_cons_succ,i64_w,i32_w]
      rfl
     refine one_ (i:=4) (N:=some 59) #[true,true,true,true,true,true,true,false,false,false] rfl rfl (by kernel_rfl) (by decide) (fun K hK => ?_)
     refine goes_ Tryd.func83 (by kernel_rfl) rfl #[.slice (some ⟨_,0,none⟩) 1 1] (by rfl) rfl rfl (by simp only [List.map_toArray,List.map_cons,List.map_nil];rfl) ?_
     with_reducible refine (sum_lit n 49 HL6.out (HG4.out) (HA6.out) HC6.out).mono ?_
     rintro e w6 ⟨rfl,hb6⟩
     refine ⟨_,rfl,?_⟩
     refine hK.out _ _ trivial (fun hHeld => ?_)
     clear hK K
     refine norm_ (a':=?_) ?_ ?_
     rotate_left
     ·show Act.put _ (some 59) _ = _
      simp only [Act.put,List.setIfInBounds_toArray,List.set_cons_zero,List.set_cons_succ,i64_w,i32_w]
      rfl
     refine one_ (i:=7) (N:=some 62) #[true,true,true,true,true,true,true,true,false,false] rfl rfl (by kernel_rfl) (by decide) (fun K hK => ?_)
     refine goes_ Tryd.func92 (by kernel_rfl) rfl #[.slice A7 4 c8] (by rfl) rfl rfl (by simp only [List.map_toArray,List.map_cons,List.map_nil];rfl) ?_
     with_reducible refine (num_at 4 HL7.out (Kd.C_below HA7.out (hb6)) HC7.out HB7.out (by omega)).mono ?_
     rintro e w7 ⟨rfl,hd7⟩
     refine ⟨_,rfl,?_⟩
     refine hK.out _ _ trivial (fun hHeld => ?_)
     clear hK K
     refine norm_ (a':=?_) ?_ ?_
     rotate_left
     ·show Act.put _ (some 62) _ = _
      simp only [Act.put,List.setIfInBounds_toArray,List.set_cons_zero,List.set_cons_succ,i64_w,i32_w]
      rfl
     refine pure_ (i:=8) (N:=some 63) (v:=?_) (a':=?_) #[true,true,true,true,true,true,true,true,true,false] rfl rfl (by kernel_rfl) (fun _ _ _ h => h) (Or.inl ⟨by rfl,?_⟩) ?_ ?_
     rotate_left
     ·intro w'
      go_simp
      with_reducible rfl
     rotate_left
     ·simp only [Act.put,List.setIfInBounds_toArray,List.set_cons_zero,List.set_cons_succ,i64_w,i32_w]
      rfl
     refine pure_ (i:=9) (N:=some 54) (v:=?_) (a':=?_) #[true,true,true,true,true,true,true,true,true,true] rfl rfl (by kernel_rfl) (fun _ _ _ h => h) (Or.inl ⟨by rfl,?_⟩) ?_ ?_
     rotate_left
     ·intro w'
      go_simp
      with_reducible rfl
     rotate_left
     ·simp only [Act.put,List.setIfInBounds_toArray,List.set_cons_zero,List.set_cons_succ,i64_w,i32_w]
      rfl
     refine done_ (by kernel_rfl) ?_
     have HB7:=Lib.hid (below_step (below_step HB4.out hb6) hd7)
     clear hb6 hd7 hcv7
     by_cases hs2 : crc1 (R.take n) = num4 (H.drop 8)
     ·have t1 : (crc1 (R.take n) != num4 (H.drop 8)) = false:=by rw [hs2];simp
      rw [t1]
      have hny:=HNY.out
      rw [if_neg (by simp [hs2])] at hny
      have HNZ:=Lib.hid hny
      have hcl:=clone_at n HL6.out (Kd.C_below HA2c.out HB7.out) HC6.out (by have:=H65.out;omega)
      have HCL:=Lib.hid hcl
      have hw12 : IntKind.i64.wrap 12 = 12:=rfl
      have h6n:=H65.out
      have hw13 : IntKind.i64.wrap (12 + (n : Int)) = 12 + (n : Int):=by rw [i64_w];exact w64 (by omega) (by omega)
      have hw14 : wrap64 (12 + (n : Int)) = 12 + (n : Int):=w64 (by omega) (by omega)
      clear t1 hs2 hny hcl h6n
      go_wp2_with (go_at_call 80;refine HCL.out.mono ?_;rintro e w8 ⟨v8,rfl,ho8,hb8⟩;have HO8:=Lib.hid ho8;have HB8:=Lib.hid hb8;clear ho8 hb8)
      go_ret3
      exact ⟨_,by rw [HNZ.out];rfl,by rw [HNZ.out];exact Kd.R_lower HO8.out HB7.out.size,below_step HB7.out HB8.out⟩
     ·have t1 : (crc1 (R.take n) != num4 (H.drop 8)) = true:=by simpa using hs2
      rw [t1]
      have hny:=HNY.out
      rw [if_pos hs2] at hny
      have HNZ:=Lib.hid hny
      clear t1 hs2 hny
      go_wp2
      go_ret3
      exact ⟨_,by rw [HNZ.out];rfl,by rw [HNZ.out];exact Kd.R_nil _ _ _ _ _,HB7.out⟩
  ·have t1 : (crc1 H4 != num4 H5) = true:=by simpa using hs
   have hn:=HNX.out
   rw [if_pos hs] at hn
   have HNN2:=Lib.hid hn
   rw [t1]
   clear t1 hn hs
   go_wp2
   go_ret3
   exact ⟨_,by rw [HNN2.out];rfl,by rw [HNN2.out];exact Kd.R_nil _ _ _ _ _,HB4.out⟩
end Go.Proofs.YtedfgkjimnjdpaaDoor.X
namespace Go.Proofs.YtedfgkjimnjdpaaDoor.X
open Go.RowKit Go.Proofs.YtedfgkjimnjdpaaDoorW.PrintWords
set_option linter.unusedVariables false
set_option linter.unusedSimpArgs false
end Go.Proofs.YtedfgkjimnjdpaaDoor.X
namespace Go.Proofs.YtedfgkjimnjdpaaDoor.X
open Go.RowKit Go.Proofs.YtedfgkjimnjdpaaDoorW.PrintWords
set_option linter.unusedVariables false
set_option linter.unusedSimpArgs false
structure Upd (B : Nat) (w w' : World) : Prop where
 os : w'.os = w.os
 tape : w'.tape = w.tape
 output : w'.output = w.output
 size : w.heap.size ≤ w'.heap.size
 block : ∀ k,k < w.heap.size → k ≠ B → w'.heap[k]? = w.heap[k]?
theorem Upd.refl (B : Nat) (w : World) : Upd B w w:=⟨rfl,rfl,rfl,Nat.le_refl _,fun _ _ _ => rfl⟩
theorem Upd.trans {B : Nat} {a b c : World} (h : Upd B a b) (k : Upd B b c) : Upd B a c :=
 ⟨k.os.trans h.os,k.tape.trans h.tape,k.output.trans h.output,Nat.le_trans h.size k.size,fun i hi hb => (k.block i (Nat.lt_of_lt_of_le hi h.size) hb).trans (h.block i hi hb)⟩
theorem Upd.of_below {B : Nat} {w w' : World} (h : Below w.heap.size w w') : Upd B w w':=⟨h.os,h.tape,h.output,h.size,fun k hk _ => h.block k hk⟩
theorem Upd.set {B : Nat} {w w' : World} (h : Upd B w w') (j : Nat) (u : Value) : Upd B w (w'.setCell ⟨B,j,none⟩ u) :=
 ⟨h.os,h.tape,h.output,by simpa [World.setCell] using h.size,fun k hk hb => (Below.heap_setCell w' ⟨B,j,none⟩ u k hb).trans (h.block k hk hb)⟩
theorem Upd.drew {B : Nat} {w w' : World} (h : Upd B w w') : Upd B w w'.drew:=⟨h.os,h.tape,h.output,h.size,h.block⟩
theorem Upd.below {B base : Nat} {w w' : World} (h : Upd B w w') (hb : base ≤ B) (hs : base ≤ w.heap.size) : Below base w w':=⟨h.os,h.tape,h.output,h.size,fun k hk => h.block k (by omega) (by omega)⟩
theorem blk_setCells (g : Nat) (t : TypeId) : ∀ (vs : List Value) (o : Nat) (w : World) (cs : List Value),o + vs.length = cs.length → w.heap[g]? = some (.cells cs.toArray t (0,0)) → (w.setCells g o vs).heap[g]? = some (.cells (cs.take o ++ vs).toArray t (0,0))
 | [],o,w,cs,hl,h => by
  rw [World.setCells,h,List.append_nil,List.take_of_length_le (by simp at hl;omega)]
 | v :: r,o,w,cs,hl,h => by
  rw [World.setCells]
  simp only [List.length_cons] at hl
  have h1:=blk_set h o v
  rw [show cs.toArray.setIfInBounds o v = (cs.set o v).toArray by simp] at h1
  rw [blk_setCells g t r (o + 1) _ _ (by simp;omega) h1]
  congr 2
  rw [List.take_set,List.take_add_one,List.getElem?_eq_getElem (by omega)]
  simp only [Option.toList_some]
  rw [List.set_append,if_neg (by simp;omega),List.length_take,Nat.min_eq_left (by omega),Nat.sub_self,List.append_assoc]
  rfl
section
variable {P : Program} {ops : Array Oper} {rest : List Oper} {o : Oper} {a : Act} {Q : Exit → Act → World → Prop} {w w' : World}
theorem wpList_load_at (hgd : o.guard = none) (t : TypeId) (x : Operand) (ho : o.op = .load t x) (ad : Addr) (hx : a.eval x = .pointer (some ad)) (v : Value)
  (hr : (loadVar t ad).run P w = .ok v w) (h : wpList P ops Q rest (a.put o.dst v) w) : wpList P ops Q (o :: rest) a w :=
 wpList_plain hgd fun K hK => by
  unfold Oper.wp execOp
  simp only [ho,hx,Instr.loadAt,Instr.sureAddr,Sem.run_bind,Sem.run_pure,Result.andThen_ok,hr]
  exact hK _ _ h
theorem wpList_store_at (hgd : o.guard = none) (t : TypeId) (x y : Operand) (ho : o.op = .store t x y) (ad : Addr) (hx : a.eval x = .pointer (some ad)) (v : Value) (hy : a.eval y = v)
  (hr : (storeVar t ad v).run P w = .ok () w') (h : wpList P ops Q rest (a.put o.dst undef) w') : wpList P ops Q (o :: rest) a w :=
 wpList_plain hgd fun K hK => by
  unfold Oper.wp execOp
  simp only [ho,hx,hy,Instr.storeAt,Instr.sureAddr,Sem.run_bind,Sem.run_pure,Result.andThen_ok,hr]
  exact hK _ _ h
end
end Go.Proofs.YtedfgkjimnjdpaaDoor.X
namespace Go.Proofs.YtedfgkjimnjdpaaDoor.X
open Go.RowKit Go.Proofs.YtedfgkjimnjdpaaDoorW.PrintWords Go.Proofs.YtedfgkjimnjdpaaDoorW.PrintLast Go.Proofs.YtedfgkjimnjdpaaDoorW.PrintMore
set_option linter.unusedVariables false
set_option linter.unusedSimpArgs false
theorem cut_dropI (A : Option Addr) (c : Nat) (l : List Int) (i : Int) (a : Nat) (hi : i = (a : Int)) (ha : a ≤ l.length) (hc : l.length ≤ c) : ∃ A',(∀ W : World,(Instr.slice 49 (.slice A l.length c) (some (.int .i64 i)) none none).run Tryd.prog W = .ok (.slice A' (l.drop a).length (c - a)) W) ∧
  (∀ w : World,Kd.C (Kd.int .u8) w A l.length l → Kd.C (Kd.int .u8) w A' (l.drop a).length (l.drop a)) ∧ (l.drop a).length ≤ c - a:=by
 subst hi
 exact cut_drop A c l a ha hc
theorem drawn_heap {w w1 : World} (h : Drawn0 w w1) : w1.heap = w.heap:=by
 obtain ⟨n,rfl⟩:=h
 rfl
theorem rdN_nat (l : List Int) : ∃ k : Nat,(rdN l).2.1 = (k : Int) ∧ k ≤ l.length:=by
 have hr:=rdT_range l 0 0
 change 0 ≤ (rdN l).1 ∧ 0 ≤ (rdN l).2.1 ∧ (rdN l).2.1 ≤ ((0 : Nat) : Int) + (l.length : Int) ∧ (rdN l).1 ≤ 4611686018427387904 at hr
 exact ⟨(rdN l).2.1.toNat,by omega,by omega⟩
theorem set_one {w : World} {g : Nat} {t : TypeId} {x : Value} (h : w.heap[g]? = some (.cells #[x] t (0,0))) (y : Value) : (w.setCell ⟨g,0,none⟩ y).heap[g]? = some (.cells #[y] t (0,0)) :=
 blk_setCells g t [y] 0 w [x] rfl h
theorem set_other {w : World} {g k : Nat} (y : Value) (h : k ≠ g) : (w.setCell ⟨g,0,none⟩ y).heap[k]? = w.heap[k]?:=Below.heap_setCell w ⟨g,0,none⟩ y k h
theorem num_post {w w1 : World} {Bb Bg : Nat} {x0 x1 : Value} (y0 y1 : Value) (z0 : w1.heap[Bb]? = some (.cells #[x0] 49 (0,0))) (z1 : w1.heap[Bg]? = some (.cells #[x1] 4 (0,0))) (hne : Bb ≠ Bg) (zk : ∀ k : Nat,w1.heap[k]? = w.heap[k]?) (hb : Below w.heap.size w w1) :
  ((w1.setCell ⟨Bg,0,none⟩ y1).setCell ⟨Bb,0,none⟩ y0).heap[Bb]? = some (.cells #[y0] 49 (0,0)) ∧ ((w1.setCell ⟨Bg,0,none⟩ y1).setCell ⟨Bb,0,none⟩ y0).heap[Bg]? = some (.cells #[y1] 4 (0,0)) ∧
   (∀ k : Nat,k ≠ Bb → k ≠ Bg → ((w1.setCell ⟨Bg,0,none⟩ y1).setCell ⟨Bb,0,none⟩ y0).heap[k]? = w.heap[k]?) ∧ (∀ B,B ≤ Bb → B ≤ Bg → B ≤ w.heap.size → Below B w ((w1.setCell ⟨Bg,0,none⟩ y1).setCell ⟨Bb,0,none⟩ y0)):=by
 refine ⟨set_one (by rw [set_other _ hne];exact z0) y0,?_,fun k h1 h2 => ?_,fun B h1 h2 h3 => ?_⟩
 ·rw [set_other _ (Ne.symm hne)]
  exact set_one z1 y1
 ·rw [set_other _ h1,set_other _ h2,zk]
 ·exact ((hb.mono h3).setCell h2 _).setCell h1 _
set_option maxHeartbeats 4000000 in
set_option maxRecDepth 100000 in
theorem num1_calls (Bb Bg : Nat) (A : Option Addr) (c : Nat) (bl : List Int) (good : Bool) (w : World) (hBb : w.heap[Bb]? = some (.cells #[.slice A bl.length c] 49 (0,0))) (hBg : w.heap[Bg]? = some (.cells #[.bool good] 4 (0,0))) (hne : Bb ≠ Bg)
  (hC : Kd.C (Kd.int .u8) w A bl.length bl) (hc : bl.length ≤ c) (hby : byteL bl) (hl : bl.length ≤ 1000000) :
  Calls Tryd.prog 50 #[.pointer (some ⟨Bb,0,none⟩),.pointer (some ⟨Bg,0,none⟩)] w fun e w' => e = .returned (.int .i64 (rdN bl).1) ∧ ∃ A' : Option Addr,
   w'.heap[Bb]? = some (.cells #[.slice A' (bl.drop (rdN bl).2.1.toNat).length (c - (rdN bl).2.1.toNat)] 49 (0,0)) ∧ w'.heap[Bg]? = some (.cells #[.bool (good && (rdN bl).2.2 == 0 && decide ((rdN bl).1 ≤ 1099511627776))] 4 (0,0)) ∧
   (∀ w2 : World,Kd.C (Kd.int .u8) w2 A bl.length bl → Kd.C (Kd.int .u8) w2 A' (bl.drop (rdN bl).2.1.toNat).length (bl.drop (rdN bl).2.1.toNat)) ∧ (bl.drop (rdN bl).2.1.toNat).length ≤ c - (rdN bl).2.1.toNat ∧
   (∀ k : Nat,k ≠ Bb → k ≠ Bg → w'.heap[k]? = w.heap[k]?) ∧ (∀ B,B ≤ Bb → B ≤ Bg → B ≤ w.heap.size → Below B w w'):=by
 obtain ⟨k,hk,hkl⟩:=rdN_nat bl
 have hrn:=ReadNum_is bl hby (by omega) 50 (by omega)
 obtain ⟨A',hcut,hA',hC'⟩:=cut_dropI A c bl (rdN bl).2.1 k hk hkl hc
 rw [hk,Int.toNat_natCast]
 rw [hk] at hcut
 obtain ⟨D,hD⟩ : ∃ D,bl.drop k = D:=⟨_,rfl⟩
 rw [hD] at hcut hA' hC' ⊢
 clear hD
 have e3 : rdN bl = ((rdN bl).1,(k : Int),(rdN bl).2.2):=by rw [← hk]
 generalize (rdN bl).1 = v at *
 generalize (rdN bl).2.2 = e at *
 rw [e3] at hrn
 have HRN:=Lib.hid hrn
 have HC:=Lib.hid hC
 have HA:=Lib.hid hA'
 have HCC:=Lib.hid hc
 have HB1:=Lib.hid hBb
 have HB2:=Lib.hid hBg
 have x0 : w.cell? ⟨Bb,0,none⟩ = some (.slice A bl.length c):=(blk_cell hBb 0).trans rfl
 clear hC hA' hrn e3 hk hBb hBg
 obtain ⟨b,hb⟩ : ∃ b,(good && e == 0 && decide (v ≤ 1099511627776)) = b:=⟨_,rfl⟩
 rw [hb]
 have HBB:=Lib.hid hb
 clear hb
 go_enter Tryd.func50,Tryd.ntmps50
 go_upto_region 2 with (go_at_call 51;refine (octet_ReadNum.calls 50 A c bl v (k : Int) e _ HC.out HCC.out HRN.out).mono ?_;rintro e1 w1 ⟨rfl,hd1⟩)
 have hh:=drawn_heap hd1
 have y0 : w1.cell? ⟨Bb,0,none⟩ = some (.slice A bl.length c):=(blk_cell (by rw [hh];exact HB1.out) 0).trans rfl
 have y1 : w1.cell? ⟨Bg,0,none⟩ = some (.bool good):=(blk_cell (by rw [hh];exact HB2.out) 0).trans rfl
 have z1 : w1.heap[Bg]? = some (.cells #[.bool good] 4 (0,0)):=by rw [hh];exact HB2.out
 have z0 : w1.heap[Bb]? = some (.cells #[.slice A bl.length c] 49 (0,0)):=by rw [hh];exact HB1.out
 have zk : ∀ k : Nat,w1.heap[k]? = w.heap[k]?:=fun k => by rw [hh]
 have hb1:=hd1.below
 have f1 : w1.frozen? ⟨Bg,0,none⟩ = false:=blk_frozen z1 _
 have f0 : w1.frozen? ⟨Bb,0,none⟩ = false:=blk_frozen z0 _
 have hne' : Bg ≠ Bb:=fun h => hne h.symm
 have Z0:=Lib.hid z0
 have Z1:=Lib.hid z1
 have ZK:=Lib.hid zk
 have HB3:=Lib.hid hb1
 clear hd1 hh z0 z1 zk hb1 x0
 have HCP:=Lib.hid hC'
 clear hC'
 have hfin:=fun y0 y1 => num_post (w:=w) y0 y1 Z0.out Z1.out hne ZK.out HB3.out
 have HF:=Lib.hid hfin
 clear hfin
 cases good
 ·obtain rfl : b = false:=by simpa using HBB.out.symm
  go_wp2
  go_ret
  exact ⟨rfl,A',(HF.out _ _).1,(HF.out _ _).2.1,HA.out,HCP.out,(HF.out _ _).2.2.1,(HF.out _ _).2.2.2⟩
 ·by_cases he : e = 0
  ·subst he
   by_cases hv : v ≤ 1099511627776
   ·obtain rfl : b = true:=by rw [← HBB.out];simp [hv]
    have t1 : decide (v ≤ 1099511627776) = true:=decide_eq_true hv
    go_wp2
    go_ret
    exact ⟨rfl,A',(HF.out _ _).1,(HF.out _ _).2.1,HA.out,HCP.out,(HF.out _ _).2.2.1,(HF.out _ _).2.2.2⟩
   ·obtain rfl : b = false:=by rw [← HBB.out];simp [hv]
    have t1 : decide (v ≤ 1099511627776) = false:=decide_eq_false hv
    go_wp2
    go_ret
    exact ⟨rfl,A',(HF.out _ _).1,(HF.out _ _).2.1,HA.out,HCP.out,(HF.out _ _).2.2.1,(HF.out _ _).2.2.2⟩
  ·have t1 : (e == 0) = false:=by simpa using he
   obtain rfl : b = false:=by rw [← HBB.out,t1];simp
   clear he
   go_wp2
   go_ret
   exact ⟨rfl,A',(HF.out _ _).1,(HF.out _ _).2.1,HA.out,HCP.out,(HF.out _ _).2.2.1,(HF.out _ _).2.2.2⟩
end Go.Proofs.YtedfgkjimnjdpaaDoor.X
namespace Go.Proofs.YtedfgkjimnjdpaaDoor.X
open Go.RowKit Go.Proofs.YtedfgkjimnjdpaaDoorW.PrintWords Go.Proofs.YtedfgkjimnjdpaaDoorW.PrintLast Go.Proofs.YtedfgkjimnjdpaaDoorW.PrintMore
set_option linter.unusedVariables false
set_option linter.unusedSimpArgs false
theorem blk_setCells_mid (g : Nat) (t : TypeId) : ∀ (vs : List Value) (o : Nat) (w : World) (cs : List Value),o + vs.length ≤ cs.length → w.heap[g]? = some (.cells cs.toArray t (0,0)) → (w.setCells g o vs).heap[g]? = some (.cells (cs.take o ++ vs ++ cs.drop (o + vs.length)).toArray t (0,0))
 | [],o,w,cs,hl,h => by
  rw [World.setCells,h]
  simp
 | v :: r,o,w,cs,hl,h => by
  rw [World.setCells]
  simp only [List.length_cons] at hl ⊢
  have h1:=blk_set h o v
  rw [show cs.toArray.setIfInBounds o v = (cs.set o v).toArray by simp] at h1
  rw [blk_setCells_mid g t r (o + 1) _ _ (by simp;omega) h1]
  congr 2
  rw [List.take_set,List.take_add_one,List.getElem?_eq_getElem (by omega),List.drop_set_of_lt (by omega)]
  simp only [Option.toList_some]
  rw [List.set_append,if_neg (by simp;omega),List.length_take,Nat.min_eq_left (by omega),Nat.sub_self,List.append_assoc,List.append_assoc,List.append_assoc,show o + 1 + r.length = o + (r.length + 1) by omega]
  rfl
theorem set_field {w : World} {g : Nat} {t : TypeId} {cs : List Value} (o : Nat) (y : Value) (ho : o < cs.length) (h : w.heap[g]? = some (.cells cs.toArray t (0,0))) : (w.setCell ⟨g,o,none⟩ y).heap[g]? = some (.cells (cs.set o y).toArray t (0,0)):=by
 have h1:=blk_setCells_mid g t [y] o w cs (by simp;omega) h
 refine h1.trans ?_
 rw [List.set_eq_take_append_cons_drop,if_pos ho]
 simp
theorem below_setCells {B : Nat} {w : World} (g : Nat) (hg : B ≤ g) : ∀ (vs : List Value) (o : Nat) (w1 : World),Below B w w1 → Below B w (w1.setCells g o vs)
 | [],_,_,h => h
 | v :: vs,o,w1,h => below_setCells g hg vs (o + 1) (w1.setCell ⟨g,o,none⟩ v) (h.setCell hg v)
def vR (q : Int) (g : ByteArray) (s c : Int) : List Value:=[.int .i64 q,.string g,.int .i64 s,.int .i64 c]
theorem infoR : ∃ ie,Tryd.prog.info? 39 = some ie ∧ ie.size = 4:=Option.map_eq_some_iff.1 (show (Tryd.prog.info? 39).map (·.size) = some 4 by kernel_rfl)
theorem aggR (w : World) : (isAgg 39).run Tryd.prog w = .ok true w:=by kernel_rfl
theorem store_R {w : World} {b : Nat} {cs : List Value} (hcs : cs.length = 4) (h : w.heap[b]? = some (.cells cs.toArray 39 (0,0))) (q : Int) (g : ByteArray) (s c : Int) :
  (storeVar 39 ⟨b,0,none⟩ (.agg (vR q g s c).toArray)).run Tryd.prog w = .ok () (w.setCells b 0 (vR q g s c)):=by
 obtain ⟨ie,hie,hsz⟩:=infoR
 refine Lib.rl_storeVar_cells (P:=Tryd.prog) 39 ie hie b 0 (vR q g s c) (by rw [hsz];rfl) (fun v hv => ?_) w (fun k hk => ?_) (fun k hk => blk_frozen h _)
 ·simp only [vR,List.mem_cons,List.mem_nil_iff,or_false] at hv
  rcases hv with rfl|rfl|rfl|rfl <;> rfl
 ·rw [blk_cell h,List.getElem?_toArray,List.getElem?_eq_getElem (by rw [hcs];simp [vR] at hk;omega)]
  rfl
theorem load_R {w : World} {b : Nat} {q : Int} {g : ByteArray} {s c : Int} (h : w.heap[b]? = some (.cells (vR q g s c).toArray 39 (0,0))) :
  (loadVar 39 ⟨b,0,none⟩).run Tryd.prog w = .ok (.agg (vR q g s c).toArray) w:=by
 obtain ⟨ie,hie,hsz⟩:=infoR
 refine Lib.rl_loadVar_cells (P:=Tryd.prog) 39 ie hie aggR b 0 (vR q g s c) (by rw [hsz];rfl) w (fun k v hv => ?_)
 rw [Nat.zero_add,blk_cell h,List.getElem?_toArray]
 exact hv
theorem set_R {w : World} {b : Nat} {cs : List Value} (hcs : cs.length = 4) (h : w.heap[b]? = some (.cells cs.toArray 39 (0,0))) (q : Int) (g : ByteArray) (s c : Int) :
  (w.setCells b 0 (vR q g s c)).heap[b]? = some (.cells (vR q g s c).toArray 39 (0,0)):=by
 have:=blk_setCells b 39 (vR q g s c) 0 w cs (by rw [hcs];rfl) h
 rwa [List.take_zero,List.nil_append] at this
theorem resR {cs : List Value} (h : cs.length = 4) : (Tryd.prog.info? 39).map (·.size) = some cs.toArray.size:=by
 rw [List.size_toArray,h]
 kernel_rfl
def openV (s : ByteArray) : Int × ByteArray × Int × Int × Int:=match openB s with|some (q,g,s,c) => (q,g,s,c,0)|none => (0,⟨#[]⟩,0,0,12)
theorem encR_ge : ∀ f : List Int,f.length ≤ (encR f).length
 | [] => by simp
 | [_] => by simp [encR]
 | [_,_] => by simp [encR]
 | _ :: _ :: _ :: l => by have:=encR_ge l;simp only [encR,List.length_cons];omega
theorem openR_eq (b b1 b2 b3 b4 : List Int) (h1 : b.drop (rdN b).2.1.toNat = b1) (h2 : b1.drop (rdX b1).2.1.toNat = b2) (h3 : b2.drop (rdN b2).2.1.toNat = b3) (h4 : b3.drop (rdN b3).2.1.toNat = b4) :
  openR b = if (((true && (rdN b).2.2 == 0 && decide ((rdN b).1 ≤ 1099511627776)) && (rdN b2).2.2 == 0 && decide ((rdN b2).1 ≤ 1099511627776)) && (rdN b3).2.2 == 0 && decide ((rdN b3).1 ≤ 1099511627776)) = true ∧ (rdX b1).2.2 = 0 ∧ b4 = [] ∧ (rdX b1).1.size ≤ 32 then some ((rdN b).1,(rdX b1).1,(rdN b2).1,(rdN b3).1) else none:=by
 unfold openR
 rw [h1,h2,h3,h4]
 congr 1
 apply propext
 simp only [Bool.and_eq_true,beq_iff_eq,decide_eq_true_eq,true_and]
 constructor
 ·rintro ⟨a1,a2,a3,a4,a5,a6,a7,a8,a9⟩
  exact ⟨⟨⟨⟨⟨⟨a1,a2⟩,a5⟩,a6⟩,a7⟩,a8⟩,a3,a9,a4⟩
 ·rintro ⟨⟨⟨⟨⟨⟨a1,a2⟩,a5⟩,a6⟩,a7⟩,a8⟩,a3,a9,a4⟩
  exact ⟨a1,a2,a3,a4,a5,a6,a7,a8,a9⟩
structure OpI (wN W : World) (A : Option Addr) (c : Nat) (bl : List Int) (good : Bool) (vs : List Value) : Prop where
 N : Below wN.heap.size wN W
 b : W.heap[wN.heap.size]? = some (.cells #[.slice A bl.length c] 49 (0,0))
 g : W.heap[wN.heap.size + 1]? = some (.cells #[.bool good] 4 (0,0))
 r : W.heap[wN.heap.size + 1 + 1]? = some (.cells vs.toArray 39 (0,0))
 C : Kd.C (Kd.int .u8) wN A bl.length bl
 c : bl.length ≤ c
 y : byteL bl
 l : bl.length ≤ 1000000
theorem set_otherO {w : World} {g k : Nat} (o : Nat) (y : Value) (h : k ≠ g) : (w.setCell ⟨g,o,none⟩ y).heap[k]? = w.heap[k]?:=Below.heap_setCell w ⟨g,o,none⟩ y k h
theorem OpI.num {wN W : World} {A : Option Addr} {c : Nat} {bl : List Int} {good : Bool} {vs : List Value} (h : OpI wN W A c bl good vs) :
  Calls Tryd.prog 50 #[.pointer (some ⟨wN.heap.size,0,none⟩),.pointer (some ⟨wN.heap.size + 1,0,none⟩)] W fun e w' => e = .returned (.int .i64 (rdN bl).1) ∧
   ∃ A',OpI wN w' A' (c - (rdN bl).2.1.toNat) (bl.drop (rdN bl).2.1.toNat) (good && (rdN bl).2.2 == 0 && decide ((rdN bl).1 ≤ 1099511627776)) vs:=by
 refine (num1_calls wN.heap.size (wN.heap.size + 1) A c bl good W h.b h.g (by omega) (Kd.C_below h.C h.N) h.c h.y h.l).mono ?_
 rintro e w' ⟨rfl,A',q1,q2,q3,q4,q5,q6⟩
 exact ⟨rfl,A',⟨h.N.trans (q6 wN.heap.size (Nat.le_refl _) (by omega) h.N.size),q1,q2,(q5 _ (by omega) (by omega)).trans h.r,q3 _ h.C,q4,h.y.drop _,by rw [List.length_drop];have:=h.l;omega⟩⟩
theorem OpI.num' {wN W : World} {A : Option Addr} {c : Nat} {bl bl' : List Int} {good : Bool} {vs : List Value} (h : OpI wN W A c bl good vs) {v k e : Int} (hq : rdN bl = (v,k,e)) (hd : bl.drop k.toNat = bl') :
  Calls Tryd.prog 50 #[.pointer (some ⟨wN.heap.size,0,none⟩),.pointer (some ⟨wN.heap.size + 1,0,none⟩)] W fun e_ w' => e_ = .returned (.int .i64 v) ∧
   ∃ A' c',OpI wN w' A' c' bl' (good && e == 0 && decide (v ≤ 1099511627776)) vs:=by
 refine h.num.mono ?_
 rintro e_ w' ⟨rfl,A',h'⟩
 rw [hq] at h' ⊢
 rw [hd] at h'
 exact ⟨rfl,A',_,h'⟩
theorem OpI.set {wN W : World} {A : Option Addr} {c : Nat} {bl : List Int} {good : Bool} {vs : List Value} (h : OpI wN W A c bl good vs) (o : Nat) (y : Value) (ho : o < vs.length) : OpI wN (W.setCell ⟨wN.heap.size + 1 + 1,o,none⟩ y) A c bl good (vs.set o y) :=
 ⟨h.N.setCell (show wN.heap.size ≤ wN.heap.size + 1 + 1 by omega) _,(set_otherO o y (show wN.heap.size ≠ wN.heap.size + 1 + 1 by omega)).trans h.b,(set_otherO o y (show wN.heap.size + 1 ≠ wN.heap.size + 1 + 1 by omega)).trans h.g,set_field o y ho h.r,h.C,h.c,h.y,h.l⟩
theorem OpI.drawn {wN W W' : World} {A : Option Addr} {c : Nat} {bl : List Int} {good : Bool} {vs : List Value} (h : OpI wN W A c bl good vs) (hd : Drawn0 W W') : OpI wN W' A c bl good vs :=
 ⟨below_step h.N hd.below,by rw [drawn_heap hd];exact h.b,by rw [drawn_heap hd];exact h.g,by rw [drawn_heap hd];exact h.r,h.C,h.c,h.y,h.l⟩
theorem OpI.cut {wN W : World} {A A' : Option Addr} {c c' : Nat} {bl bl' : List Int} {good : Bool} {vs : List Value} (h : OpI wN W A c bl good vs) (hC : ∀ w,Kd.C (Kd.int .u8) w A bl.length bl → Kd.C (Kd.int .u8) w A' bl'.length bl') (hc : bl'.length ≤ c') (hy : byteL bl') (hl : bl'.length ≤ bl.length) :
  OpI wN (W.setCell ⟨wN.heap.size,0,none⟩ (.slice A' bl'.length c')) A' c' bl' good vs :=
 ⟨h.N.setCell (Nat.le_refl _) _,set_one h.b _,(set_otherO 0 _ (show wN.heap.size + 1 ≠ wN.heap.size by omega)).trans h.g,(set_otherO 0 _ (show wN.heap.size + 1 + 1 ≠ wN.heap.size by omega)).trans h.r,hC _ h.C,hc,hy,Nat.le_trans hl h.l⟩
theorem OpI.at0 {wN W : World} {A : Option Addr} {c : Nat} {bl : List Int} {good : Bool} {vs : List Value} (h : OpI wN W A c bl good vs) : W.cell? ⟨wN.heap.size,0,none⟩ = some (.slice A bl.length c) ∧ W.frozen? ⟨wN.heap.size,0,none⟩ = false :=
 ⟨(blk_cell h.b 0).trans rfl,blk_frozen h.b _⟩
theorem OpI.at1 {wN W : World} {A : Option Addr} {c : Nat} {bl : List Int} {good : Bool} {vs : List Value} (h : OpI wN W A c bl good vs) : W.cell? ⟨wN.heap.size + 1,0,none⟩ = some (.bool good):=(blk_cell h.g 0).trans rfl
theorem OpI.at2 {wN W : World} {A : Option Addr} {c : Nat} {bl : List Int} {good : Bool} {vs : List Value} (h : OpI wN W A c bl good vs) (o : Nat) (x : Value) (hx : vs[o]? = some x) : W.cell? ⟨wN.heap.size + 1 + 1,o,none⟩ = some x ∧ W.frozen? ⟨wN.heap.size + 1 + 1,o,none⟩ = false :=
 ⟨(blk_cell h.r o).trans (by rw [List.getElem?_toArray];exact hx),blk_frozen h.r _⟩
set_option maxHeartbeats 4000000 in
set_option maxRecDepth 100000 in
theorem open_calls (s : ByteArray) (hs : s.size ≤ 131072) (w : World) (hG : GlobCr w) :
  Calls Tryd.prog 22 #[.string s] w fun e w' => e = .returned (.tuple #[.agg (vR (openV s).1 (openV s).2.1 (openV s).2.2.1 (openV s).2.2.2.1).toArray,.int .i64 (openV s).2.2.2.2]) ∧ Below w.heap.size w w':=by
 obtain ⟨e0,he0,hdec⟩:=Decode_is s hs (s.size + 100) (by omega)
 have eg : ∀ args w,(callFunc 50 args).run Tryd.prog w = .ok (.enter 50 args) w:=fun args w => enters_ Tryd.func50 (by kernel_rfl) (by kernel_rfl) args w
 cases hd : decL s.data.toList with
 | none =>
  have ho : openV s = (0,⟨#[]⟩,0,0,12):=by unfold openV openB;rw [hd]
  rw [ho]
  rw [hd] at hdec
  have HD:=Lib.hid hdec
  have t0 : (e0 != 0) = true:=by simpa using he0
  clear hdec hd he0 ho
  go_enter Tryd.func22,Tryd.ntmps22
  go_upto_region 3 with (go_at_call 48;refine (basic_Decode.calls _ s _ _ _ HD.out).mono ?_;rintro e w1 ⟨v1,rfl,ho1,hb1⟩)
  obtain ⟨Z,hZ⟩ : ∃ Z,w.alloc (.cells (vR 0 ⟨#[]⟩ 0 0).toArray 39 (0,0)) = Z:=⟨_,rfl⟩
  have hz : Z.heap[w.heap.size]? = some (.cells (vR 0 ⟨#[]⟩ 0 0).toArray 39 (0,0)):=by rw [← hZ];exact heap_alloc_new w _
  have hbz : Below w.heap.size w Z:=by rw [← hZ];exact (Below.refl _ _).alloc (Nat.le_refl _) _
  have hb1' : Below Z.heap.size Z w1:=by rw [← hZ];exact hb1
  have h1:=blk_below hz hb1'
  have hbw:=below_step hbz hb1'
  clear hb1 ho1 hb1' hZ hz hbz
  refine wp_region_lit ?_
  refine wpList_step (fun K hK => ?_)
  go_simp
  refine hK _ _ ?_
  clear hK K
  refine wpList_store_at rfl _ _ _ rfl ⟨w.heap.size,0,none⟩ rfl (.agg (vR 0 ⟨#[]⟩ 0 0).toArray) rfl (store_R (cs:=vR 0 ⟨#[]⟩ 0 0) rfl h1 0 ⟨#[]⟩ 0 0) ?_
  have h2:=set_R (cs:=vR 0 ⟨#[]⟩ 0 0) rfl h1 0 ⟨#[]⟩ 0 0
  have hb2:=below_setCells w.heap.size (Nat.le_refl _) (vR 0 ⟨#[]⟩ 0 0) 0 w1 hbw
  simp only [Act.put]
  generalize w1.setCells w.heap.size 0 (vR 0 ⟨#[]⟩ 0 0) = w2 at *
  have H2:=Lib.hid h2
  have HB2:=Lib.hid hb2
  clear h1 h2 hb2 hbw
  refine wpList_step (fun K hK => ?_)
  go_simp
  refine hK _ _ ?_
  clear hK K
  refine wpList_nil ?_
  go_wp2
  exact ⟨rfl,_,results_ct rfl _ _ w.heap.size 39 _ (0,0) _ rfl H2.out Tryd.underlying39 rfl (resR rfl),rfl,HB2.out⟩
 | some f =>
  obtain ⟨hf1,hf2⟩:=enc_decL _ _ hd
  have hfl : f.length ≤ s.size:=by
   have h1:=encR_ge f
   rw [hf1] at h1
   exact h1
  rw [hd] at hdec
  have HD:=Lib.hid hdec
  have hov : openV s = match (if (nextB f).2.2 ≠ 0 ∨ (nextB f).2.1 ≠ (f.length : Int) then none else openR (nextB f).1) with|some (q,g,s,c) => (q,g,s,c,0)|none => (0,⟨#[]⟩,0,0,12):=by
   unfold openV openB
   rw [hd]
  have HOV:=Lib.hid hov
  have HFB:=Lib.hid hf2
  have HG:=Lib.hid hG
  obtain ⟨b,x,e,hbxe⟩ : ∃ b x e,nextB f = (b,x,e):=⟨_,_,_,rfl⟩
  have HBX:=Lib.hid hbxe
  have hnb : e = 0 → byteL b ∧ b.length ≤ 1000000:=by
   intro he
   unfold nextB at hbxe
   subst he
   split at hbxe
   ·simp at hbxe
   ·split at hbxe
    ·simp at hbxe
    ·split at hbxe
     ·simp at hbxe
     ·split at hbxe
      ·simp at hbxe
      ·split at hbxe
       ·simp at hbxe
       ·simp only [Prod.mk.injEq] at hbxe
        rw [← hbxe.1]
        exact ⟨byteL.take (byteL.drop hf2 12) _,by rw [List.length_take,List.length_drop];omega⟩
  have HNB:=Lib.hid hnb
  clear hdec hd he0 hov hf1 hf2 hG hbxe hnb
  have hfm : f.length ≤ 1000000:=by omega
  have HFM:=Lib.hid hfm
  clear hfl hfm hs
  go_enter Tryd.func22,Tryd.ntmps22
  go_upto_region 4 with (go_at_call 48;refine (basic_Decode.calls _ s _ _ _ HD.out).mono ?_;rintro e w1 ⟨v1,rfl,ho1,hb1⟩)
  obtain ⟨Z,hZ⟩ : ∃ Z,w.alloc (.cells (vR 0 ⟨#[]⟩ 0 0).toArray 39 (0,0)) = Z:=⟨_,rfl⟩
  have hz : Z.heap[w.heap.size]? = some (.cells (vR 0 ⟨#[]⟩ 0 0).toArray 39 (0,0)):=by rw [← hZ];exact heap_alloc_new w _
  have hbz : Below w.heap.size w Z:=by rw [← hZ];exact (Below.refl _ _).alloc (Nat.le_refl _) _
  have hb1' : Below Z.heap.size Z w1:=by rw [← hZ];exact hb1
  have h1:=blk_below hz hb1'
  have hbw:=below_step hbz hb1'
  obtain ⟨A1,c1,rfl⟩:=Kd.R_slice ho1
  have hr1:=Kd.R_reads' ho1
  have HN:=Lib.hid (crc_Next_calls A1 c1 f w1 (HG.out.below hbw) hr1.2.2 hr1.2.1 HFB.out HFM.out)
  have H1:=Lib.hid h1
  have HBW:=Lib.hid hbw
  clear hb1 ho1 hb1' hZ hz hbz h1 hbw hr1
  rw [HBX.out] at HN
  go_upto_region 5 with (go_at_call 49;refine HN.out.mono ?_;rintro e w3 ⟨v3,rfl,ho3,hb3⟩;obtain ⟨A3,c3,rfl⟩:=Kd.R_slice ho3)
  have h1:=blk_below H1.out hb3
  have hbw:=below_step HBW.out hb3
  have H13:=Lib.hid h1
  have HB13:=Lib.hid hbw
  have hr3:=Kd.R_reads' ho3
  have H1:=Lib.hid (blk_alloc h1 (.cells #[.slice A3 b.length c3] 49 (0,0)))
  have HBW:=Lib.hid (hbw.alloc hbw.size (.cells #[.slice A3 b.length c3] 49 (0,0)))
  have HC3:=Lib.hid hr3
  clear ho3 hb3 h1 hbw hr3
  by_cases he : e = 0
  ·subst he
   by_cases hx : x = (f.length : Int)
   ·subst hx
    have hov:=HOV.out
    rw [HBX.out,if_neg (by simp)] at hov
    have HOV2:=Lib.hid hov
    have hnb:=HNB.out rfl
    have HNB2:=Lib.hid hnb
    clear hov hnb
    go_upto_region 10 with (fail)
    obtain ⟨W4,hW4⟩ : ∃ W4,(((w3.alloc (Obj.cells #[Value.slice A3 b.length c3] 49 (0,0))).alloc (Obj.cells #[Value.bool true] 4 (0,0))).alloc (Obj.cells #[Value.int IntKind.i64 0,Value.string ⟨#[]⟩,Value.int IntKind.i64 0,Value.int IntKind.i64 0] 39 (0,0))) = W4:=⟨_,rfl⟩
    have hI : OpI w3 W4 A3 c3 b true (vR 0 ⟨#[]⟩ 0 0):=by
     rw [← hW4]
     refine ⟨(((Below.refl _ _).alloc (Nat.le_refl _) _).alloc (by simp [World.size_alloc]) _).alloc (by simp [World.size_alloc];omega) _,?_,?_,?_,HC3.out.2.2,HC3.out.2.1,HNB2.out.1,HNB2.out.2⟩
     ·exact blk_alloc (blk_alloc (heap_alloc_new w3 _) _) _
     ·have:=blk_alloc (heap_alloc_new (w3.alloc (Obj.cells #[Value.slice A3 b.length c3] 49 (0,0))) (Obj.cells #[Value.bool true] 4 (0,0))) (Obj.cells #[Value.int IntKind.i64 0,Value.string ⟨#[]⟩,Value.int IntKind.i64 0,Value.int IntKind.i64 0] 39 (0,0))
      rw [World.size_alloc] at this
      exact this
     ·have:=heap_alloc_new ((w3.alloc (Obj.cells #[Value.slice A3 b.length c3] 49 (0,0))).alloc (Obj.cells #[Value.bool true] 4 (0,0))) (Obj.cells #[Value.int IntKind.i64 0,Value.string ⟨#[]⟩,Value.int IntKind.i64 0,Value.int IntKind.i64 0] 39 (0,0))
      rw [World.size_alloc,World.size_alloc] at this
      exact this
    rw [hW4]
    clear hW4
    obtain ⟨q1,k1,e1,hq1⟩ : ∃ v k e,rdN b = (v,k,e):=⟨_,_,_,rfl⟩
    obtain ⟨b1,hb1⟩ : ∃ l,b.drop k1.toNat = l:=⟨_,rfl⟩
    obtain ⟨g,k2,e2,hq2⟩ : ∃ v k e,rdX b1 = (v,k,e):=⟨_,_,_,rfl⟩
    obtain ⟨b2,hb2⟩ : ∃ l,b1.drop k2.toNat = l:=⟨_,rfl⟩
    obtain ⟨q3,k3,e3,hq3⟩ : ∃ v k e,rdN b2 = (v,k,e):=⟨_,_,_,rfl⟩
    obtain ⟨b3,hb3⟩ : ∃ l,b2.drop k3.toNat = l:=⟨_,rfl⟩
    obtain ⟨q4,k4,e4,hq4⟩ : ∃ v k e,rdN b3 = (v,k,e):=⟨_,_,_,rfl⟩
    obtain ⟨b4,hb4⟩ : ∃ l,b3.drop k4.toNat = l:=⟨_,rfl⟩
    have heq:=openR_eq b b1 b2 b3 b4 (by rw [hq1];exact hb1) (by rw [hq2];exact hb2) (by rw [hq3];exact hb3) (by rw [hq4];exact hb4)
    rw [hq1,hq2,hq3,hq4] at heq
    have h2r:=rdX_range b1
    rw [hq2] at h2r
    have HQ1:=Lib.hid hq1
    have HQ2:=Lib.hid hq2
    have HQ3:=Lib.hid hq3
    have HQ4:=Lib.hid hq4
    have HB1:=Lib.hid hb1
    have HB2:=Lib.hid hb2
    have HB3:=Lib.hid hb3
    have HB4:=Lib.hid hb4
    have HEQ:=Lib.hid heq
    have H2R:=Lib.hid h2r
    have HI:=Lib.hid hI
    clear hq1 hq2 hq3 hq4 hb1 hb2 hb3 hb4 heq h2r hI
    go_upto_region 11 with (go_at_fn 50;refine (HI.out.num' HQ1.out HB1.out).mono ?_;rintro e w5 ⟨rfl,A5,c5,hI5⟩;have y0:=hI5.at2 0 (.int .i64 0) rfl;have y1:=y0.2;have y2:=y0.1;clear y0)
    have HI5:=Lib.hid (hI5.set 0 (.int .i64 q1) (by decide))
    clear hI5 y1 y2 HI
    generalize World.setCell w5 _ _ = w6 at *
    have y0:=HI5.out.at0.1
    go_upto_region 12 with (go_at_call 52;refine (octet_ReadText.calls 50 A5 c5 b1 g k2 e2 _ (Kd.C_below HI5.out.C HI5.out.N) HI5.out.c (by rw [ReadText_is b1 HI5.out.y (Nat.le_trans HI5.out.l (by decide)) 50 (by omega),HQ2.out])).mono ?_;rintro e w7 ⟨rfl,hd7⟩)
    have HI7:=Lib.hid (HI5.out.drawn hd7)
    clear HI5 y0 hd7
    obtain ⟨m2,hm2⟩ : ∃ m : Nat,k2 = (m : Int):=⟨k2.toNat,(Int.toNat_of_nonneg H2R.out.1).symm⟩
    subst hm2
    obtain ⟨A8,hcut,hA8,hC8⟩:=cut_drop A5 c5 b1 m2 (by have:=H2R.out.2;exact_mod_cast this) HI7.out.c
    have hbb:=HB2.out
    rw [Int.toNat_natCast] at hbb
    rw [hbb] at hcut hA8 hC8
    have y0:=HI7.out.at0.1
    have y1:=HI7.out.at0.2
    have HI8:=Lib.hid (HI7.out.cut hA8 hC8 (by rw [← hbb];exact HI7.out.y.drop _) (by rw [← hbb,List.length_drop];omega))
    clear hA8 hC8 hbb
    go_upto_region 13 with (fail)
    clear hcut y0 y1 HI7
    generalize World.setCell w7 _ _ = w8 at *
    have y1:=(HI8.out.at2 1 (.string ⟨#[]⟩) rfl).1
    have y2:=(HI8.out.at2 1 (.string ⟨#[]⟩) rfl).2
    have HI9:=Lib.hid (HI8.out.set 1 (.string g) (by simp [vR]))
    go_upto_region 14 with (fail)
    clear y1 y2 HI8
    generalize World.setCell w8 _ _ = w9 at *
    go_upto_region 15 with (go_at_fn 50;refine (HI9.out.num' HQ3.out HB3.out).mono ?_;rintro e w10 ⟨rfl,A10,c10,hI10⟩;have y0:=hI10.at2 2 (.int .i64 0) rfl;have y1:=y0.2;have y2:=y0.1;clear y0)
    have HI10:=Lib.hid (hI10.set 2 (.int .i64 q3) (by simp [vR]))
    clear hI10 y1 y2 HI9
    generalize World.setCell w10 _ _ = w11 at *
    go_upto_region 16 with (go_at_fn 50;refine (HI10.out.num' HQ4.out HB4.out).mono ?_;rintro e w12 ⟨rfl,A12,c12,hI12⟩;have y0:=hI12.at2 3 (.int .i64 0) rfl;have y1:=y0.2;have y2:=y0.1;clear y0)
    have hI13:=hI12.set 3 (.int .i64 q4) (by simp [vR])
    clear hI12 y1 y2 HI10
    generalize World.setCell w12 _ _ = w13 at *
    change OpI w3 w13 A12 c12 b4 _ (vR q1 g q3 q4) at hI13
    have heq:=HEQ.out
    generalize (((true && e1 == 0 && decide (q1 ≤ 1099511627776)) && e3 == 0 && decide (q3 ≤ 1099511627776)) && e4 == 0 && decide (q4 ≤ 1099511627776)) = G at *
    have hvo:=HOV2.out
    rw [heq] at hvo
    have z0:=hI13.at0.1
    have z1:=hI13.at1
    have HI13:=Lib.hid hI13
    have HVO:=Lib.hid hvo
    have HHA:=Lib.hid (blk_below H13.out hI13.N)
    have HHB:=Lib.hid (below_step HB13.out hI13.N)
    clear heq hvo hI13
    cases G with
    | false =>
     have hv:=HVO.out
     rw [if_neg (fun h => absurd h.1 (by decide))] at hv
     have HOV3:=Lib.hid (show openV s = (0,⟨#[]⟩,0,0,12) from hv)
     clear hv
     go_upto_region 17 with (fail)
     have h1:=HHA.out
     have hbw:=HHB.out
     refine wp_region_lit ?_
     refine wpList_step (fun K hK => ?_)
     go_simp
     refine hK _ _ ?_
     clear hK K
     refine wpList_store_at rfl _ _ _ rfl ⟨w.heap.size,0,none⟩ rfl (.agg (vR 0 ⟨#[]⟩ 0 0).toArray) rfl (store_R (cs:=vR 0 ⟨#[]⟩ 0 0) rfl h1 0 ⟨#[]⟩ 0 0) ?_
     have h2:=set_R (cs:=vR 0 ⟨#[]⟩ 0 0) rfl h1 0 ⟨#[]⟩ 0 0
     have hb2:=below_setCells w.heap.size (Nat.le_refl _) (vR 0 ⟨#[]⟩ 0 0) 0 _ hbw
     simp only [Act.put]
     generalize World.setCells _ w.heap.size 0 (vR 0 ⟨#[]⟩ 0 0) = w2 at *
     have H2:=Lib.hid h2
     have HB2:=Lib.hid hb2
     clear h1 h2 hb2 hbw
     refine wpList_step (fun K hK => ?_)
     go_simp
     refine hK _ _ ?_
     clear hK K
     refine wpList_nil ?_
     go_wp2
     exact ⟨rfl,_,results_ct rfl _ _ w.heap.size 39 _ (0,0) _ rfl H2.out Tryd.underlying39 rfl (resR rfl),by rw [HOV3.out];rfl,HB2.out⟩
    | true =>
     by_cases he2 : e2 = 0
     ·subst he2
      by_cases hb4 : b4 = []
      ·have hb40 : b4.length = 0:=by rw [hb4];rfl
       rw [hb40] at z0
       by_cases hg32 : g.size ≤ 32
       ·have t3 : decide ((32 : Int) < (g.size : Int)) = false:=decide_eq_false (by omega)
        have t4 : decide (32 < g.size) = false:=decide_eq_false (by omega)
        have hv:=HVO.out
        rw [if_pos ⟨rfl,rfl,hb4,hg32⟩] at hv
        have HOV3:=Lib.hid (show openV s = (q1,g,q3,q4,0) from hv)
        clear hv hb4 hb40 hg32
        go_upto_region 18 with (fail)
        have h1:=HHA.out
        have hbw:=HHB.out
        have hl:=load_R HI13.out.r
        refine wp_region_lit ?_
        refine wpList_load_at rfl _ _ rfl _ rfl _ hl ?_
        refine wpList_store_at rfl _ _ _ rfl ⟨w.heap.size,0,none⟩ rfl (.agg (vR q1 g q3 q4).toArray) rfl (store_R (cs:=vR 0 ⟨#[]⟩ 0 0) rfl h1 q1 g q3 q4) ?_
        have h2:=set_R (cs:=vR 0 ⟨#[]⟩ 0 0) rfl h1 q1 g q3 q4
        have hb2:=below_setCells w.heap.size (Nat.le_refl _) (vR q1 g q3 q4) 0 _ hbw
        simp only [Act.put]
        generalize World.setCells _ w.heap.size 0 (vR q1 g q3 q4) = w2 at *
        have H2:=Lib.hid h2
        have HB2:=Lib.hid hb2
        clear h1 h2 hb2 hbw hl z0 z1 t3 t4
        refine wpList_step (fun K hK => ?_)
        go_simp
        refine hK _ _ ?_
        clear hK K
        refine wpList_nil ?_
        go_wp2
        exact ⟨rfl,_,results_ct rfl _ _ w.heap.size 39 _ (0,0) _ rfl H2.out Tryd.underlying39 rfl (resR rfl),by rw [HOV3.out];rfl,HB2.out⟩
       ·have t3 : decide ((32 : Int) < (g.size : Int)) = true:=decide_eq_true (by omega)
        have t4 : decide (32 < g.size) = true:=decide_eq_true (by omega)
        have hv:=HVO.out
        rw [if_neg (fun h => hg32 h.2.2.2)] at hv
        have HOV3:=Lib.hid (show openV s = (0,⟨#[]⟩,0,0,12) from hv)
        clear hv hb4 hb40 hg32
        go_upto_region 17 with (fail)
        have h1:=HHA.out
        have hbw:=HHB.out
        refine wp_region_lit ?_
        refine wpList_step (fun K hK => ?_)
        go_simp
        refine hK _ _ ?_
        clear hK K
        refine wpList_store_at rfl _ _ _ rfl ⟨w.heap.size,0,none⟩ rfl (.agg (vR 0 ⟨#[]⟩ 0 0).toArray) rfl (store_R (cs:=vR 0 ⟨#[]⟩ 0 0) rfl h1 0 ⟨#[]⟩ 0 0) ?_
        have h2:=set_R (cs:=vR 0 ⟨#[]⟩ 0 0) rfl h1 0 ⟨#[]⟩ 0 0
        have hb2:=below_setCells w.heap.size (Nat.le_refl _) (vR 0 ⟨#[]⟩ 0 0) 0 _ hbw
        simp only [Act.put]
        generalize World.setCells _ w.heap.size 0 (vR 0 ⟨#[]⟩ 0 0) = w2 at *
        have H2:=Lib.hid h2
        have HB2:=Lib.hid hb2
        clear h1 h2 hb2 hbw
        refine wpList_step (fun K hK => ?_)
        go_simp
        refine hK _ _ ?_
        clear hK K
        refine wpList_nil ?_
        go_wp2
        exact ⟨rfl,_,results_ct rfl _ _ w.heap.size 39 _ (0,0) _ rfl H2.out Tryd.underlying39 rfl (resR rfl),by rw [HOV3.out];rfl,HB2.out⟩
      ·have hpos : 0 < b4.length:=by
        cases b4 with
        | nil => exact absurd rfl hb4
        | cons x l => simp
       have t3 : decide ((0 : Int) < (b4.length : Int)) = true:=decide_eq_true (by omega)
       have t4 : decide (0 < b4.length) = true:=decide_eq_true hpos
       have hv:=HVO.out
       rw [if_neg (fun h => hb4 h.2.2.1)] at hv
       have HOV3:=Lib.hid (show openV s = (0,⟨#[]⟩,0,0,12) from hv)
       clear hv hb4 hpos
       go_upto_region 17 with (fail)
       have h1:=HHA.out
       have hbw:=HHB.out
       refine wp_region_lit ?_
       refine wpList_step (fun K hK => ?_)
       go_simp
       refine hK _ _ ?_
       clear hK K
       refine wpList_store_at rfl _ _ _ rfl ⟨w.heap.size,0,none⟩ rfl (.agg (vR 0 ⟨#[]⟩ 0 0).toArray) rfl (store_R (cs:=vR 0 ⟨#[]⟩ 0 0) rfl h1 0 ⟨#[]⟩ 0 0) ?_
       have h2:=set_R (cs:=vR 0 ⟨#[]⟩ 0 0) rfl h1 0 ⟨#[]⟩ 0 0
       have hb2:=below_setCells w.heap.size (Nat.le_refl _) (vR 0 ⟨#[]⟩ 0 0) 0 _ hbw
       simp only [Act.put]
       generalize World.setCells _ w.heap.size 0 (vR 0 ⟨#[]⟩ 0 0) = w2 at *
       have H2:=Lib.hid h2
       have HB2:=Lib.hid hb2
       clear h1 h2 hb2 hbw
       refine wpList_step (fun K hK => ?_)
       go_simp
       refine hK _ _ ?_
       clear hK K
       refine wpList_nil ?_
       go_wp2
       exact ⟨rfl,_,results_ct rfl _ _ w.heap.size 39 _ (0,0) _ rfl H2.out Tryd.underlying39 rfl (resR rfl),by rw [HOV3.out];rfl,HB2.out⟩
     ·have t3 : (e2 != 0) = true:=by simpa using he2
      have hv:=HVO.out
      rw [if_neg (fun h => he2 h.2.1)] at hv
      have HOV3:=Lib.hid (show openV s = (0,⟨#[]⟩,0,0,12) from hv)
      clear hv he2
      go_upto_region 17 with (fail)
      have h1:=HHA.out
      have hbw:=HHB.out
      refine wp_region_lit ?_
      refine wpList_step (fun K hK => ?_)
      go_simp
      refine hK _ _ ?_
      clear hK K
      refine wpList_store_at rfl _ _ _ rfl ⟨w.heap.size,0,none⟩ rfl (.agg (vR 0 ⟨#[]⟩ 0 0).toArray) rfl (store_R (cs:=vR 0 ⟨#[]⟩ 0 0) rfl h1 0 ⟨#[]⟩ 0 0) ?_
      have h2:=set_R (cs:=vR 0 ⟨#[]⟩ 0 0) rfl h1 0 ⟨#[]⟩ 0 0
      have hb2:=below_setCells w.heap.size (Nat.le_refl _) (vR 0 ⟨#[]⟩ 0 0) 0 _ hbw
      simp only [Act.put]
      generalize World.setCells _ w.heap.size 0 (vR 0 ⟨#[]⟩ 0 0) = w2 at *
      have H2:=Lib.hid h2
      have HB2:=Lib.hid hb2
      clear h1 h2 hb2 hbw
      refine wpList_step (fun K hK => ?_)
      go_simp
      refine hK _ _ ?_
      clear hK K
      refine wpList_nil ?_
      go_wp2
      exact ⟨rfl,_,results_ct rfl _ _ w.heap.size 39 _ (0,0) _ rfl H2.out Tryd.underlying39 rfl (resR rfl),by rw [HOV3.out];rfl,HB2.out⟩
   ·have t1 : (x != (f.length : Int)) = true:=by simpa using hx
    have hov:=HOV.out
    rw [HBX.out,if_pos (.inr hx)] at hov
    have HOV2:=Lib.hid (show openV s = (0,⟨#[]⟩,0,0,12) from hov)
    clear hx hov
    go_upto_region 6 with (fail)
    have h1:=H1.out
    have hbw:=HBW.out
    refine wp_region_lit ?_
    refine wpList_step (fun K hK => ?_)
    go_simp
    refine hK _ _ ?_
    clear hK K
    refine wpList_store_at rfl _ _ _ rfl ⟨w.heap.size,0,none⟩ rfl (.agg (vR 0 ⟨#[]⟩ 0 0).toArray) rfl (store_R (cs:=vR 0 ⟨#[]⟩ 0 0) rfl h1 0 ⟨#[]⟩ 0 0) ?_
    have h2:=set_R (cs:=vR 0 ⟨#[]⟩ 0 0) rfl h1 0 ⟨#[]⟩ 0 0
    have hb2:=below_setCells w.heap.size (Nat.le_refl _) (vR 0 ⟨#[]⟩ 0 0) 0 _ hbw
    simp only [Act.put]
    generalize World.setCells _ w.heap.size 0 (vR 0 ⟨#[]⟩ 0 0) = w2 at *
    have H2:=Lib.hid h2
    have HB2:=Lib.hid hb2
    clear h1 h2 hb2 hbw
    refine wpList_step (fun K hK => ?_)
    go_simp
    refine hK _ _ ?_
    clear hK K
    refine wpList_nil ?_
    go_wp2
    exact ⟨rfl,_,results_ct rfl _ _ w.heap.size 39 _ (0,0) _ rfl H2.out Tryd.underlying39 rfl (resR rfl),by rw [HOV2.out];rfl,HB2.out⟩
  ·have t1 : (e != 0) = true:=by simpa using he
   have hov:=HOV.out
   rw [HBX.out,if_pos (.inl he)] at hov
   have HOV2:=Lib.hid (show openV s = (0,⟨#[]⟩,0,0,12) from hov)
   clear he hov
   go_upto_region 6 with (fail)
   have h1:=H1.out
   have hbw:=HBW.out
   refine wp_region_lit ?_
   refine wpList_step (fun K hK => ?_)
   go_simp
   refine hK _ _ ?_
   clear hK K
   refine wpList_store_at rfl _ _ _ rfl ⟨w.heap.size,0,none⟩ rfl (.agg (vR 0 ⟨#[]⟩ 0 0).toArray) rfl (store_R (cs:=vR 0 ⟨#[]⟩ 0 0) rfl h1 0 ⟨#[]⟩ 0 0) ?_
   have h2:=set_R (cs:=vR 0 ⟨#[]⟩ 0 0) rfl h1 0 ⟨#[]⟩ 0 0
   have hb2:=below_setCells w.heap.size (Nat.le_refl _) (vR 0 ⟨#[]⟩ 0 0) 0 _ hbw
   simp only [Act.put]
   generalize World.setCells _ w.heap.size 0 (vR 0 ⟨#[]⟩ 0 0) = w2 at *
   have H2:=Lib.hid h2
   have HB2:=Lib.hid hb2
   clear h1 h2 hb2 hbw
   refine wpList_step (fun K hK => ?_)
   go_simp
   refine hK _ _ ?_
   clear hK K
   refine wpList_nil ?_
   go_wp2
   exact ⟨rfl,_,results_ct rfl _ _ w.heap.size 39 _ (0,0) _ rfl H2.out Tryd.underlying39 rfl (resR rfl),by rw [HOV2.out];rfl,HB2.out⟩
def ticket_Open.f (s : ByteArray) : Option (Int × ByteArray × Int × Int × Int):=if s.size ≤ 131072 then some (openV s) else none
theorem ticket_Open.calls (a0 : ByteArray) (r1 : Int) (r2 : ByteArray) (r3 r4 r5 : Int) (w : World) (hGCr : GlobCr w) (h : ticket_Open.f a0 = some (r1,r2,r3,r4,r5)) :
  Calls Tryd.prog 22 #[.string a0] w fun e w' => e = .returned (.tuple #[.agg #[.int .i64 r1,.string r2,.int .i64 r3,.int .i64 r4],.int .i64 r5]) ∧ Below w.heap.size w w':=by
 unfold ticket_Open.f at h
 split at h
 ·have:=open_calls a0 (by assumption) w hGCr
  rw [Option.some.inj h] at this
  exact this
 ·exact absurd h (by simp)
end Go.Proofs.YtedfgkjimnjdpaaDoor.X
