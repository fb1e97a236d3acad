/-
  What the claim's law rests on, part 5 of 6: printed walks, externals, plain lemmas; conditions: none of its own.
-/
import Derived.Test.YtedfgkjimnjdpaaDoorTi4
namespace Go.Proofs.YtedfgkjimnjdpaaDoor.X
open Go.RowKit Go.Proofs.YtedfgkjimnjdpaaDoorW.PrintWords Go.Proofs.YtedfgkjimnjdpaaDoorW.PrintLast Go.Proofs.YtedfgkjimnjdpaaDoorW.PrintMore
attribute [local go_sem] max2_int min2_int max_two min_two max_three min_three max_four min_four
set_option linter.unusedVariables false
set_option linter.unusedSimpArgs false
set_option maxHeartbeats 100000000 in
set_option maxRecDepth 100000 in
theorem racewayref03_Of.calls (k : Nat) (A0 : Option Addr) (c0 : Nat) (l0 : List Int) (r : List Int) (w : World) (hr0 : Kd.C (Kd.int .u8) w A0 l0.length l0) (hc0 : l0.length ≤ c0) (h : racewayref03_Of.f k l0 = some r) :
  Calls Tryd.prog 62 #[.slice A0 l0.length c0] w fun e w' => ∃ v0_ : Value,e = .returned (v0_) ∧ Kd.R (Kd.int .u8) 5 w' w.heap.size (fun _ => True) v0_ r ∧ Below w.heap.size w w':=by
 have HR0:=Aside0.mk hr0
 have HC0:=Aside0.mk hc0
 clear hr0 hc0
 have HB:=Aside0.mk (Below.refl w.heap.size w)
 have H : ((racewayref03_rounds.f).bind fun t144 => ((racewayref03_padded.f k l0).bind fun t147 => (racewayref03_Of.l0 k (([1779033703,3144134277,1013904242,2773480762,1359893119,2600822924,528734635,1541459225] : List Int)) t144 t147 0))) = some r:=h
 clear h
 obtain ⟨y141,hy141⟩ : ∃ y_ : List Int,y_ = (([1779033703,3144134277,1013904242,2773480762,1359893119,2600822924,528734635,1541459225] : List Int)):=⟨_,rfl⟩
 replace H : ((racewayref03_rounds.f).bind fun t144 => ((racewayref03_padded.f k l0).bind fun t147 => (racewayref03_Of.l0 k y141 t144 t147 0))) = some r:=by first|(rw [hy141];with_reducible exact H)|(have H2_:=(Option.bind_some _ _).symm.trans H;rw [hy141];with_reducible exact H2_)|(have H2_:=(Option.bind_some _ _).symm.trans H;with_reducible exact H2_)|with_reducible exact H|(rw [hy141];exact H)|exact H
 have Ny141:=Aside0.mk hy141
 clear hy141
 replace H:=Option.bind_eq_some_iff.mp H
 obtain ⟨t144,A20,H⟩:=H
 replace H : ((racewayref03_padded.f k l0).bind fun t147 => (racewayref03_Of.l0 k y141 t144 t147 0)) = some r:=H
 have A2:=Aside0.mk A20
 clear A20
 replace H:=Option.bind_eq_some_iff.mp H
 obtain ⟨t147,A30,H⟩:=H
 replace H : (racewayref03_Of.l0 k y141 t144 t147 0) = some r:=H
 have A3:=Aside0.mk A30
 clear A30
 have H':=Aside0.mk H
 clear H
 go_enter Tryd.func62,Tryd.ntmps62
 go_wp2_with (first|((with_reducible refine gate_dst (N:=17) rfl ?_);refine Kd.R_lit (Kd.int .u32) _ 107 ?hg (N:=17) ?hd (xs:=([1779033703,3144134277,1013904242,2773480762,1359893119,2600822924,528734635,1541459225] : List Int)) (inner:=[.int .u32 1779033703,.int .u32 3144134277,.int .u32 1013904242,.int .u32 2773480762,.int .u32 1359893119,.int .u32 2600822924,.int .u32 528734635,.int .u32 1541459225]) (ok:=fun _ => True) (okp:=fun _ => True) ?hr ?hp (fun _ hk => hk) trivial (Below.refl _ _) (Nat.le_refl _) (by simp) ?_;(case hd => rfl);(case hg => rfl);(case hr => first|(go_simp;done)|(go_simp;rfl));(case hp => exact (Reps.one (show Kd.M (Kd.int .u32) _ _ _ 1779033703 [.int .u32 1779033703] from rfl) (Reps.one (show Kd.M (Kd.int .u32) _ _ _ 3144134277 [.int .u32 3144134277] from rfl) (Reps.one (show Kd.M (Kd.int .u32) _ _ _ 1013904242 [.int .u32 1013904242] from rfl) (Reps.one (show Kd.M (Kd.int .u32) _ _ _ 2773480762 [.int .u32 2773480762] from rfl) (Reps.one (show Kd.M (Kd.int .u32) _ _ _ 1359893119 [.int .u32 1359893119] from rfl) (Reps.one (show Kd.M (Kd.int .u32) _ _ _ 2600822924 [.int .u32 2600822924] from rfl) (Reps.one (show Kd.M (Kd.int .u32) _ _ _ 528734635 [.int .u32 528734635] from rfl) (Reps.one (show Kd.M (Kd.int .u32) _ _ _ 1541459225 [.int .u32 1541459225] from rfl) (Reps.none _ _))))))))));intro v142 w4 ho5 hb hg_ hnew_;clear hg_ hnew_;(first|rw [← Ny141.out] at ho5|(simp only [Int.reduceToNat] at ho5;rw [← Ny141.out] at ho5));have n0_:=Aside0.mk (Kd.R_lower ho5 (below_size (by repeat (first|(with_reducible first|exact HB.out|apply below_alloc|apply pw_below_drewN|apply below_drew1)|exact HB.out))));have n1_:=Aside0.mk (below_step (by repeat (first|(with_reducible first|exact HB.out|apply below_alloc|apply pw_below_drewN|apply below_drew1)|exact HB.out)) hb);clear HB;have HO143:=n0_;have HB:=n1_;clear n0_ n1_;clear hb ho5)|((with_reducible refine gate_callee (f:=97) rfl ?_);refine goesL_ (some 18) rfl rfl Tryd.func97 (by kernel_rfl) rfl #[] rfl (by (try simp only [List.map_toArray,List.map_cons,List.map_nil]);first|done|rfl|(simp only [List.length_drop,List.length_take];rfl)) ?_;(with_reducible refine (racewayref03_rounds.calls  t144 _ A2.out).mono ?_);rintro e w6 ⟨v145,rfl,ho0,hb⟩;refine ⟨_,rfl,?_⟩;have n0_:=Aside0.mk (Kd.R_elder' (by (with_reducible repeat (first|apply Kd.R_alloc|apply Kd.R_drewN|apply Kd.R_drew));exact HO143.out) (Kd.R_base ho0) hb);have n1_:=Aside0.mk (Kd.R_lower (Kd.R_new' ho0 (Kd.R_lt (by (with_reducible repeat (first|apply Kd.R_alloc|apply Kd.R_drewN|apply Kd.R_drew));exact HO143.out))) (below_size (by repeat (first|(with_reducible first|exact HB.out|apply below_alloc|apply pw_below_drewN|apply below_drew1)|exact HB.out))));have n2_:=Aside0.mk (below_step (by repeat (first|(with_reducible first|exact HB.out|apply below_alloc|apply pw_below_drewN|apply below_drew1)|exact HB.out)) hb);clear HO143;clear HB;have HO143:=n0_;have HO146:=n1_;have HB:=n2_;clear n0_ n1_ n2_;(try clear hb);(try clear hb2);(try clear hk);(try clear hi);(try clear ho0))|((with_reducible refine gate_callee (f:=98) rfl ?_);refine goesL_ (some 20) rfl rfl Tryd.func98 (by kernel_rfl) rfl #[.slice A0 l0.length c0] rfl (by (try simp only [List.map_toArray,List.map_cons,List.map_nil]);first|done|rfl|(simp only [List.length_drop,List.length_take];rfl)) ?_;(with_reducible refine (racewayref03_padded.calls k _ _ l0 t147 _ ?side1 ?side2 A3.out).mono ?_);(case side1 => repeat (first|exact (Kd.C_below HR0.out HB.out)|(with_reducible refine Kd.C_alloc ?_ _)|(with_reducible refine Kd.C_drewN ?_ _)|(with_reducible refine Kd.C_drew ?_)));(case side2 => exact HC0.out);rintro e w7 ⟨v148,rfl,ho0,hb⟩;refine ⟨_,rfl,?_⟩;have n0_:=Aside0.mk (Kd.R_below (by (with_reducible repeat (first|apply Kd.R_alloc|apply Kd.R_drewN|apply Kd.R_drew));exact HO143.out) hb);have n1_:=Aside0.mk (Kd.R_below (by (with_reducible repeat (first|apply Kd.R_alloc|apply Kd.R_drewN|apply Kd.R_drew));exact HO146.out) hb);have n2_:=Aside0.mk (Kd.R_lower ho0 (below_size (by repeat (first|(with_reducible first|exact HB.out|apply below_alloc|apply pw_below_drewN|apply below_drew1)|exact HB.out))));have n3_:=Aside0.mk (below_step (by repeat (first|(with_reducible first|exact HB.out|apply below_alloc|apply pw_below_drewN|apply below_drew1)|exact HB.out)) hb);clear HO143;clear HO146;clear HB;have HO143:=n0_;have HO146:=n1_;have HO149:=n2_;have HB:=n3_;clear n0_ n1_ n2_ n3_;(try clear hb);(try clear hb2);(try clear hk);(try clear hi);(try clear ho0)))
 go_loopg [6] k (fun kq v6 w' => ∃ (x3_1 : List Int) (x6_1 : Int),v6 = .int .i64 x6_1 ∧ Aside0 (racewayref03_Of.l0 kq x3_1 t144 t147 x6_1 = some r) ∧ Aside0 (kq ≤ k) ∧ Aside0 (Kd.R (Kd.int .u32) 107 w' w.heap.size (fun k_ => some k_ ≠ (v145 : Value).ownBlock) v142 x3_1) ∧ Aside0 (Kd.R (Kd.int .u32) 107 w' w.heap.size (fun k_ => some k_ ≠ (v142 : Value).ownBlock) v145 t144) ∧ Aside0 (Kd.R (Kd.int .u8) 5 w' w.heap.size (fun _ => True) v148 t147) ∧ Aside0 (Below w.heap.size w w'))
 case atStart => exact ⟨(y141),(0),(by first|rfl|(simp;done)|(simp;decide +kernel)|(simp [*];done)),(by first|exact H'|(subst_vars;exact H')),⟨Nat.le_refl _⟩,⟨by (with_reducible repeat (first|apply Kd.R_alloc|apply Kd.R_drewN|apply Kd.R_drew));exact Kd.R_mono HO143.out (fun _ hk => hk.2)⟩,⟨by (with_reducible repeat (first|apply Kd.R_alloc|apply Kd.R_drewN|apply Kd.R_drew));exact Kd.R_mono HO146.out (fun _ hk => hk.2)⟩,⟨by (with_reducible repeat (first|apply Kd.R_alloc|apply Kd.R_drewN|apply Kd.R_drew));exact HO149.out⟩,⟨by repeat (first|(with_reducible first|exact HB.out|apply below_alloc|apply pw_below_drewN|apply below_drew1)|exact HB.out)⟩⟩
 case round => as_aux_lemma =>
  clear H'
  try clear p2
  try clear c6
  obtain ⟨x3_1,x6_1,rfl,HA,HK1,HO_3,HO_4,HO_5,HB⟩:=hrel
  cases gk with
  | zero => exact absurd HA.out (by simp [racewayref03_Of.l0])
  | succ k1 =>
   have H:=HA.out
   clear HA
   simp only [racewayref03_Of.l0] at H
   by_cases c8 : x6_1 < (t147.length : Int)
   rotate_left
   ·rw [if_neg c8] at H
    have c8b0 : decide (x6_1 < (t147.length : Int)) = false:=decide_eq_false c8
    clear c8
    have H':=Aside0.mk H
    clear H
    obtain ⟨Ao57,co57,eo57⟩:=Kd.R_slice HO_5.out
    subst eo57
    go_wp2
    go_loopg [15,16] k1 (fun kq v15 v16 w' => ∃ (x15_2 : List Int) (x16_2 : Int),v16 = .int .i64 x16_2 ∧ Aside0 (racewayref03_Of.l3 kq x3_1 x15_2 x16_2 = some r) ∧ Aside0 (kq ≤ k1) ∧ Aside0 (Kd.R (Kd.int .u32) 107 w' w.heap.size (fun _ => True) v142 x3_1) ∧ Aside0 (Kd.R (Kd.int .u8) 5 w' w.heap.size (fun _ => True) v15 x15_2) ∧ Aside0 (Below w.heap.size w w'))
    case atStart => exact ⟨(([] : List Int)),(0),(by first|rfl|(simp;done)|(simp;decide +kernel)|(simp [*];done)),(by first|exact H'|(subst_vars;exact H')),⟨Nat.le_refl _⟩,⟨by (with_reducible repeat (first|apply Kd.R_alloc|apply Kd.R_drewN|apply Kd.R_drew));exact Kd.R_mono HO_3.out (fun _ hk => trivial)⟩,⟨by first|exact Kd.R_nil _ _ _ _ _|exact Kd.N_nil _ _ _ _ _|exact Kd.V_nil _ _ _ _ _|exact Kd.Q_nil _ _ _ _ _|exact Kd.S_nil _ _ _ _ _⟩,⟨by repeat (first|(with_reducible first|exact HB.out|apply below_alloc|apply pw_below_drewN|apply below_drew1)|exact HB.out)⟩⟩
    case round => as_aux_lemma =>
     clear H'
     try clear c1
     try clear p1
     try clear q1
     try clear hx1
     try clear qi1
     try clear c2
     try clear p2
     try clear c3
     try clear c4
     try clear c5
     try clear p5
     try clear q5
     try clear hx5
     try clear hf5
     try clear p6
     try clear c8
     try clear c8b0
     try clear c9
     try clear c10
     try clear c11
     try clear c13
     try clear p18
     try clear q18
     try clear hx18
     try clear qi18
     try clear p19
     try clear q19
     try clear hx19
     try clear qi19
     try clear c21
     try clear c21b0
     try clear c22
     try clear c23
     try clear c24
     try clear c25
     try clear c26
     try clear c27
     try clear c28
     try clear c32
     try clear c33
     try clear c34
     try clear c38
     try clear c49
     try clear c49b0
     try clear c50
     try clear c50b0
     try clear c51
     try clear c51b0
     try clear c52
     try clear c52b0
     try clear p53
     try clear q53
     try clear hx53
     try clear hf53
     try clear hx182_0
     try clear hx184_0
     try clear hx186_0
     try clear hx188_0
     try clear hx189_0
     try clear hx190_0
     try clear hx191_0
     try clear hx192_0
     try clear hx193_0
     try clear hx194_0
     try clear hx198_0
     try clear hx199_0
     try clear hx53_0
     try clear p1
     try clear p18
     try clear p182
     try clear p184
     try clear p186
     try clear p188
     try clear p189
     try clear p19
     try clear p190
     try clear p191
     try clear p192
     try clear p193
     try clear p194
     try clear p198
     try clear p199
     try clear p2
     try clear p53
     try clear p6
     try clear q1
     try clear q18
     try clear q182
     try clear q184
     try clear q186
     try clear q188
     try clear q189
     try clear q19
     try clear q190
     try clear q191
     try clear q192
     try clear q193
     try clear q194
     try clear q198
     try clear q199
     try clear q53
     obtain ⟨x15_2,x16_2,rfl,HA,HK2,HO_3,HO_15,HB⟩:=hrel
     cases gk with
     | zero => exact absurd HA.out (by simp [racewayref03_Of.l3])
     | succ k2 =>
      have H:=HA.out
      clear HA
      simp only [racewayref03_Of.l3] at H
      by_cases c58 : x16_2 < 8
      rotate_left
      ·rw [if_neg c58] at H
       have c58b0 : decide (x16_2 < 8) = false:=decide_eq_false c58
       clear c58
       obtain rfl:=Option.some.inj H
       go_wp2
       go_ret
       exact ⟨_,by first|rfl|(simp [errW_none,errW_some] <;> rfl)|(simp [*,errW_none,errW_some] <;> rfl),by (with_reducible repeat (first|apply Kd.R_alloc|apply Kd.R_drewN|apply Kd.R_drew));exact HO_15.out,by repeat (first|(with_reducible first|exact HB.out|apply below_alloc|apply pw_below_drewN|apply below_drew1)|exact HB.out)⟩
      rw [if_pos c58] at H
      have c58b0 : decide (x16_2 < 8) = true:=decide_eq_true c58
      clear c58
      by_cases c59 : 0 ≤ x16_2
      rotate_left
      ·rw [if_neg c59] at H
       exact absurd H (by simp)
      rw [if_pos c59] at H
      have c59b0 : decide (0 ≤ x16_2) = true:=decide_eq_true c59
      clear c59
      by_cases c60 : x16_2 < (x3_1.length : Int)
      rotate_left
      ·rw [if_neg c60] at H
       exact absurd H (by simp)
      rw [if_pos c60] at H
      have c60b0 : decide (x16_2 < (x3_1.length : Int)) = true:=decide_eq_true c60
      clear c60
      obtain ⟨y205,hy205⟩ : ∃ y_ : List Int,y_ = (([((rd x3_1 x16_2) / 16777216) % 256,((rd x3_1 x16_2) / 65536) % 256,((rd x3_1 x16_2) / 256) % 256,(rd x3_1 x16_2) % 256] : List Int)):=⟨_,rfl⟩
      replace H : (if x15_2.length + y205.length < 140737488355328 then (racewayref03_Of.l3 k2 x3_1 (x15_2 ++ y205) (wrap64 (x16_2 + 1))) else (none)) = some r:=by first|(rw [hy205];with_reducible exact H)|(have H2_:=(Option.bind_some _ _).symm.trans H;rw [hy205];with_reducible exact H2_)|(have H2_:=(Option.bind_some _ _).symm.trans H;with_reducible exact H2_)|with_reducible exact H|(rw [hy205];exact H)|exact H
      have Ny205:=Aside0.mk hy205
      clear hy205
      by_cases c61 : x15_2.length + y205.length < 140737488355328
      rotate_left
      ·rw [if_neg c61] at H
       exact absurd H (by simp)
      rw [if_pos c61] at H
      have LMc61:=Aside0.mk c61
      clear c61
      obtain ⟨y208,hy208⟩ : ∃ y_ : List Int,y_ = (x15_2 ++ y205):=⟨_,rfl⟩
      replace H : (racewayref03_Of.l3 k2 x3_1 y208 (wrap64 (x16_2 + 1))) = some r:=by first|(rw [hy208];with_reducible exact H)|(have H2_:=(Option.bind_some _ _).symm.trans H;rw [hy208];with_reducible exact H2_)|(have H2_:=(Option.bind_some _ _).symm.trans H;with_reducible exact H2_)|with_reducible exact H|(rw [hy208];exact H)|exact H
      have Ny208:=Aside0.mk hy208
      clear hy208
      have H':=Aside0.mk H
      clear H
      try go_wp2
      have n0_:=Aside0.mk (Kd.R_drew HO_3.out)
      have n1_:=Aside0.mk (Kd.R_drew HO_15.out)
      have n2_:=Aside0.mk (below_drew1 HB.out)
      clear HO_3
      clear HO_15
      clear HB
      have HO_3:=n0_
      have HO_15:=n1_
      have HB:=n2_
      clear n0_ n1_ n2_
      obtain ⟨Ao63,co63,eo63⟩:=Kd.R_slice HO_3.out
      (first|subst eo63|(injection eo63 with f1_ f2_ f3_;have f4_:=f1_.symm;have f5_:=f3_.symm;clear f1_ f2_ f3_;subst f4_;subst f5_))
      have p201 : 0 ≤ (x16_2 : Int):=of_decide_eq_true (by first|(with_reducible assumption)|assumption)
      have q201 : x16_2 < (x3_1.length : Int):=of_decide_eq_true (by first|(with_reducible assumption)|assumption)
      obtain ⟨ad201,e201,hx201_0⟩:=Kd.at_int (Kd.R_reads' HO_3.out).2.2 x16_2 p201 q201
      cases e201
      replace p201:=eq_true p201
      replace q201:=eq_true q201
      have p202 : 0 ≤ (x16_2 : Int):=of_decide_eq_true (by first|(with_reducible assumption)|assumption)
      have q202 : x16_2 < (x3_1.length : Int):=of_decide_eq_true (by first|(with_reducible assumption)|assumption)
      obtain ⟨ad202,e202,hx202_0⟩:=Kd.at_int (Kd.R_reads' HO_3.out).2.2 x16_2 p202 q202
      obtain rfl : ad201 = ad202:=(by injection e202)
      replace p202:=eq_true p202
      replace q202:=eq_true q202
      have p203 : 0 ≤ (x16_2 : Int):=of_decide_eq_true (by first|(with_reducible assumption)|assumption)
      have q203 : x16_2 < (x3_1.length : Int):=of_decide_eq_true (by first|(with_reducible assumption)|assumption)
      obtain ⟨ad203,e203,hx203_0⟩:=Kd.at_int (Kd.R_reads' HO_3.out).2.2 x16_2 p203 q203
      obtain rfl : ad201 = ad203:=(by injection e203)
      replace p203:=eq_true p203
      replace q203:=eq_true q203
      have p204 : 0 ≤ (x16_2 : Int):=of_decide_eq_true (by first|(with_reducible assumption)|assumption)
      have q204 : x16_2 < (x3_1.length : Int):=of_decide_eq_true (by first|(with_reducible assumption)|assumption)
      obtain ⟨ad204,e204,hx204_0⟩:=Kd.at_int (Kd.R_reads' HO_3.out).2.2 x16_2 p204 q204
      obtain rfl : ad201 = ad204:=(by injection e204)
      replace p204:=eq_true p204
      replace q204:=eq_true q204
      refine start_ (n:=27) (S:=fun w' => w'.cell? (ad201.add (x16_2).toNat) = some (.int .u32 (rd x3_1 x16_2)) ∧ w'.cell? (ad201.add (x16_2).toNat) = some (.int .u32 (rd x3_1 x16_2)) ∧ w'.cell? (ad201.add (x16_2).toNat) = some (.int .u32 (rd x3_1 x16_2)) ∧ w'.cell? (ad201.add (x16_2).toNat) = some (.int .u32 (rd x3_1 x16_2))) (ds:=[25]) #[false,false,false,false,false,false,false,false,false,false,false,false,false,false,false,false,false,false,false,false,false,false,false,false,false,false,false] (by kernel_rfl) rfl rfl ⟨hx201_0,hx202_0,hx203_0,hx204_0⟩ (fun hHeld => ?_);refine with_tabW racewayref03_Of.tab25 racewayref03_Of.bits25 (fun HT_ HW_ => ?_)
      generalize wr.drew = w62 at HO_3 HO_15 HB hx201_0 hx202_0 hx203_0 hx204_0 hHeld ⊢
      refine pure_ (i:=0) (N:=some 172) (v:=?_) (a':=?_) #[true,false,false,false,false,false,false,false,false,false,false,false,false,false,false,false,false,false,false,false,false,false,false,false,false,false,false] rfl rfl (any_of HT_.out (by kernel_rfl)) (fun _ _ _ h => h) (Or.inl ⟨by rfl,?_⟩) ?_ ?_
      rotate_left
      ·intro w'
       go_simp
       with_reducible rfl
      rotate_left
      ·simp only [Act.put,List.setIfInBounds_toArray,List.set_cons_zero,List.set_cons_succ,i64_w,i32_w]
       rfl
      refine pure_ (i:=1) (N:=some 173) (v:=?_) (a':=?_) #[true,true,false,false,false,false,false,false,false,false,false,false,false,false,false,false,false,false,false,false,false,false,false,false,false,false,false] rfl rfl (any_of HT_.out (by kernel_rfl)) (fun _ _ _ h => h) (Or.inl ⟨by rfl,?_⟩) ?_ ?_
      rotate_left
      ·intro w'
       go_simp
       with_reducible rfl
      rotate_left
      ·simp only [Act.put,List.setIfInBounds_toArray,List.set_cons_zero,List.set_cons_succ,i64_w,i32_w]
       rfl
      refine pure_ (i:=2) (N:=some 174) (v:=?_) (a':=?_) #[true,true,true,false,false,false,false,false,false,false,false,false,false,false,false,false,false,false,false,false,false,false,false,false,false,false,false] rfl rfl (any_of HT_.out (by kernel_rfl)) (fun _ _ _ h => h) (Or.inl ⟨by rfl,?_⟩) ?_ ?_
      rotate_left
      ·intro w'
       go_simp
       with_reducible rfl
      rotate_left
      ·simp only [Act.put,List.setIfInBounds_toArray,List.set_cons_zero,List.set_cons_succ,i64_w,i32_w]
       rfl
      refine pure_ (i:=3) (N:=some 175) (v:=?_) (a':=?_) #[true,true,true,true,false,false,false,false,false,false,false,false,false,false,false,false,false,false,false,false,false,false,false,false,false,false,false] rfl rfl (any_of HT_.out (by kernel_rfl)) (fun _ _ _ h => h) (Or.inl ⟨by rfl,?_⟩) ?_ ?_
      rotate_left
      ·intro w'
       go_simp
       with_reducible rfl
      rotate_left
      ·simp only [Act.put,List.setIfInBounds_toArray,List.set_cons_zero,List.set_cons_succ,i64_w,i32_w]
       rfl
      refine pure_ (i:=7) (N:=some 179) (v:=?_) (a':=?_) #[true,true,true,true,false,false,false,true,false,false,false,false,false,false,false,false,false,false,false,false,false,false,false,false,false,false,false] rfl rfl (any_of HT_.out (by kernel_rfl)) (fun _ _ _ h => h) (Or.inl ⟨by rfl,?_⟩) ?_ ?_
      rotate_left
      ·intro w'
       go_simp
       with_reducible rfl
      rotate_left
      ·simp only [Act.put,List.setIfInBounds_toArray,List.set_cons_zero,List.set_cons_succ,i64_w,i32_w]
       rfl
      refine pure_ (i:=8) (N:=some 180) (v:=?_) (a':=?_) #[true,true,true,true,false,false,false,true,true,false,false,false,false,false,false,false,false,false,false,false,false,false,false,false,false,false,false] rfl rfl (any_of HT_.out (by kernel_rfl)) (fun _ _ _ h => h) (Or.inl ⟨by rfl,?_⟩) ?_ ?_
      rotate_left
      ·intro w'
       go_simp
       with_reducible rfl
      rotate_left
      ·simp only [Act.put,List.setIfInBounds_toArray,List.set_cons_zero,List.set_cons_succ,i64_w,i32_w]
       rfl
      refine pure_ (i:=9) (N:=some 181) (v:=?_) (a':=?_) #[true,true,true,true,false,false,false,true,true,true,false,false,false,false,false,false,false,false,false,false,false,false,false,false,false,false,false] rfl rfl (any_of HT_.out (by kernel_rfl)) (fun _ _ _ h => h) (Or.inl ⟨by rfl,?_⟩) ?_ ?_
      rotate_left
      ·intro w'
       go_simp
       with_reducible rfl
      rotate_left
      ·simp only [Act.put,List.setIfInBounds_toArray,List.set_cons_zero,List.set_cons_succ,i64_w,i32_w]
       rfl
      refine pure_ (i:=13) (N:=some 185) (v:=?_) (a':=?_) #[true,true,true,true,false,false,false,true,true,true,false,false,false,true,false,false,false,false,false,false,false,false,false,false,false,false,false] rfl rfl (any_of HT_.out (by kernel_rfl)) (fun _ _ _ h => h) (Or.inl ⟨by rfl,?_⟩) ?_ ?_
      rotate_left
      ·intro w'
       go_simp
       with_reducible rfl
      rotate_left
      ·simp only [Act.put,List.setIfInBounds_toArray,List.set_cons_zero,List.set_cons_succ,i64_w,i32_w]
       rfl
      refine pure_ (i:=14) (N:=some 186) (v:=?_) (a':=?_) #[true,true,true,true,false,false,false,true,true,true,false,false,false,true,true,false,false,false,false,false,false,false,false,false,false,false,false] rfl rfl (any_of HT_.out (by kernel_rfl)) (fun _ _ _ h => h) (Or.inl ⟨by rfl,?_⟩) ?_ ?_
      rotate_left
      ·intro w'
       go_simp
       with_reducible rfl
      rotate_left
      ·simp only [Act.put,List.setIfInBounds_toArray,List.set_cons_zero,List.set_cons_succ,i64_w,i32_w]
       rfl
      refine pure_ (i:=15) (N:=some 187) (v:=?_) (a':=?_) #[true,true,true,true,false,false,false,true,true,true,false,false,false,true,true,true,false,false,false,false,false,false,false,false,false,false,false] rfl rfl (any_of HT_.out (by kernel_rfl)) (fun _ _ _ h => h) (Or.inl ⟨by rfl,?_⟩) ?_ ?_
      rotate_left
      ·intro w'
       go_simp
       with_reducible rfl
      rotate_left
      ·simp only [Act.put,List.setIfInBounds_toArray,List.set_cons_zero,List.set_cons_succ,i64_w,i32_w]
       rfl
      refine pure_ (i:=19) (N:=some 191) (v:=?_) (a':=?_) #[true,true,true,true,false,false,false,true,true,true,false,false,false,true,true,true,false,false,false,true,false,false,false,false,false,false,false] rfl rfl (any_of HT_.out (by kernel_rfl)) (fun _ _ _ h => h) (Or.inl ⟨by rfl,?_⟩) ?_ ?_
      rotate_left
      ·intro w'
       go_simp
       with_reducible rfl
      rotate_left
      ·simp only [Act.put,List.setIfInBounds_toArray,List.set_cons_zero,List.set_cons_succ,i64_w,i32_w]
       rfl
      refine pure_ (i:=20) (N:=some 192) (v:=?_) (a':=?_) #[true,true,true,true,false,false,false,true,true,true,false,false,false,true,true,true,false,false,false,true,true,false,false,false,false,false,false] rfl rfl (any_of HT_.out (by kernel_rfl)) (fun _ _ _ h => h) (Or.inl ⟨by rfl,?_⟩) ?_ ?_
      rotate_left
      ·intro w'
       go_simp
       with_reducible rfl
      rotate_left
      ·simp only [Act.put,List.setIfInBounds_toArray,List.set_cons_zero,List.set_cons_succ,i64_w,i32_w]
       rfl
      refine pure_ (i:=21) (N:=some 193) (v:=?_) (a':=?_) #[true,true,true,true,false,false,false,true,true,true,false,false,false,true,true,true,false,false,false,true,true,true,false,false,false,false,false] rfl rfl (any_of HT_.out (by kernel_rfl)) (fun _ _ _ h => h) (Or.inl ⟨by rfl,?_⟩) ?_ ?_
      rotate_left
      ·intro w'
       go_simp
       with_reducible rfl
      rotate_left
      ·simp only [Act.put,List.setIfInBounds_toArray,List.set_cons_zero,List.set_cons_succ,i64_w,i32_w]
       rfl
      refine take_ (i:=4) (N:=some 176) (v:=?_) (a':=?_) #[true,true,true,true,true,false,false,true,true,true,false,false,false,true,true,true,false,false,false,true,true,true,false,false,false,false,false] rfl rfl (take_ofW HT_.out HW_.out (by kernel_rfl)) (fun _ _ _ h => h) (Or.inl ⟨by rfl,?_⟩) hHeld ?_ ?_
      rotate_left
      ·rintro w' ⟨s0,s1,s2,s3⟩
       go_simp
       with_reducible rfl
      rotate_left
      ·simp only [Act.put,List.setIfInBounds_toArray,List.set_cons_zero,List.set_cons_succ,i64_w,i32_w]
       rfl
      refine pure_ (i:=5) (N:=some 177) (v:=?_) (a':=?_) #[true,true,true,true,true,true,false,true,true,true,false,false,false,true,true,true,false,false,false,true,true,true,false,false,false,false,false] rfl rfl (any_of HT_.out (by kernel_rfl)) (fun _ _ _ h => h) (Or.inl ⟨by rfl,?_⟩) ?_ ?_
      rotate_left
      ·intro w'
       go_simp
       with_reducible rfl
      rotate_left
      ·simp only [Act.put,List.setIfInBounds_toArray,List.set_cons_zero,List.set_cons_succ,i64_w,i32_w]
       rfl
      refine pure_ (i:=6) (N:=some 178) (v:=?_) (a':=?_) #[true,true,true,true,true,true,true,true,true,true,false,false,false,true,true,true,false,false,false,true,true,true,false,false,false,false,false] rfl rfl (any_of HT_.out (by kernel_rfl)) (fun _ _ _ h => h) (Or.inl ⟨by rfl,?_⟩) ?_ ?_
      rotate_left
      ·intro w'
       go_simp
       with_reducible rfl
      rotate_left
      ·simp only [Act.put,List.setIfInBounds_toArray,List.set_cons_zero,List.set_cons_succ,i64_w,i32_w]
       rfl
      refine take_ (i:=10) (N:=some 182) (v:=?_) (a':=?_) #[true,true,true,true,true,true,true,true,true,true,true,false,false,true,true,true,false,false,false,true,true,true,false,false,false,false,false] rfl rfl (take_ofW HT_.out HW_.out (by kernel_rfl)) (fun _ _ _ h => h) (Or.inl ⟨by rfl,?_⟩) hHeld ?_ ?_
      rotate_left
      ·rintro w' ⟨s0,s1,s2,s3⟩
       go_simp
       with_reducible rfl
      rotate_left
      ·simp only [Act.put,List.setIfInBounds_toArray,List.set_cons_zero,List.set_cons_succ,i64_w,i32_w]
       rfl
      refine pure_ (i:=11) (N:=some 183) (v:=?_) (a':=?_) #[true,true,true,true,true,true,true,true,true,true,true,true,false,true,true,true,false,false,false,true,true,true,false,false,false,false,false] rfl rfl (any_of HT_.out (by kernel_rfl)) (fun _ _ _ h => h) (Or.inl ⟨by rfl,?_⟩) ?_ ?_
      rotate_left
      ·intro w'
       go_simp
       with_reducible rfl
      rotate_left
      ·simp only [Act.put,List.setIfInBounds_toArray,List.set_cons_zero,List.set_cons_succ,i64_w,i32_w]
       rfl
      refine pure_ (i:=12) (N:=some 184) (v:=?_) (a':=?_) #[true,true,true,true,true,true,true,true,true,true,true,true,true,true,true,true,false,false,false,true,true,true,false,false,false,false,false] rfl rfl (any_of HT_.out (by kernel_rfl)) (fun _ _ _ h => h) (Or.inl ⟨by rfl,?_⟩) ?_ ?_
      rotate_left
      ·intro w'
       go_simp
       with_reducible rfl
      rotate_left
      ·simp only [Act.put,List.setIfInBounds_toArray,List.set_cons_zero,List.set_cons_succ,i64_w,i32_w]
       rfl
      refine take_ (i:=16) (N:=some 188) (v:=?_) (a':=?_) #[true,true,true,true,true,true,true,true,true,true,true,true,true,true,true,true,true,false,false,true,true,true,false,false,false,false,false] rfl rfl (take_ofW HT_.out HW_.out (by kernel_rfl)) (fun _ _ _ h => h) (Or.inl ⟨by rfl,?_⟩) hHeld ?_ ?_
      rotate_left
      ·rintro w' ⟨s0,s1,s2,s3⟩
       go_simp
       with_reducible rfl
      rotate_left
      ·simp only [Act.put,List.setIfInBounds_toArray,List.set_cons_zero,List.set_cons_succ,i64_w,i32_w]
       rfl
      refine pure_ (i:=17) (N:=some 189) (v:=?_) (a':=?_) #[true,true,true,true,true,true,true,true,true,true,true,true,true,true,true,true,true,true,false,true,true,true,false,false,false,false,false] rfl rfl (any_of HT_.out (by kernel_rfl)) (fun _ _ _ h => h) (Or.inl ⟨by rfl,?_⟩) ?_ ?_
      rotate_left
      ·intro w'
       go_simp
       with_reducible rfl
      rotate_left
      ·simp only [Act.put,List.setIfInBounds_toArray,List.set_cons_zero,List.set_cons_succ,i64_w,i32_w]
       rfl
      refine pure_ (i:=18) (N:=some 190) (v:=?_) (a':=?_) #[true,true,true,true,true,true,true,true,true,true,true,true,true,true,true,true,true,true,true,true,true,true,false,false,false,false,false] rfl rfl (any_of HT_.out (by kernel_rfl)) (fun _ _ _ h => h) (Or.inl ⟨by rfl,?_⟩) ?_ ?_
      rotate_left
      ·intro w'
       go_simp
       with_reducible rfl
      rotate_left
      ·simp only [Act.put,List.setIfInBounds_toArray,List.set_cons_zero,List.set_cons_succ,i64_w,i32_w]
       rfl
      refine take_ (i:=22) (N:=some 194) (v:=?_) (a':=?_) #[true,true,true,true,true,true,true,true,true,true,true,true,true,true,true,true,true,true,true,true,true,true,true,false,false,false,false] rfl rfl (take_ofW HT_.out HW_.out (by kernel_rfl)) (fun _ _ _ h => h) (Or.inl ⟨by rfl,?_⟩) hHeld ?_ ?_
      rotate_left
      ·rintro w' ⟨s0,s1,s2,s3⟩
       go_simp
       with_reducible rfl
      rotate_left
      ·simp only [Act.put,List.setIfInBounds_toArray,List.set_cons_zero,List.set_cons_succ,i64_w,i32_w]
       rfl
      refine pure_ (i:=23) (N:=some 195) (v:=?_) (a':=?_) #[true,true,true,true,true,true,true,true,true,true,true,true,true,true,true,true,true,true,true,true,true,true,true,true,false,false,false] rfl rfl (any_of HT_.out (by kernel_rfl)) (fun _ _ _ h => h) (Or.inl ⟨by rfl,?_⟩) ?_ ?_
      rotate_left
      ·intro w'
       go_simp
       with_reducible rfl
      rotate_left
      ·simp only [Act.put,List.setIfInBounds_toArray,List.set_cons_zero,List.set_cons_succ,i64_w,i32_w]
       rfl
      refine one_ (i:=24) (N:=some 196) #[true,true,true,true,true,true,true,true,true,true,true,true,true,true,true,true,true,true,true,true,true,true,true,true,true,false,false] rfl rfl (one_of HT_.out (by kernel_rfl)) (by decide) (fun K hK => ?_)
      refine Kd.R_lit_step (Kd.int .u8) _ 5 ?hg (N:=196) ?hd (xs:=([((rd x3_1 x16_2) / 16777216) % 256,((rd x3_1 x16_2) / 65536) % 256,((rd x3_1 x16_2) / 256) % 256,(rd x3_1 x16_2) % 256] : List Int)) (inner:=[.int .u8 (((rd x3_1 x16_2) / 16777216) % 256),.int .u8 (((rd x3_1 x16_2) / 65536) % 256),.int .u8 (((rd x3_1 x16_2) / 256) % 256),.int .u8 ((rd x3_1 x16_2) % 256)]) (ok:=fun _ => True) (okp:=fun _ => True) ?hr ?hp (fun _ hk => hk) trivial (Below.refl _ _) (Nat.le_refl _) (by simp) ?_;(case hd => rfl);(case hg => rfl);(case hr => first|(go_simp;done)|(go_simp;rfl));(case hp => exact (Reps.one (show Kd.M (Kd.int .u8) _ _ _ (((rd x3_1 x16_2) / 16777216) % 256) [.int .u8 (((rd x3_1 x16_2) / 16777216) % 256)] from rfl) (Reps.one (show Kd.M (Kd.int .u8) _ _ _ (((rd x3_1 x16_2) / 65536) % 256) [.int .u8 (((rd x3_1 x16_2) / 65536) % 256)] from rfl) (Reps.one (show Kd.M (Kd.int .u8) _ _ _ (((rd x3_1 x16_2) / 256) % 256) [.int .u8 (((rd x3_1 x16_2) / 256) % 256)] from rfl) (Reps.one (show Kd.M (Kd.int .u8) _ _ _ ((rd x3_1 x16_2) % 256) [.int .u8 ((rd x3_1 x16_2) % 256)] from rfl) (Reps.none _ _))))))
      intro v206 w64 ho65 hb hg_ hnew_
      have HS0_:=(hb.cell (World.block_lt_of_cell? _ _ (hHeld.1))).trans (hHeld.1)
      have HS1_:=(hb.cell (World.block_lt_of_cell? _ _ (hHeld.2.1))).trans (hHeld.2.1)
      have HS2_:=(hb.cell (World.block_lt_of_cell? _ _ (hHeld.2.2.1))).trans (hHeld.2.2.1)
      have HS3_:=(hb.cell (World.block_lt_of_cell? _ _ (hHeld.2.2.2))).trans (hHeld.2.2.2)
      clear hg_ hnew_
      (first|rw [← Ny205.out] at ho65|(simp only [Int.reduceToNat] at ho65;rw [← Ny205.out] at ho65))
      have n0_:=Aside0.mk (Kd.R_below (by (with_reducible repeat (first|apply Kd.R_alloc|apply Kd.R_drewN|apply Kd.R_drew));exact HO_3.out) hb)
      have n1_:=Aside0.mk (Kd.R_elder' (by (with_reducible repeat (first|apply Kd.R_alloc|apply Kd.R_drewN|apply Kd.R_drew));exact HO_15.out) (Kd.R_base ho65) hb)
      have n2_:=Aside0.mk (Kd.R_lower (Kd.R_new' ho65 (Kd.R_lt (by (with_reducible repeat (first|apply Kd.R_alloc|apply Kd.R_drewN|apply Kd.R_drew));exact HO_15.out))) (below_size (by repeat (first|(with_reducible first|exact HB.out|apply below_alloc|apply pw_below_drewN|apply below_drew1)|exact HB.out))))
      have n3_:=Aside0.mk (below_step (by repeat (first|(with_reducible first|exact HB.out|apply below_alloc|apply pw_below_drewN|apply below_drew1)|exact HB.out)) hb)
      clear HO_3
      clear HO_15
      clear HB
      have HO_3:=n0_
      have HO_15:=n1_
      have HO207:=n2_
      have HB:=n3_
      clear n0_ n1_ n2_ n3_
      clear hb ho65
      obtain ⟨Ao67,co67,eo67⟩:=Kd.R_slice HO207.out
      (first|subst eo67|(injection eo67 with f1_ f2_ f3_;have f4_:=f1_.symm;have f5_:=f3_.symm;clear f1_ f2_ f3_;subst f4_;subst f5_))
      refine hK.out _ _ ⟨HS0_,HS1_,HS2_,HS3_⟩ (fun hHeld => ?_)
      clear hK K
      refine norm_ (a':=?_) ?_ ?_
      rotate_left
      ·show Act.put _ (some 196) _ = _
       simp only [Act.put,List.setIfInBounds_toArray,List.set_cons_zero,List.set_cons_succ,i64_w,i32_w]
       rfl
      refine last_ (i:=25) (N:=some 197) #[true,true,true,true,true,true,true,true,true,true,true,true,true,true,true,true,true,true,true,true,true,true,true,true,true,true,false] rfl rfl (one_of HT_.out (by kernel_rfl)) (by decide) (fun K hK => ?_)
      refine Kd.R_append_rows_step (Kd.int .u8) (w0:=w) w.heap.size (by rfl) (.tmp 172) (.tmp 196) 49 5 (.int .u8 0) 1 rfl Tryd.underlying49 info5 rfl (by decide) (by omega) u15 x15_2 y205 _ _ _ (fun k_ => some k_ ≠ (.slice Ao67 y205.length co67 : Value).ownBlock) (fun _ => False) rfl rfl ?aO ?aR (fun _ _ h => h) (fun _ h => h.elim) ?aF ?aB ?aS ?aL ?_
      (case aR => repeat (first|exact (Kd.R_reads' HO207.out).2.2|(with_reducible refine Kd.C_alloc ?_ _)|(with_reducible refine Kd.C_drewN ?_ _)|(with_reducible refine Kd.C_drew ?_)))
      (case aB => exact (by repeat (first|(with_reducible first|exact HB.out|apply below_alloc|apply pw_below_drewN|apply below_drew1)|exact HB.out)))
      (case aF => exact (fun k_ hk => Kd.fresh' (Kd.R_lt (by (with_reducible repeat (first|apply Kd.R_alloc|apply Kd.R_drewN|apply Kd.R_drew));exact HO207.out)) k_ hk))
      (case aO => exact (by (with_reducible repeat (first|apply Kd.R_alloc|apply Kd.R_drewN|apply Kd.R_drew));exact Kd.R_mono HO_15.out (fun _ hk => hk.2)))
      (case aS => exact (below_size (by repeat (first|(with_reducible first|exact HB.out|apply below_alloc|apply pw_below_drewN|apply below_drew1)|exact HB.out))))
      (case aL => have:=LMc61.out;omega)
      intro v209 w66 ho hb hg hat
      rw [← Ny208.out] at ho
      have n0_:=Aside0.mk (Kd.R_over' (by (with_reducible repeat (first|apply Kd.R_alloc|apply Kd.R_drewN|apply Kd.R_drew));exact HO_3.out) (Kd.R_typed (by (with_reducible repeat (first|apply Kd.R_alloc|apply Kd.R_drewN|apply Kd.R_drew));exact HO_15.out)) (by decide) hg)
      have n1_:=Aside0.mk (Kd.R_after (ok:=(fun _ => True)) (by (with_reducible repeat (first|apply Kd.R_alloc|apply Kd.R_drewN|apply Kd.R_drew));exact HO207.out) hg hat)
      have n2_:=Aside0.mk (hb)
      have n3_:=Aside0.mk (ho)
      clear HO_3
      clear HO207
      clear HB
      clear HO_15
      have HO_3:=n0_
      have HO207:=n1_
      have HB:=n2_
      have HO210:=n3_
      clear n0_ n1_ n2_ n3_
      clear ho hb hg hat
      refine hK.out _ _ ?_
      clear hK K
      refine norm_ (a':=?_) ?_ ?_
      rotate_left
      ·show Act.put _ (some 197) _ = _
       simp only [Act.put,List.setIfInBounds_toArray,List.set_cons_zero,List.set_cons_succ,i64_w,i32_w]
       rfl
      refine pure_ (i:=26) (N:=some 15) (v:=?_) (a':=?_) #[true,true,true,true,true,true,true,true,true,true,true,true,true,true,true,true,true,true,true,true,true,true,true,true,true,true,true] rfl rfl (any_of HT_.out (by kernel_rfl)) (fun _ _ _ h => h) (Or.inl ⟨by rfl,?_⟩) ?_ ?_
      rotate_left
      ·intro w'
       go_simp
       with_reducible rfl
      rotate_left
      ·simp only [Act.put,List.setIfInBounds_toArray,List.set_cons_zero,List.set_cons_succ,i64_w,i32_w]
       rfl
      refine done_ (done_of HT_.out (by kernel_rfl)) ?_
      try go_wp2
      go_roundg k2
      case measure => have:=HK1.out;have:=HK2.out;omega
      case rel => exact ⟨(y208),(wrap64 (x16_2 + 1)),(by first|rfl|(simp;done)|(simp;decide +kernel)|(simp [*];done)),(by first|exact H'|(subst_vars;exact H')),⟨by have:=HK1.out;have:=HK2.out;omega⟩,⟨by (with_reducible repeat (first|apply Kd.R_alloc|apply Kd.R_drewN|apply Kd.R_drew));exact HO_3.out⟩,⟨by (with_reducible repeat (first|apply Kd.R_alloc|apply Kd.R_drewN|apply Kd.R_drew));exact Kd.R_mono HO210.out (fun _ hk => trivial)⟩,⟨by repeat (first|(with_reducible first|exact HB.out|apply below_alloc|apply pw_below_drewN|apply below_drew1)|exact HB.out)⟩⟩
   rw [if_pos c8] at H
   have c8b0 : decide (x6_1 < (t147.length : Int)) = true:=decide_eq_true c8
   clear c8
   by_cases c9 : 0 ≤ x6_1
   rotate_left
   ·rw [if_neg c9] at H
    exact absurd H (by simp)
   rw [if_pos c9] at H
   have c9b0:=eq_true c9
   have c9b1 : decide (0 ≤ x6_1) = true:=decide_eq_true c9
   clear c9
   by_cases c10 : x6_1 ≤ (wrap64 (x6_1 + 64))
   rotate_left
   ·rw [if_neg c10] at H
    exact absurd H (by simp)
   rw [if_pos c10] at H
   have c10b0:=eq_true c10
   have c10b1 : decide (x6_1 ≤ (wrap64 (x6_1 + 64))) = true:=decide_eq_true c10
   by_cases c11 : (wrap64 (x6_1 + 64)) ≤ (t147.length : Int)
   rotate_left
   ·rw [if_neg c11] at H
    exact absurd H (by simp)
   rw [if_pos c11] at H
   have c11b0:=eq_true c11
   have c11b1 : decide ((wrap64 (x6_1 + 64)) ≤ (t147.length : Int)) = true:=decide_eq_true c11
   obtain ⟨y150,hy150⟩ : ∃ y_ : List Int,y_ = ((t147.take ((wrap64 (x6_1 + 64)) : Int).toNat).drop (x6_1 : Int).toNat):=⟨_,rfl⟩
   replace H : ((racewayref03_schedule.f k1 y150).bind fun t154 => ((some (([] : List Int) : List Int)).bind fun y157 => (if y157.length + x3_1.length < 35184372088832 then (racewayref03_Of.l1 k1 x3_1 t144 t147 x6_1 t154 (y157 ++ x3_1) 0) else (none)))) = some r:=by first|(rw [hy150];with_reducible exact H)|(have H2_:=(Option.bind_some _ _).symm.trans H;rw [hy150];with_reducible exact H2_)|(have H2_:=(Option.bind_some _ _).symm.trans H;with_reducible exact H2_)|with_reducible exact H|(rw [hy150];exact H)|exact H
   have Ny150:=Aside0.mk hy150
   clear hy150
   replace H:=Option.bind_eq_some_iff.mp H
   obtain ⟨t154,A120,H⟩:=H
   replace H : ((some (([] : List Int) : List Int)).bind fun y157 => (if y157.length + x3_1.length < 35184372088832 then (racewayref03_Of.l1 k1 x3_1 t144 t147 x6_1 t154 (y157 ++ x3_1) 0) else (none))) = some r:=H
   have A12:=Aside0.mk A120
   clear A120
   obtain ⟨y157,hy157⟩ : ∃ y_ : List Int,y_ = (([] : List Int)):=⟨_,rfl⟩
   replace H : (if y157.length + x3_1.length < 35184372088832 then (racewayref03_Of.l1 k1 x3_1 t144 t147 x6_1 t154 (y157 ++ x3_1) 0) else (none)) = some r:=by first|(rw [hy157];with_reducible exact H)|(have H2_:=(Option.bind_some _ _).symm.trans H;rw [hy157];with_reducible exact H2_)|(have H2_:=(Option.bind_some _ _).symm.trans H;with_reducible exact H2_)|with_reducible exact H|(rw [hy157];exact H)|exact H
   have Ny157:=Aside0.mk hy157
   clear hy157
   by_cases c13 : y157.length + x3_1.length < 35184372088832
   rotate_left
   ·rw [if_neg c13] at H
    exact absurd H (by simp)
   rw [if_pos c13] at H
   have LMc13:=Aside0.mk c13
   clear c13
   obtain ⟨y160,hy160⟩ : ∃ y_ : List Int,y_ = (y157 ++ x3_1):=⟨_,rfl⟩
   replace H : (racewayref03_Of.l1 k1 x3_1 t144 t147 x6_1 t154 y160 0) = some r:=by first|(rw [hy160];with_reducible exact H)|(have H2_:=(Option.bind_some _ _).symm.trans H;rw [hy160];with_reducible exact H2_)|(have H2_:=(Option.bind_some _ _).symm.trans H;with_reducible exact H2_)|with_reducible exact H|(rw [hy160];exact H)|exact H
   have Ny160:=Aside0.mk hy160
   clear hy160
   have H':=Aside0.mk H
   clear H
   obtain ⟨Ao14,co14,eo14⟩:=Kd.R_slice HO_5.out
   subst eo14
   have q15 : ((wrap64 (x6_1 + 64)) : Int) ≤ ((t147.length : Int) : Int):=of_decide_eq_true (by first|(with_reducible assumption)|assumption)
   obtain ⟨i015,hi015,_,hsz15,_⟩:=info_parts info5
   have hroom15 : t147.length ≤ co14:=(Kd.R_reads' HO_5.out).2.1
   have hC15 : Kd.C (Kd.int .u8) _ Ao14 t147.length t147:=(Kd.R_reads' HO_5.out).2.2
   have ql15 : (x6_1 : Int) ≤ ((wrap64 (x6_1 + 64)) : Int):=of_decide_eq_true (by first|(with_reducible assumption)|assumption)
   have q015 : (0 : Int) ≤ (x6_1 : Int):=of_decide_eq_true (by first|(with_reducible assumption)|assumption)
   have hcut15:=cut_mid (P:=Tryd.prog) 49 5 .i64 .i64 Tryd.underlying49 hi015 1 hsz15 Ao14 t147.length co14 x6_1 (wrap64 (x6_1 + 64)) q015 ql15 q15 hroom15
   have hr15:=Kd.C_mid (lo:=(x6_1 : Int).toNat) (hi:=((wrap64 (x6_1 + 64)) : Int).toNat) (c:=co14) hC15 (by omega) (by omega) hroom15
   obtain ⟨A15,hA15⟩ : ∃ A1,A1 = (if co14 = (x6_1 : Int).toNat then Ao14 else (Ao14 : Option Addr).map (·.add ((x6_1 : Int).toNat * 1))):=⟨_,rfl⟩
   obtain ⟨c15,hc15⟩ : ∃ c1,c1 = co14 - (x6_1 : Int).toNat:=⟨_,rfl⟩
   have hy15 : y150.length = ((wrap64 (x6_1 + 64)) : Int).toNat - (x6_1 : Int).toNat:=(by rw [Ny150.out,List.length_drop,List.length_take] <;> omega)
   rw [show ((t147).take ((wrap64 (x6_1 + 64)) : Int).toNat).drop (x6_1 : Int).toNat = y150 from Ny150.out.symm] at hr15
   replace hr15 : Kd.C (Kd.int .u8) _ A15 y150.length y150:=(by rw [hA15];exact hr15)
   rw [← hy15,← hA15,← hc15] at hcut15
   have HR153:=Aside0.mk hr15
   have HC153:=Aside0.mk (show y150.length ≤ c15 from by rw [hy15,hc15];exact Nat.sub_le_sub_right (Nat.le_trans (by omega) hroom15) _)
   clear hr15 hC15 hroom15 hi015 hsz15 hc15
   have KY15:=Aside0.mk hy15
   have KA15:=Aside0.mk hA15
   clear hy15 hA15
   have KL15:=Aside0.mk (show ((wrap64 (x6_1 + 64)) : Int).toNat ≤ t147.length from by omega)
   have KM15:=Aside0.mk (show (x6_1 : Int).toNat ≤ ((wrap64 (x6_1 + 64)) : Int).toNat from by omega)
   replace q15:=eq_true q15
   go_wp2_with (first|((with_reducible refine gate_callee (f:=99) rfl ?_);refine goesL_ (some 32) rfl rfl Tryd.func99 (by kernel_rfl) rfl #[.slice A15 y150.length c15] rfl (by (try simp only [List.map_toArray,List.map_cons,List.map_nil]);first|done|rfl|(simp only [List.length_drop,List.length_take];rfl)) ?_;(with_reducible refine (racewayref03_schedule.calls k1 _ _ y150 t154 _ ?side1 ?side2 A12.out).mono ?_);(case side1 => repeat (first|exact (by repeat (first|(with_reducible exact HR153.out)|(with_reducible refine Kd.C_alloc ?_ _)|(with_reducible refine Kd.C_drewN ?_ _)|(with_reducible refine Kd.C_drew ?_)|exact HR153.out))|(with_reducible refine Kd.C_alloc ?_ _)|(with_reducible refine Kd.C_drewN ?_ _)|(with_reducible refine Kd.C_drew ?_)));(case side2 => exact HC153.out);rintro e w16 ⟨v155,rfl,ho0,hb⟩;refine ⟨_,rfl,?_⟩;have n0_:=Aside0.mk (Kd.R_elder' (by (with_reducible repeat (first|apply Kd.R_alloc|apply Kd.R_drewN|apply Kd.R_drew));exact HO_3.out) (Kd.R_base ho0) hb);have n1_:=Aside0.mk (Kd.R_elder' (by (with_reducible repeat (first|apply Kd.R_alloc|apply Kd.R_drewN|apply Kd.R_drew));exact HO_4.out) (Kd.R_base ho0) hb);have n2_:=Aside0.mk (Kd.R_below (by (with_reducible repeat (first|apply Kd.R_alloc|apply Kd.R_drewN|apply Kd.R_drew));exact HO_5.out) hb);have n3_:=Aside0.mk (Kd.R_lower (Kd.R_new' (Kd.R_new' ho0 (Kd.R_lt (by (with_reducible repeat (first|apply Kd.R_alloc|apply Kd.R_drewN|apply Kd.R_drew));exact HO_3.out))) (Kd.R_lt (by (with_reducible repeat (first|apply Kd.R_alloc|apply Kd.R_drewN|apply Kd.R_drew));exact HO_4.out))) (below_size (by repeat (first|(with_reducible first|exact HB.out|apply below_alloc|apply pw_below_drewN|apply below_drew1)|exact HB.out))));have n4_:=Aside0.mk (Kd.C_below (by repeat (first|(with_reducible exact HR153.out)|(with_reducible refine Kd.C_alloc ?_ _)|(with_reducible refine Kd.C_drewN ?_ _)|(with_reducible refine Kd.C_drew ?_)|exact HR153.out)) hb);have n5_:=Aside0.mk (below_step (by repeat (first|(with_reducible first|exact HB.out|apply below_alloc|apply pw_below_drewN|apply below_drew1)|exact HB.out)) hb);clear HO_3;clear HO_4;clear HO_5;clear HR153;clear HB;have HO_3:=n0_;have HO_4:=n1_;have HO_5:=n2_;have HO156:=n3_;have HR153:=n4_;have HB:=n5_;clear n0_ n1_ n2_ n3_ n4_ n5_;(try clear hb);(try clear hb2);(try clear hk);(try clear hi);(try clear ho0))|((with_reducible refine gate_dst (N:=33) rfl ?_);refine Kd.R_lit (Kd.int .u32) _ 107 ?hg (N:=33) ?hd (xs:=([] : List Int)) (inner:=[]) (ok:=fun _ => True) (okp:=fun _ => True) ?hr ?hp (fun _ hk => hk) trivial (Below.refl _ _) (Nat.le_refl _) (by simp) ?_;(case hd => rfl);(case hg => rfl);(case hr => first|(go_simp;done)|(go_simp;rfl));(case hp => exact (Reps.none _ _));intro v158 w17 ho18 hb hg_ hnew_;clear hg_ hnew_;(first|rw [← Ny157.out] at ho18|(simp only [Int.reduceToNat] at ho18;rw [← Ny157.out] at ho18));have n0_:=Aside0.mk (Kd.R_elder' (by (with_reducible repeat (first|apply Kd.R_alloc|apply Kd.R_drewN|apply Kd.R_drew));exact HO_3.out) (Kd.R_base ho18) hb);have n1_:=Aside0.mk (Kd.R_elder' (by (with_reducible repeat (first|apply Kd.R_alloc|apply Kd.R_drewN|apply Kd.R_drew));exact HO_4.out) (Kd.R_base ho18) hb);have n2_:=Aside0.mk (Kd.R_below (by (with_reducible repeat (first|apply Kd.R_alloc|apply Kd.R_drewN|apply Kd.R_drew));exact HO_5.out) hb);have n3_:=Aside0.mk (Kd.R_elder' (by (with_reducible repeat (first|apply Kd.R_alloc|apply Kd.R_drewN|apply Kd.R_drew));exact HO156.out) (Kd.R_base ho18) hb);have n4_:=Aside0.mk (Kd.R_lower (Kd.R_new' (Kd.R_new' (Kd.R_new' ho18 (Kd.R_lt (by (with_reducible repeat (first|apply Kd.R_alloc|apply Kd.R_drewN|apply Kd.R_drew));exact HO_3.out))) (Kd.R_lt (by (with_reducible repeat (first|apply Kd.R_alloc|apply Kd.R_drewN|apply Kd.R_drew));exact HO_4.out))) (Kd.R_lt (by (with_reducible repeat (first|apply Kd.R_alloc|apply Kd.R_drewN|apply Kd.R_drew));exact HO156.out))) (below_size (by repeat (first|(with_reducible first|exact HB.out|apply below_alloc|apply pw_below_drewN|apply below_drew1)|exact HB.out))));have n5_:=Aside0.mk (Kd.C_below (by repeat (first|(with_reducible exact HR153.out)|(with_reducible refine Kd.C_alloc ?_ _)|(with_reducible refine Kd.C_drewN ?_ _)|(with_reducible refine Kd.C_drew ?_)|exact HR153.out)) hb);have n6_:=Aside0.mk (below_step (by repeat (first|(with_reducible first|exact HB.out|apply below_alloc|apply pw_below_drewN|apply below_drew1)|exact HB.out)) hb);clear HO_3;clear HO_4;clear HO_5;clear HO156;clear HR153;clear HB;have HO_3:=n0_;have HO_4:=n1_;have HO_5:=n2_;have HO156:=n3_;have HO159:=n4_;have HR153:=n5_;have HB:=n6_;clear n0_ n1_ n2_ n3_ n4_ n5_ n6_;clear hb ho18;obtain ⟨Ao20,co20,eo20⟩:=Kd.R_slice HO_3.out;subst eo20)|((with_reducible refine gate_builtin (b:=.append) (xs:=#[.tmp 33,.tmp 34]) rfl ?_);at_builtin;refine Kd.R_append_rows (Kd.int .u32) (w0:=w) w.heap.size rfl (.tmp 33) (.tmp 34) 132 107 (.int .u32 0) 4 rfl Tryd.underlying132 info107 rfl (by decide) (by omega) v158 y157 x3_1 _ _ _ (fun k_ => some k_ ≠ (.slice Ao20 x3_1.length co20 : Value).ownBlock ∧ some k_ ≠ (v145 : Value).ownBlock ∧ some k_ ≠ (v155 : Value).ownBlock) (fun _ => False) rfl rfl ?aO ?aR (fun _ _ h => h) (fun _ h => h.elim) ?aF ?aB ?aS ?aL ?_;(case aR => repeat (first|exact (Kd.R_reads' HO_3.out).2.2|(with_reducible refine Kd.C_alloc ?_ _)|(with_reducible refine Kd.C_drewN ?_ _)|(with_reducible refine Kd.C_drew ?_)));(case aB => exact (by repeat (first|(with_reducible first|exact HB.out|apply below_alloc|apply pw_below_drewN|apply below_drew1)|exact HB.out)));(case aF => exact (fun k_ hk => ⟨Kd.fresh' (Kd.R_lt (by (with_reducible repeat (first|apply Kd.R_alloc|apply Kd.R_drewN|apply Kd.R_drew));exact HO_3.out)) k_ hk,Kd.fresh' (Kd.R_lt (by (with_reducible repeat (first|apply Kd.R_alloc|apply Kd.R_drewN|apply Kd.R_drew));exact HO_4.out)) k_ hk,Kd.fresh' (Kd.R_lt (by (with_reducible repeat (first|apply Kd.R_alloc|apply Kd.R_drewN|apply Kd.R_drew));exact HO156.out)) k_ hk⟩));(case aO => exact (by (with_reducible repeat (first|apply Kd.R_alloc|apply Kd.R_drewN|apply Kd.R_drew));exact Kd.R_mono HO159.out (fun _ hk => ⟨hk.1.1.2,⟨hk.1.2,hk.2⟩⟩)));(case aS => exact (below_size (by repeat (first|(with_reducible first|exact HB.out|apply below_alloc|apply pw_below_drewN|apply below_drew1)|exact HB.out))));(case aL => have:=LMc13.out;omega);intro v161 w19 ho hb hg hat;rw [← Ny160.out] at ho;have n0_:=Aside0.mk (Kd.R_after (ok:=(fun k_ => some k_ ≠ (v145 : Value).ownBlock ∧ some k_ ≠ (v155 : Value).ownBlock)) (by (with_reducible repeat (first|apply Kd.R_alloc|apply Kd.R_drewN|apply Kd.R_drew));exact HO_3.out) hg hat);have n1_:=Aside0.mk (Kd.R_after (ok:=(fun k_ => some k_ ≠ (.slice Ao20 x3_1.length co20 : Value).ownBlock ∧ some k_ ≠ (v155 : Value).ownBlock)) (by (with_reducible repeat (first|apply Kd.R_alloc|apply Kd.R_drewN|apply Kd.R_drew));exact HO_4.out) hg hat);have n2_:=Aside0.mk (Kd.R_over' (by (with_reducible repeat (first|apply Kd.R_alloc|apply Kd.R_drewN|apply Kd.R_drew));exact HO_5.out) (Kd.R_typed (by (with_reducible repeat (first|apply Kd.R_alloc|apply Kd.R_drewN|apply Kd.R_drew));exact HO159.out)) (by decide) hg);have n3_:=Aside0.mk (Kd.R_after (ok:=(fun k_ => some k_ ≠ (.slice Ao20 x3_1.length co20 : Value).ownBlock ∧ some k_ ≠ (v145 : Value).ownBlock)) (by (with_reducible repeat (first|apply Kd.R_alloc|apply Kd.R_drewN|apply Kd.R_drew));exact Kd.R_mono HO156.out (fun _ hk => ⟨⟨hk.1.1.2,hk.1.2⟩,hk.2⟩)) hg hat);have n4_:=Aside0.mk (hb);have n5_:=Aside0.mk ((show Kd.C (Kd.int .u8) w19 A15 y150.length y150 from by rw [Ny150.out,KA15.out];exact Kd.C_mid (lo:=(x6_1 : Int).toNat) (hi:=((wrap64 (x6_1 + 64)) : Int).toNat) (c:=co14) ((Kd.R_reads' (Kd.R_over' (by (with_reducible repeat (first|apply Kd.R_alloc|apply Kd.R_drewN|apply Kd.R_drew));exact HO_5.out) (Kd.R_typed (by (with_reducible repeat (first|apply Kd.R_alloc|apply Kd.R_drewN|apply Kd.R_drew));exact HO159.out)) (by decide) hg)).2.2) KM15.out KL15.out ((Kd.R_reads' (Kd.R_over' (by (with_reducible repeat (first|apply Kd.R_alloc|apply Kd.R_drewN|apply Kd.R_drew));exact HO_5.out) (Kd.R_typed (by (with_reducible repeat (first|apply Kd.R_alloc|apply Kd.R_drewN|apply Kd.R_drew));exact HO159.out)) (by decide) hg)).2.1)));have n6_:=Aside0.mk (ho);clear HO_3;clear HO_4;clear HO_5;clear HO156;clear HB;clear HR153;clear HO159;have HO_3:=n0_;have HO_4:=n1_;have HO_5:=n2_;have HO156:=n3_;have HB:=n4_;have HR153:=n5_;have HO162:=n6_;clear n0_ n1_ n2_ n3_ n4_ n5_ n6_;clear ho hb hg hat))
   go_loopg [8,9] k1 (fun kq v8 v9 w' => ∃ (x8_2 : List Int) (x9_2 : Int),v9 = .int .i64 x9_2 ∧ Aside0 (racewayref03_Of.l1 kq x3_1 t144 t147 x6_1 t154 x8_2 x9_2 = some r) ∧ Aside0 (kq ≤ k1) ∧ Aside0 (Kd.R (Kd.int .u32) 107 w' w.heap.size (fun k_ => some k_ ≠ (v145 : Value).ownBlock ∧ some k_ ≠ (v155 : Value).ownBlock ∧ some k_ ≠ (v8 : Value).ownBlock) (.slice Ao20 x3_1.length co20) x3_1) ∧ Aside0 (Kd.R (Kd.int .u32) 107 w' w.heap.size (fun k_ => some k_ ≠ ((.slice Ao20 x3_1.length co20) : Value).ownBlock ∧ some k_ ≠ (v155 : Value).ownBlock ∧ some k_ ≠ (v8 : Value).ownBlock) v145 t144) ∧ Aside0 (Kd.R (Kd.int .u8) 5 w' w.heap.size (fun _ => True) (.slice Ao14 t147.length co14) t147) ∧ Aside0 (Kd.R (Kd.int .u32) 107 w' w.heap.size (fun k_ => some k_ ≠ ((.slice Ao20 x3_1.length co20) : Value).ownBlock ∧ some k_ ≠ (v145 : Value).ownBlock ∧ some k_ ≠ (v8 : Value).ownBlock) v155 t154) ∧ Aside0 (Kd.R (Kd.int .u32) 107 w' w.heap.size (fun k_ => some k_ ≠ ((.slice Ao20 x3_1.length co20) : Value).ownBlock ∧ some k_ ≠ (v145 : Value).ownBlock ∧ some k_ ≠ (v155 : Value).ownBlock) v8 x8_2) ∧ Aside0 (Below w.heap.size w w'))
   case atStart => exact ⟨(y160),(0),(by first|rfl|(simp;done)|(simp;decide +kernel)|(simp [*];done)),(by first|exact H'|(subst_vars;exact H')),⟨Nat.le_refl _⟩,⟨by (with_reducible repeat (first|apply Kd.R_alloc|apply Kd.R_drewN|apply Kd.R_drew));exact Kd.R_mono HO_3.out (fun _ hk => ⟨hk.1.1,⟨hk.1.2,hk.2⟩⟩)⟩,⟨by (with_reducible repeat (first|apply Kd.R_alloc|apply Kd.R_drewN|apply Kd.R_drew));exact Kd.R_mono HO_4.out (fun _ hk => ⟨hk.1.1,⟨hk.1.2,hk.2⟩⟩)⟩,⟨by (with_reducible repeat (first|apply Kd.R_alloc|apply Kd.R_drewN|apply Kd.R_drew));exact HO_5.out⟩,⟨by (with_reducible repeat (first|apply Kd.R_alloc|apply Kd.R_drewN|apply Kd.R_drew));exact Kd.R_mono HO156.out (fun _ hk => ⟨hk.1.1,⟨hk.1.2,hk.2⟩⟩)⟩,⟨by (with_reducible repeat (first|apply Kd.R_alloc|apply Kd.R_drewN|apply Kd.R_drew));exact HO162.out⟩,⟨by repeat (first|(with_reducible first|exact HB.out|apply below_alloc|apply pw_below_drewN|apply below_drew1)|exact HB.out)⟩⟩
   case round => as_aux_lemma =>
    clear H'
    try clear c1
    try clear q1
    try clear p2
    try clear c6
    try clear p6
    try clear c8
    try clear c8b0
    try clear c9
    try clear c9b0
    try clear c9b1
    try clear c10
    try clear c10b0
    try clear c10b1
    try clear c11
    try clear c11b0
    try clear c11b1
    try clear c13
    try clear c15
    try clear q15
    try clear p2
    try clear q015
    try clear q15
    obtain ⟨x8_2,x9_2,rfl,HA,HK2,HO_3,HO_4,HO_5,HO_7,HO_8,HB⟩:=hrel
    cases gk with
    | zero => exact absurd HA.out (by simp [racewayref03_Of.l1])
    | succ k2 =>
     have H:=HA.out
     clear HA
     simp only [racewayref03_Of.l1] at H
     by_cases c21 : x9_2 < 64
     rotate_left
     ·rw [if_neg c21] at H
      have c21b0 : decide (x9_2 < 64) = false:=decide_eq_false c21
      clear c21
      have H':=Aside0.mk H
      clear H
      go_wp2
      go_loopg [14] k2 (fun kq v14 w' => ∃ (x3_3 : List Int) (x14_3 : Int),v14 = .int .i64 x14_3 ∧ Aside0 (racewayref03_Of.l2 kq x3_3 t144 t147 x6_1 x8_2 x14_3 = some r) ∧ Aside0 (kq ≤ k2) ∧ Aside0 (Kd.R (Kd.int .u32) 107 w' w.heap.size (fun k_ => some k_ ≠ (v145 : Value).ownBlock ∧ some k_ ≠ (u8 : Value).ownBlock) (.slice Ao20 x3_1.length co20) x3_3) ∧ Aside0 (Kd.R (Kd.int .u32) 107 w' w.heap.size (fun k_ => some k_ ≠ ((.slice Ao20 x3_1.length co20) : Value).ownBlock ∧ some k_ ≠ (u8 : Value).ownBlock) v145 t144) ∧ Aside0 (Kd.R (Kd.int .u8) 5 w' w.heap.size (fun _ => True) (.slice Ao14 t147.length co14) t147) ∧ Aside0 (Kd.R (Kd.int .u32) 107 w' w.heap.size (fun k_ => some k_ ≠ ((.slice Ao20 x3_1.length co20) : Value).ownBlock ∧ some k_ ≠ (v145 : Value).ownBlock) u8 x8_2) ∧ Aside0 (Below w.heap.size w w'))
      case atStart => exact ⟨(x3_1),(0),(by first|rfl|(simp;done)|(simp;decide +kernel)|(simp [*];done)),(by first|exact H'|(subst_vars;exact H')),⟨Nat.le_refl _⟩,⟨by (with_reducible repeat (first|apply Kd.R_alloc|apply Kd.R_drewN|apply Kd.R_drew));exact Kd.R_mono HO_3.out (fun _ hk => ⟨hk.1,hk.2.2⟩)⟩,⟨by (with_reducible repeat (first|apply Kd.R_alloc|apply Kd.R_drewN|apply Kd.R_drew));exact Kd.R_mono HO_4.out (fun _ hk => ⟨hk.1,hk.2.2⟩)⟩,⟨by (with_reducible repeat (first|apply Kd.R_alloc|apply Kd.R_drewN|apply Kd.R_drew));exact HO_5.out⟩,⟨by (with_reducible repeat (first|apply Kd.R_alloc|apply Kd.R_drewN|apply Kd.R_drew));exact Kd.R_mono HO_8.out (fun _ hk => ⟨hk.1,hk.2.1⟩)⟩,⟨by repeat (first|(with_reducible first|exact HB.out|apply below_alloc|apply pw_below_drewN|apply below_drew1)|exact HB.out)⟩⟩
      case round => as_aux_lemma =>
       clear H'
       try clear c1
       try clear p1
       try clear q1
       try clear hx1
       try clear qi1
       try clear c2
       try clear p2
       try clear c3
       try clear p6
       try clear c10
       try clear p18
       try clear q18
       try clear hx18
       try clear qi18
       try clear p19
       try clear q19
       try clear hx19
       try clear qi19
       try clear c21
       try clear c21b0
       try clear c22
       try clear c23
       try clear c24
       try clear c25
       try clear c26
       try clear c27
       try clear c28
       try clear c32
       try clear c33
       try clear c34
       try clear c38
       try clear hx182_0
       try clear hx184_0
       try clear hx186_0
       try clear hx188_0
       try clear hx189_0
       try clear hx190_0
       try clear hx191_0
       try clear hx192_0
       try clear hx193_0
       try clear hx194_0
       try clear p182
       try clear p184
       try clear p186
       try clear p188
       try clear p189
       try clear p190
       try clear p191
       try clear p192
       try clear p193
       try clear p194
       try clear q182
       try clear q184
       try clear q186
       try clear q188
       try clear q189
       try clear q190
       try clear q191
       try clear q192
       try clear q193
       try clear q194
       obtain ⟨x3_3,x14_3,rfl,HA,HK3,HO_3,HO_4,HO_5,HO_8,HB⟩:=hrel
       have hl3_3:=(Kd.R_reads' HO_3.out).1
       rw [hl3_3] at HO_3
       (try simp only [hl3_3])
       (try simp only [hl3_3] at HO_4)
       (try simp only [hl3_3] at HO_5)
       (try simp only [hl3_3] at HO_8)
       cases gk with
       | zero => exact absurd HA.out (by simp [racewayref03_Of.l2])
       | succ k3 =>
        have H:=HA.out
        clear HA
        simp only [racewayref03_Of.l2] at H
        by_cases c49 : x14_3 < 8
        rotate_left
        ·rw [if_neg c49] at H
         have c49b0 : decide (x14_3 < 8) = false:=decide_eq_false c49
         clear c49
         have H':=Aside0.mk H
         clear H
         go_wp2
         (try simp only [← hl3_3])
         go_roundg k3
         case measure => have:=HK1.out;have:=HK2.out;have:=HK3.out;omega
         case rel => exact ⟨(x3_3),(wrap64 (x6_1 + 64)),(by first|rfl|(simp;done)|(simp;decide +kernel)|(simp [*];done)),(by first|exact H'|(subst_vars;exact H')),⟨by have:=HK1.out;have:=HK2.out;have:=HK3.out;omega⟩,⟨by (try simp only [hl3_3]);(with_reducible repeat (first|apply Kd.R_alloc|apply Kd.R_drewN|apply Kd.R_drew));exact Kd.R_mono HO_3.out (fun _ hk => hk.1)⟩,⟨by (try simp only [hl3_3]);(with_reducible repeat (first|apply Kd.R_alloc|apply Kd.R_drewN|apply Kd.R_drew));exact Kd.R_mono HO_4.out (fun _ hk => hk.1)⟩,⟨by (try simp only [hl3_3]);(with_reducible repeat (first|apply Kd.R_alloc|apply Kd.R_drewN|apply Kd.R_drew));exact HO_5.out⟩,⟨by repeat (first|(with_reducible first|exact HB.out|apply below_alloc|apply pw_below_drewN|apply below_drew1)|exact HB.out)⟩⟩
        rw [if_pos c49] at H
        have c49b0 : decide (x14_3 < 8) = true:=decide_eq_true c49
        clear c49
        by_cases c50 : 0 ≤ x14_3
        rotate_left
        ·rw [if_neg c50] at H
         exact absurd H (by simp)
        rw [if_pos c50] at H
        have c50b0 : decide (0 ≤ x14_3) = true:=decide_eq_true c50
        clear c50
        by_cases c51 : x14_3 < (x3_3.length : Int)
        rotate_left
        ·rw [if_neg c51] at H
         exact absurd H (by simp)
        rw [if_pos c51] at H
        have c51b0 : decide (x14_3 < (x3_3.length : Int)) = true:=decide_eq_true c51
        clear c51
        by_cases c52 : x14_3 < (x8_2.length : Int)
        rotate_left
        ·rw [if_neg c52] at H
         exact absurd H (by simp)
        rw [if_pos c52] at H
        have c52b0 : decide (x14_3 < (x8_2.length : Int)) = true:=decide_eq_true c52
        clear c52
        obtain ⟨y200,hy200⟩ : ∃ y_ : List Int,y_ = (x3_3.set (x14_3 : Int).toNat (((rd x3_3 x14_3) + (rd x8_2 x14_3)) % 4294967296)):=⟨_,rfl⟩
        replace H : (racewayref03_Of.l2 k3 y200 t144 t147 x6_1 x8_2 (wrap64 (x14_3 + 1))) = some r:=by first|(rw [hy200];with_reducible exact H)|(have H2_:=(Option.bind_some _ _).symm.trans H;rw [hy200];with_reducible exact H2_)|(have H2_:=(Option.bind_some _ _).symm.trans H;with_reducible exact H2_)|with_reducible exact H|(rw [hy200];exact H)|exact H
        have Ny200:=Aside0.mk hy200
        clear hy200
        have H':=Aside0.mk H
        clear H
        try go_wp2
        have n0_:=Aside0.mk (Kd.R_drew HO_3.out)
        have n1_:=Aside0.mk (Kd.R_drew HO_4.out)
        have n2_:=Aside0.mk (Kd.R_drew HO_5.out)
        have n3_:=Aside0.mk (Kd.R_drew HO_8.out)
        have n4_:=Aside0.mk (below_drew1 HB.out)
        clear HO_3
        clear HO_4
        clear HO_5
        clear HO_8
        clear HB
        have HO_3:=n0_
        have HO_4:=n1_
        have HO_5:=n2_
        have HO_8:=n3_
        have HB:=n4_
        clear n0_ n1_ n2_ n3_ n4_
        have p198 : 0 ≤ (x14_3 : Int):=of_decide_eq_true (by first|(with_reducible assumption)|assumption)
        have q198 : x14_3 < (x3_3.length : Int):=of_decide_eq_true (by first|(with_reducible assumption)|assumption)
        obtain ⟨ad198,e198,hx198_0⟩:=Kd.at_int (Kd.R_reads' HO_3.out).2.2 x14_3 p198 q198
        cases e198
        replace p198:=eq_true p198
        replace q198:=eq_true q198
        obtain ⟨Ao55,co55,eo55⟩:=Kd.R_slice HO_8.out
        (first|subst eo55|(injection eo55 with f1_ f2_ f3_;have f4_:=f1_.symm;have f5_:=f3_.symm;clear f1_ f2_ f3_;subst f4_;subst f5_))
        have p199 : 0 ≤ (x14_3 : Int):=of_decide_eq_true (by first|(with_reducible assumption)|assumption)
        have q199 : x14_3 < (x8_2.length : Int):=of_decide_eq_true (by first|(with_reducible assumption)|assumption)
        obtain ⟨ad199,e199,hx199_0⟩:=Kd.at_int (Kd.R_reads' HO_8.out).2.2 x14_3 p199 q199
        cases e199
        replace p199:=eq_true p199
        replace q199:=eq_true q199
        have p53 : 0 ≤ (x14_3 : Int):=of_decide_eq_true (by first|(with_reducible assumption)|assumption)
        have q53 : (x14_3 : Int) < ((x3_3.length : Int) : Int):=of_decide_eq_true (by first|(with_reducible assumption)|assumption)
        obtain ⟨go53,co53,eo53,gb53,gl53,cl53,HG53⟩:=Kd.R_form HO_3.out (by omega)
        (first|cases eo53|(injection eo53 with ea_ en_ ec_;(first|subst ea_|(injection ea_ with ea_;subst ea_));subst ec_;clear en_))
        have GB53:=Aside0.mk gb53
        have GG53:=Aside0.mk HG53
        clear gb53 gl53 HG53
        (first|simp only [add_plain] at hx198_0|skip)
        obtain ⟨hx53_0,hf53_0⟩:=Kd.R_celln 0 HO_3.out (x14_3 : Int) p53 q53
        replace p53:=eq_true p53
        replace q53:=eq_true q53
        have HP56:=Kd.R_putn HO_3.out (x14_3 : Int) (((rd x3_3 x14_3) + (rd x8_2 x14_3)) % 4294967296)
        rw [← Ny200.out] at HP56
        have HQ56:=Aside0.mk HP56
        clear HP56
        refine start_ (n:=13) (S:=fun w' => w'.cell? ⟨go53,(x14_3).toNat,none⟩ = some (.int .u32 (rd x3_3 x14_3)) ∧ w'.cell? (ad199.add (x14_3).toNat) = some (.int .u32 (rd x8_2 x14_3))) (ds:=[12]) #[false,false,false,false,false,false,false,false,false,false,false,false,false] (by kernel_rfl) rfl rfl ⟨hx198_0,hx199_0⟩ (fun hHeld => ?_);refine with_tabW racewayref03_Of.tab20 racewayref03_Of.bits20 (fun HT_ HW_ => ?_)
        generalize wr.drew = w54 at HO_3 HO_4 HO_5 HO_8 HB GG53 HQ56 hf53_0 hx198_0 hx199_0 hx53_0 hHeld ⊢
        refine pure_ (i:=0) (N:=some 156) (v:=?_) (a':=?_) #[true,false,false,false,false,false,false,false,false,false,false,false,false] rfl rfl (any_of HT_.out (by kernel_rfl)) (fun _ _ _ h => h) (Or.inl ⟨by rfl,?_⟩) ?_ ?_
        rotate_left
        ·intro w'
         go_simp
         with_reducible rfl
        rotate_left
        ·simp only [Act.put,List.setIfInBounds_toArray,List.set_cons_zero,List.set_cons_succ,i64_w,i32_w]
         rfl
        refine pure_ (i:=1) (N:=some 157) (v:=?_) (a':=?_) #[true,true,false,false,false,false,false,false,false,false,false,false,false] rfl rfl (any_of HT_.out (by kernel_rfl)) (fun _ _ _ h => h) (Or.inl ⟨by rfl,?_⟩) ?_ ?_
        rotate_left
        ·intro w'
         go_simp
         with_reducible rfl
        rotate_left
        ·simp only [Act.put,List.setIfInBounds_toArray,List.set_cons_zero,List.set_cons_succ,i64_w,i32_w]
         rfl
        refine pure_ (i:=2) (N:=some 158) (v:=?_) (a':=?_) #[true,true,true,false,false,false,false,false,false,false,false,false,false] rfl rfl (any_of HT_.out (by kernel_rfl)) (fun _ _ _ h => h) (Or.inl ⟨by rfl,?_⟩) ?_ ?_
        rotate_left
        ·intro w'
         go_simp
         with_reducible rfl
        rotate_left
        ·simp only [Act.put,List.setIfInBounds_toArray,List.set_cons_zero,List.set_cons_succ,i64_w,i32_w]
         rfl
        refine pure_ (i:=3) (N:=some 159) (v:=?_) (a':=?_) #[true,true,true,true,false,false,false,false,false,false,false,false,false] rfl rfl (any_of HT_.out (by kernel_rfl)) (fun _ _ _ h => h) (Or.inl ⟨by rfl,?_⟩) ?_ ?_
        rotate_left
        ·intro w'
         go_simp
         with_reducible rfl
        rotate_left
        ·simp only [Act.put,List.setIfInBounds_toArray,List.set_cons_zero,List.set_cons_succ,i64_w,i32_w]
         rfl
        refine pure_ (i:=4) (N:=some 160) (v:=?_) (a':=?_) #[true,true,true,true,true,false,false,false,false,false,false,false,false] rfl rfl (any_of HT_.out (by kernel_rfl)) (fun _ _ _ h => h) (Or.inl ⟨by rfl,?_⟩) ?_ ?_
        rotate_left
        ·intro w'
         go_simp
         with_reducible rfl
        rotate_left
        ·simp only [Act.put,List.setIfInBounds_toArray,List.set_cons_zero,List.set_cons_succ,i64_w,i32_w]
         rfl
        refine pure_ (i:=6) (N:=some 162) (v:=?_) (a':=?_) #[true,true,true,true,true,false,true,false,false,false,false,false,false] rfl rfl (any_of HT_.out (by kernel_rfl)) (fun _ _ _ h => h) (Or.inl ⟨by rfl,?_⟩) ?_ ?_
        rotate_left
        ·intro w'
         go_simp
         with_reducible rfl
        rotate_left
        ·simp only [Act.put,List.setIfInBounds_toArray,List.set_cons_zero,List.set_cons_succ,i64_w,i32_w]
         rfl
        refine pure_ (i:=7) (N:=some 163) (v:=?_) (a':=?_) #[true,true,true,true,true,false,true,true,false,false,false,false,false] rfl rfl (any_of HT_.out (by kernel_rfl)) (fun _ _ _ h => h) (Or.inl ⟨by rfl,?_⟩) ?_ ?_
        rotate_left
        ·intro w'
         go_simp
         with_reducible rfl
        rotate_left
        ·simp only [Act.put,List.setIfInBounds_toArray,List.set_cons_zero,List.set_cons_succ,i64_w,i32_w]
         rfl
        refine pure_ (i:=8) (N:=some 164) (v:=?_) (a':=?_) #[true,true,true,true,true,false,true,true,true,false,false,false,false] rfl rfl (any_of HT_.out (by kernel_rfl)) (fun _ _ _ h => h) (Or.inl ⟨by rfl,?_⟩) ?_ ?_
        rotate_left
        ·intro w'
         go_simp
         with_reducible rfl
        rotate_left
        ·simp only [Act.put,List.setIfInBounds_toArray,List.set_cons_zero,List.set_cons_succ,i64_w,i32_w]
         rfl
        refine take_ (i:=5) (N:=some 161) (v:=?_) (a':=?_) #[true,true,true,true,true,true,true,true,true,false,false,false,false] rfl rfl (take_ofW HT_.out HW_.out (by kernel_rfl)) (fun _ _ _ h => h) (Or.inl ⟨by rfl,?_⟩) hHeld ?_ ?_
        rotate_left
        ·rintro w' ⟨s0,s1⟩
         go_simp
         with_reducible rfl
        rotate_left
        ·simp only [Act.put,List.setIfInBounds_toArray,List.set_cons_zero,List.set_cons_succ,i64_w,i32_w]
         rfl
        refine take_ (i:=9) (N:=some 165) (v:=?_) (a':=?_) #[true,true,true,true,true,true,true,true,true,true,false,false,false] rfl rfl (take_ofW HT_.out HW_.out (by kernel_rfl)) (fun _ _ _ h => h) (Or.inl ⟨by rfl,?_⟩) hHeld ?_ ?_
        rotate_left
        ·rintro w' ⟨s0,s1⟩
         go_simp
         with_reducible rfl
        rotate_left
        ·simp only [Act.put,List.setIfInBounds_toArray,List.set_cons_zero,List.set_cons_succ,i64_w,i32_w]
         rfl
        refine pure_ (i:=10) (N:=some 166) (v:=?_) (a':=?_) #[true,true,true,true,true,true,true,true,true,true,true,false,false] rfl rfl (any_of HT_.out (by kernel_rfl)) (fun _ _ _ h => h) (Or.inl ⟨by rfl,?_⟩) ?_ ?_
        rotate_left
        ·intro w'
         go_simp
         with_reducible rfl
        rotate_left
        ·simp only [Act.put,List.setIfInBounds_toArray,List.set_cons_zero,List.set_cons_succ,i64_w,i32_w]
         rfl
        refine pure_ (i:=11) (N:=some 167) (v:=?_) (a':=?_) #[true,true,true,true,true,true,true,true,true,true,true,true,false] rfl rfl (any_of HT_.out (by kernel_rfl)) (fun _ _ _ h => h) (Or.inl ⟨by rfl,?_⟩) ?_ ?_
        rotate_left
        ·intro w'
         go_simp
         with_reducible rfl
        rotate_left
        ·simp only [Act.put,List.setIfInBounds_toArray,List.set_cons_zero,List.set_cons_succ,i64_w,i32_w]
         rfl
        refine last_ (i:=12) (N:=none) #[true,true,true,true,true,true,true,true,true,true,true,true,true] rfl rfl (one_of HT_.out (by kernel_rfl)) (by decide) (fun K hK => ?_)
        refine skip_ (w1:=?_) (by rfl) rfl ?_ ?_
        rotate_left
        ·go_simp
         rfl
        refine hK.out _ _ ?_
        clear hK K
        refine done_ (done_of HT_.out (by kernel_rfl)) ?_
        try go_wp2
        (try simp only [← hl3_3])
        go_roundg k3
        case measure => have:=HK1.out;have:=HK2.out;have:=HK3.out;omega
        case rel => exact ⟨(y200),(wrap64 (x14_3 + 1)),(by first|rfl|(simp;done)|(simp;decide +kernel)|(simp [*];done)),(by first|exact H'|(subst_vars;exact H')),⟨by have:=HK1.out;have:=HK2.out;have:=HK3.out;omega⟩,⟨by (try simp only [hl3_3]);(with_reducible repeat (first|apply Kd.R_alloc|apply Kd.R_drewN|apply Kd.R_drew));exact HQ56.out⟩,⟨by (try simp only [hl3_3]);(with_reducible repeat (first|apply Kd.R_alloc|apply Kd.R_drewN|apply Kd.R_drew));exact Kd.R_mono (Kd.R_far (p:=⟨go53,(x14_3 : Int).toNat,none⟩) (Kd.R_mono HO_4.out (fun k_ hk => (⟨hk,fun e_ => hk.1 (by rw [e_];rfl)⟩ : _ ∧ k_ ≠ go53))) (fun _ hk => hk.2) (.int .u32 (((rd x3_3 x14_3) + (rd x8_2 x14_3)) % 4294967296))) (fun _ hk => ⟨hk.1.1,hk.1.2⟩)⟩,⟨by (try simp only [hl3_3]);(with_reducible repeat (first|apply Kd.R_alloc|apply Kd.R_drewN|apply Kd.R_drew));exact Kd.R_mono (Kd.R_far (p:=⟨go53,(x14_3 : Int).toNat,none⟩) (Kd.R_types HO_5.out GG53.out (by decide)) (fun _ hk => hk.2) (.int .u32 (((rd x3_3 x14_3) + (rd x8_2 x14_3)) % 4294967296))) (fun _ hk => trivial)⟩,⟨by (try simp only [hl3_3]);(with_reducible repeat (first|apply Kd.R_alloc|apply Kd.R_drewN|apply Kd.R_drew));exact Kd.R_mono (Kd.R_far (p:=⟨go53,(x14_3 : Int).toNat,none⟩) (Kd.R_mono HO_8.out (fun k_ hk => (⟨hk,fun e_ => hk.1 (by rw [e_];rfl)⟩ : _ ∧ k_ ≠ go53))) (fun _ hk => hk.2) (.int .u32 (((rd x3_3 x14_3) + (rd x8_2 x14_3)) % 4294967296))) (fun _ hk => ⟨hk.1.1,hk.1.2⟩)⟩,⟨by repeat (first|(with_reducible first|exact HB.out|apply below_alloc|apply pw_below_drewN|apply below_drew1|refine below_set ?_ GB53.out)|exact HB.out)⟩⟩
     rw [if_pos c21] at H
     have c21b0 : decide (x9_2 < 64) = true:=decide_eq_true c21
     clear c21
     by_cases c22 : 4 < (x8_2.length : Int)
     rotate_left
     ·rw [if_neg c22] at H
      exact absurd H (by simp)
     rw [if_pos c22] at H
     have c22b0 : decide (4 < (x8_2.length : Int)) = true:=decide_eq_true c22
     have c22b1 : decide (4 < x8_2.length) = true:=decide_eq_true (by omega)
     clear c22
     by_cases c23 : 5 < (x8_2.length : Int)
     rotate_left
     ·rw [if_neg c23] at H
      exact absurd H (by simp)
     rw [if_pos c23] at H
     have c23b0 : decide (5 < (x8_2.length : Int)) = true:=decide_eq_true c23
     have c23b1 : decide (5 < x8_2.length) = true:=decide_eq_true (by omega)
     clear c23
     by_cases c24 : 6 < (x8_2.length : Int)
     rotate_left
     ·rw [if_neg c24] at H
      exact absurd H (by simp)
     rw [if_pos c24] at H
     have c24b0 : decide (6 < (x8_2.length : Int)) = true:=decide_eq_true c24
     have c24b1 : decide (6 < x8_2.length) = true:=decide_eq_true (by omega)
     clear c24
     by_cases c25 : 0 < (x8_2.length : Int)
     rotate_left
     ·rw [if_neg c25] at H
      exact absurd H (by simp)
     rw [if_pos c25] at H
     have c25b0 : decide (0 < (x8_2.length : Int)) = true:=decide_eq_true c25
     have c25b1 : decide (0 < x8_2.length) = true:=decide_eq_true (by omega)
     clear c25
     by_cases c26 : 1 < (x8_2.length : Int)
     rotate_left
     ·rw [if_neg c26] at H
      exact absurd H (by simp)
     rw [if_pos c26] at H
     have c26b0 : decide (1 < (x8_2.length : Int)) = true:=decide_eq_true c26
     have c26b1 : decide (1 < x8_2.length) = true:=decide_eq_true (by omega)
     clear c26
     by_cases c27 : 2 < (x8_2.length : Int)
     rotate_left
     ·rw [if_neg c27] at H
      exact absurd H (by simp)
     rw [if_pos c27] at H
     have c27b0 : decide (2 < (x8_2.length : Int)) = true:=decide_eq_true c27
     have c27b1 : decide (2 < x8_2.length) = true:=decide_eq_true (by omega)
     clear c27
     by_cases c28 : 7 < (x8_2.length : Int)
     rotate_left
     ·rw [if_neg c28] at H
      exact absurd H (by simp)
     rw [if_pos c28] at H
     have c28b0 : decide (7 < (x8_2.length : Int)) = true:=decide_eq_true c28
     have c28b1 : decide (7 < x8_2.length) = true:=decide_eq_true (by omega)
     clear c28
     replace H:=Option.bind_eq_some_iff.mp H
     obtain ⟨t175,A290,H⟩:=H
     replace H : ((racewayref03_turn.f (rd x8_2 4) 11).bind fun t177 => ((racewayref03_turn.f (rd x8_2 4) 25).bind fun t179 => (if 0 ≤ x9_2 then (if x9_2 < (t144.length : Int) then (if x9_2 < (t154.length : Int) then ((racewayref03_turn.f (rd x8_2 0) 2).bind fun t183 => ((racewayref03_turn.f (rd x8_2 0) 13).bind fun t185 => ((racewayref03_turn.f (rd x8_2 0) 22).bind fun t187 => (if 3 < (x8_2.length : Int) then (racewayref03_Of.l1 k2 x3_1 t144 t147 x6_1 t154 (([((((((((((rd x8_2 7) + (Go.bits .xor .u32 (Go.bits .xor .u32 t175 t177) t179)) % 4294967296) + (Go.bits .xor .u32 (Go.bits .and .u32 (rd x8_2 4) (rd x8_2 5)) (Go.bits .and .u32 (Go.bits .xor .u32 (rd x8_2 4) 4294967295) (rd x8_2 6)))) % 4294967296) + (rd t144 x9_2)) % 4294967296) + (rd t154 x9_2)) % 4294967296) + (((Go.bits .xor .u32 (Go.bits .xor .u32 t183 t185) t187) + (Go.bits .xor .u32 (Go.bits .xor .u32 (Go.bits .and .u32 (rd x8_2 0) (rd x8_2 1)) (Go.bits .and .u32 (rd x8_2 0) (rd x8_2 2))) (Go.bits .and .u32 (rd x8_2 1) (rd x8_2 2)))) % 4294967296)) % 4294967296,rd x8_2 0,rd x8_2 1,rd x8_2 2,((rd x8_2 3) + (((((((((rd x8_2 7) + (Go.bits .xor .u32 (Go.bits .xor .u32 t175 t177) t179)) % 4294967296) + (Go.bits .xor .u32 (Go.bits .and .u32 (rd x8_2 4) (rd x8_2 5)) (Go.bits .and .u32 (Go.bits .xor .u32 (rd x8_2 4) 4294967295) (rd x8_2 6)))) % 4294967296) + (rd t144 x9_2)) % 4294967296) + (rd t154 x9_2)) % 4294967296)) % 4294967296,rd x8_2 4,rd x8_2 5,rd x8_2 6] : List Int)) (wrap64 (x9_2 + 1))) else (none))))) else (none)) else (none)) else (none)))) = some r:=H
     have A29:=Aside0.mk A290
     clear A290
     replace H:=Option.bind_eq_some_iff.mp H
     obtain ⟨t177,A300,H⟩:=H
     replace H : ((racewayref03_turn.f (rd x8_2 4) 25).bind fun t179 => (if 0 ≤ x9_2 then (if x9_2 < (t144.length : Int) then (if x9_2 < (t154.length : Int) then ((racewayref03_turn.f (rd x8_2 0) 2).bind fun t183 => ((racewayref03_turn.f (rd x8_2 0) 13).bind fun t185 => ((racewayref03_turn.f (rd x8_2 0) 22).bind fun t187 => (if 3 < (x8_2.length : Int) then (racewayref03_Of.l1 k2 x3_1 t144 t147 x6_1 t154 (([((((((((((rd x8_2 7) + (Go.bits .xor .u32 (Go.bits .xor .u32 t175 t177) t179)) % 4294967296) + (Go.bits .xor .u32 (Go.bits .and .u32 (rd x8_2 4) (rd x8_2 5)) (Go.bits .and .u32 (Go.bits .xor .u32 (rd x8_2 4) 4294967295) (rd x8_2 6)))) % 4294967296) + (rd t144 x9_2)) % 4294967296) + (rd t154 x9_2)) % 4294967296) + (((Go.bits .xor .u32 (Go.bits .xor .u32 t183 t185) t187) + (Go.bits .xor .u32 (Go.bits .xor .u32 (Go.bits .and .u32 (rd x8_2 0) (rd x8_2 1)) (Go.bits .and .u32 (rd x8_2 0) (rd x8_2 2))) (Go.bits .and .u32 (rd x8_2 1) (rd x8_2 2)))) % 4294967296)) % 4294967296,rd x8_2 0,rd x8_2 1,rd x8_2 2,((rd x8_2 3) + (((((((((rd x8_2 7) + (Go.bits .xor .u32 (Go.bits .xor .u32 t175 t177) t179)) % 4294967296) + (Go.bits .xor .u32 (Go.bits .and .u32 (rd x8_2 4) (rd x8_2 5)) (Go.bits .and .u32 (Go.bits .xor .u32 (rd x8_2 4) 4294967295) (rd x8_2 6)))) % 4294967296) + (rd t144 x9_2)) % 4294967296) + (rd t154 x9_2)) % 4294967296)) % 4294967296,rd x8_2 4,rd x8_2 5,rd x8_2 6] : List Int)) (wrap64 (x9_2 + 1))) else (none))))) else (none)) else (none)) else (none))) = some r:=H
     have A30:=Aside0.mk A300
     clear A300
     replace H:=Option.bind_eq_some_iff.mp H
     obtain ⟨t179,A310,H⟩:=H
     replace H : (if 0 ≤ x9_2 then (if x9_2 < (t144.length : Int) then (if x9_2 < (t154.length : Int) then ((racewayref03_turn.f (rd x8_2 0) 2).bind fun t183 => ((racewayref03_turn.f (rd x8_2 0) 13).bind fun t185 => ((racewayref03_turn.f (rd x8_2 0) 22).bind fun t187 => (if 3 < (x8_2.length : Int) then (racewayref03_Of.l1 k2 x3_1 t144 t147 x6_1 t154 (([((((((((((rd x8_2 7) + (Go.bits .xor .u32 (Go.bits .xor .u32 t175 t177) t179)) % 4294967296) + (Go.bits .xor .u32 (Go.bits .and .u32 (rd x8_2 4) (rd x8_2 5)) (Go.bits .and .u32 (Go.bits .xor .u32 (rd x8_2 4) 4294967295) (rd x8_2 6)))) % 4294967296) + (rd t144 x9_2)) % 4294967296) + (rd t154 x9_2)) % 4294967296) + (((Go.bits .xor .u32 (Go.bits .xor .u32 t183 t185) t187) + (Go.bits .xor .u32 (Go.bits .xor .u32 (Go.bits .and .u32 (rd x8_2 0) (rd x8_2 1)) (Go.bits .and .u32 (rd x8_2 0) (rd x8_2 2))) (Go.bits .and .u32 (rd x8_2 1) (rd x8_2 2)))) % 4294967296)) % 4294967296,rd x8_2 0,rd x8_2 1,rd x8_2 2,((rd x8_2 3) + (((((((((rd x8_2 7) + (Go.bits .xor .u32 (Go.bits .xor .u32 t175 t177) t179)) % 4294967296) + (Go.bits .xor .u32 (Go.bits .and .u32 (rd x8_2 4) (rd x8_2 5)) (Go.bits .and .u32 (Go.bits .xor .u32 (rd x8_2 4) 4294967295) (rd x8_2 6)))) % 4294967296) + (rd t144 x9_2)) % 4294967296) + (rd t154 x9_2)) % 4294967296)) % 4294967296,rd x8_2 4,rd x8_2 5,rd x8_2 6] : List Int)) (wrap64 (x9_2 + 1))) else (none))))) else (none)) else (none)) else (none)) = some r:=H
     have A31:=Aside0.mk A310
     clear A310
     by_cases c32 : 0 ≤ x9_2
     rotate_left
     ·rw [if_neg c32] at H
      exact absurd H (by simp)
     rw [if_pos c32] at H
     have c32b0 : decide (0 ≤ x9_2) = true:=decide_eq_true c32
     clear c32
     by_cases c33 : x9_2 < (t144.length : Int)
     rotate_left
     ·rw [if_neg c33] at H
      exact absurd H (by simp)
     rw [if_pos c33] at H
     have c33b0 : decide (x9_2 < (t144.length : Int)) = true:=decide_eq_true c33
     clear c33
     by_cases c34 : x9_2 < (t154.length : Int)
     rotate_left
     ·rw [if_neg c34] at H
      exact absurd H (by simp)
     rw [if_pos c34] at H
     have c34b0 : decide (x9_2 < (t154.length : Int)) = true:=decide_eq_true c34
     clear c34
     replace H:=Option.bind_eq_some_iff.mp H
     obtain ⟨t183,A350,H⟩:=H
     replace H : ((racewayref03_turn.f (rd x8_2 0) 13).bind fun t185 => ((racewayref03_turn.f (rd x8_2 0) 22).bind fun t187 => (if 3 < (x8_2.length : Int) then (racewayref03_Of.l1 k2 x3_1 t144 t147 x6_1 t154 (([((((((((((rd x8_2 7) + (Go.bits .xor .u32 (Go.bits .xor .u32 t175 t177) t179)) % 4294967296) + (Go.bits .xor .u32 (Go.bits .and .u32 (rd x8_2 4) (rd x8_2 5)) (Go.bits .and .u32 (Go.bits .xor .u32 (rd x8_2 4) 4294967295) (rd x8_2 6)))) % 4294967296) + (rd t144 x9_2)) % 4294967296) + (rd t154 x9_2)) % 4294967296) + (((Go.bits .xor .u32 (Go.bits .xor .u32 t183 t185) t187) + (Go.bits .xor .u32 (Go.bits .xor .u32 (Go.bits .and .u32 (rd x8_2 0) (rd x8_2 1)) (Go.bits .and .u32 (rd x8_2 0) (rd x8_2 2))) (Go.bits .and .u32 (rd x8_2 1) (rd x8_2 2)))) % 4294967296)) % 4294967296,rd x8_2 0,rd x8_2 1,rd x8_2 2,((rd x8_2 3) + (((((((((rd x8_2 7) + (Go.bits .xor .u32 (Go.bits .xor .u32 t175 t177) t179)) % 4294967296) + (Go.bits .xor .u32 (Go.bits .and .u32 (rd x8_2 4) (rd x8_2 5)) (Go.bits .and .u32 (Go.bits .xor .u32 (rd x8_2 4) 4294967295) (rd x8_2 6)))) % 4294967296) + (rd t144 x9_2)) % 4294967296) + (rd t154 x9_2)) % 4294967296)) % 4294967296,rd x8_2 4,rd x8_2 5,rd x8_2 6] : List Int)) (wrap64 (x9_2 + 1))) else (none)))) = some r:=H
     have A35:=Aside0.mk A350
     clear A350
     replace H:=Option.bind_eq_some_iff.mp H
     obtain ⟨t185,A360,H⟩:=H
     replace H : ((racewayref03_turn.f (rd x8_2 0) 22).bind fun t187 => (if 3 < (x8_2.length : Int) then (racewayref03_Of.l1 k2 x3_1 t144 t147 x6_1 t154 (([((((((((((rd x8_2 7) + (Go.bits .xor .u32 (Go.bits .xor .u32 t175 t177) t179)) % 4294967296) + (Go.bits .xor .u32 (Go.bits .and .u32 (rd x8_2 4) (rd x8_2 5)) (Go.bits .and .u32 (Go.bits .xor .u32 (rd x8_2 4) 4294967295) (rd x8_2 6)))) % 4294967296) + (rd t144 x9_2)) % 4294967296) + (rd t154 x9_2)) % 4294967296) + (((Go.bits .xor .u32 (Go.bits .xor .u32 t183 t185) t187) + (Go.bits .xor .u32 (Go.bits .xor .u32 (Go.bits .and .u32 (rd x8_2 0) (rd x8_2 1)) (Go.bits .and .u32 (rd x8_2 0) (rd x8_2 2))) (Go.bits .and .u32 (rd x8_2 1) (rd x8_2 2)))) % 4294967296)) % 4294967296,rd x8_2 0,rd x8_2 1,rd x8_2 2,((rd x8_2 3) + (((((((((rd x8_2 7) + (Go.bits .xor .u32 (Go.bits .xor .u32 t175 t177) t179)) % 4294967296) + (Go.bits .xor .u32 (Go.bits .and .u32 (rd x8_2 4) (rd x8_2 5)) (Go.bits .and .u32 (Go.bits .xor .u32 (rd x8_2 4) 4294967295) (rd x8_2 6)))) % 4294967296) + (rd t144 x9_2)) % 4294967296) + (rd t154 x9_2)) % 4294967296)) % 4294967296,rd x8_2 4,rd x8_2 5,rd x8_2 6] : List Int)) (wrap64 (x9_2 + 1))) else (none))) = some r:=H
     have A36:=Aside0.mk A360
     clear A360
     replace H:=Option.bind_eq_some_iff.mp H
     obtain ⟨t187,A370,H⟩:=H
     replace H : (if 3 < (x8_2.length : Int) then (racewayref03_Of.l1 k2 x3_1 t144 t147 x6_1 t154 (([((((((((((rd x8_2 7) + (Go.bits .xor .u32 (Go.bits .xor .u32 t175 t177) t179)) % 4294967296) + (Go.bits .xor .u32 (Go.bits .and .u32 (rd x8_2 4) (rd x8_2 5)) (Go.bits .and .u32 (Go.bits .xor .u32 (rd x8_2 4) 4294967295) (rd x8_2 6)))) % 4294967296) + (rd t144 x9_2)) % 4294967296) + (rd t154 x9_2)) % 4294967296) + (((Go.bits .xor .u32 (Go.bits .xor .u32 t183 t185) t187) + (Go.bits .xor .u32 (Go.bits .xor .u32 (Go.bits .and .u32 (rd x8_2 0) (rd x8_2 1)) (Go.bits .and .u32 (rd x8_2 0) (rd x8_2 2))) (Go.bits .and .u32 (rd x8_2 1) (rd x8_2 2)))) % 4294967296)) % 4294967296,rd x8_2 0,rd x8_2 1,rd x8_2 2,((rd x8_2 3) + (((((((((rd x8_2 7) + (Go.bits .xor .u32 (Go.bits .xor .u32 t175 t177) t179)) % 4294967296) + (Go.bits .xor .u32 (Go.bits .and .u32 (rd x8_2 4) (rd x8_2 5)) (Go.bits .and .u32 (Go.bits .xor .u32 (rd x8_2 4) 4294967295) (rd x8_2 6)))) % 4294967296) + (rd t144 x9_2)) % 4294967296) + (rd t154 x9_2)) % 4294967296)) % 4294967296,rd x8_2 4,rd x8_2 5,rd x8_2 6] : List Int)) (wrap64 (x9_2 + 1))) else (none)) = some r:=H
     have A37:=Aside0.mk A370
     clear A370
     by_cases c38 : 3 < (x8_2.length : Int)
     rotate_left
     ·rw [if_neg c38] at H
      exact absurd H (by simp)
     rw [if_pos c38] at H
     have c38b0 : decide (3 < (x8_2.length : Int)) = true:=decide_eq_true c38
     have c38b1 : decide (3 < x8_2.length) = true:=decide_eq_true (by omega)
     clear c38
     obtain ⟨y195,hy195⟩ : ∃ y_ : List Int,y_ = (([((((((((((rd x8_2 7) + (Go.bits .xor .u32 (Go.bits .xor .u32 t175 t177) t179)) % 4294967296) + (Go.bits .xor .u32 (Go.bits .and .u32 (rd x8_2 4) (rd x8_2 5)) (Go.bits .and .u32 (Go.bits .xor .u32 (rd x8_2 4) 4294967295) (rd x8_2 6)))) % 4294967296) + (rd t144 x9_2)) % 4294967296) + (rd t154 x9_2)) % 4294967296) + (((Go.bits .xor .u32 (Go.bits .xor .u32 t183 t185) t187) + (Go.bits .xor .u32 (Go.bits .xor .u32 (Go.bits .and .u32 (rd x8_2 0) (rd x8_2 1)) (Go.bits .and .u32 (rd x8_2 0) (rd x8_2 2))) (Go.bits .and .u32 (rd x8_2 1) (rd x8_2 2)))) % 4294967296)) % 4294967296,rd x8_2 0,rd x8_2 1,rd x8_2 2,((rd x8_2 3) + (((((((((rd x8_2 7) + (Go.bits .xor .u32 (Go.bits .xor .u32 t175 t177) t179)) % 4294967296) + (Go.bits .xor .u32 (Go.bits .and .u32 (rd x8_2 4) (rd x8_2 5)) (Go.bits .and .u32 (Go.bits .xor .u32 (rd x8_2 4) 4294967295) (rd x8_2 6)))) % 4294967296) + (rd t144 x9_2)) % 4294967296) + (rd t154 x9_2)) % 4294967296)) % 4294967296,rd x8_2 4,rd x8_2 5,rd x8_2 6] : List Int)):=⟨_,rfl⟩
     replace H : (racewayref03_Of.l1 k2 x3_1 t144 t147 x6_1 t154 y195 (wrap64 (x9_2 + 1))) = some r:=by first|(rw [hy195];with_reducible exact H)|(have H2_:=(Option.bind_some _ _).symm.trans H;rw [hy195];with_reducible exact H2_)|(have H2_:=(Option.bind_some _ _).symm.trans H;with_reducible exact H2_)|with_reducible exact H|(rw [hy195];exact H)|exact H
     have Ny195:=Aside0.mk hy195
     clear hy195
     have H':=Aside0.mk H
     clear H
     try go_wp2
     have n0_:=Aside0.mk (Kd.R_drew HO_3.out)
     have n1_:=Aside0.mk (Kd.R_drew HO_4.out)
     have n2_:=Aside0.mk (Kd.R_drew HO_5.out)
     have n3_:=Aside0.mk (Kd.R_drew HO_7.out)
     have n4_:=Aside0.mk (Kd.R_drew HO_8.out)
     have n5_:=Aside0.mk (below_drew1 HB.out)
     clear HO_3
     clear HO_4
     clear HO_5
     clear HO_7
     clear HO_8
     clear HB
     have HO_3:=n0_
     have HO_4:=n1_
     have HO_5:=n2_
     have HO_7:=n3_
     have HO_8:=n4_
     have HB:=n5_
     clear n0_ n1_ n2_ n3_ n4_ n5_
     obtain ⟨Ao40,co40,eo40⟩:=Kd.R_slice HO_8.out
     (first|subst eo40|(injection eo40 with f1_ f2_ f3_;have f4_:=f1_.symm;have f5_:=f3_.symm;clear f1_ f2_ f3_;subst f4_;subst f5_))
     have p163 : 0 ≤ (4 : Int):=(by omega)
     have q163 : 4 < (x8_2.length : Int):=of_decide_eq_true (by first|(with_reducible assumption)|assumption)
     obtain ⟨ad163,e163,hx163_0⟩:=Kd.at_int (Kd.R_reads' HO_8.out).2.2 4 p163 q163
     cases e163
     (try simp only [show (4 : Int).toNat = 4 from rfl,Nat.reduceMul,Nat.reduceEqDiff,Go.Addr.add,↓reduceIte] at hx163_0)
     have qi163 : (4 < x8_2.length) = True:=eq_true (by omega)
     (try rw [show ((4 : Int)).toNat = 4 from rfl] at hx163_0)
     replace p163:=eq_true p163
     replace q163:=eq_true q163
     have p164 : 0 ≤ (5 : Int):=(by omega)
     have q164 : 5 < (x8_2.length : Int):=of_decide_eq_true (by first|(with_reducible assumption)|assumption)
     obtain ⟨ad164,e164,hx164_0⟩:=Kd.at_int (Kd.R_reads' HO_8.out).2.2 5 p164 q164
     obtain rfl : ad163 = ad164:=(by injection e164)
     (try simp only [show (5 : Int).toNat = 5 from rfl,Nat.reduceMul,Nat.reduceEqDiff,Go.Addr.add,↓reduceIte] at hx164_0)
     have qi164 : (5 < x8_2.length) = True:=eq_true (by omega)
     (try rw [show ((5 : Int)).toNat = 5 from rfl] at hx164_0)
     replace p164:=eq_true p164
     replace q164:=eq_true q164
     have p165 : 0 ≤ (4 : Int):=(by omega)
     have q165 : 4 < (x8_2.length : Int):=of_decide_eq_true (by first|(with_reducible assumption)|assumption)
     obtain ⟨ad165,e165,hx165_0⟩:=Kd.at_int (Kd.R_reads' HO_8.out).2.2 4 p165 q165
     obtain rfl : ad163 = ad165:=(by injection e165)
     (try simp only [show (4 : Int).toNat = 4 from rfl,Nat.reduceMul,Nat.reduceEqDiff,Go.Addr.add,↓reduceIte] at hx165_0)
     have qi165 : (4 < x8_2.length) = True:=eq_true (by omega)
     (try rw [show ((4 : Int)).toNat = 4 from rfl] at hx165_0)
     replace p165:=eq_true p165
     replace q165:=eq_true q165
     have p166 : 0 ≤ (6 : Int):=(by omega)
     have q166 : 6 < (x8_2.length : Int):=of_decide_eq_true (by first|(with_reducible assumption)|assumption)
     obtain ⟨ad166,e166,hx166_0⟩:=Kd.at_int (Kd.R_reads' HO_8.out).2.2 6 p166 q166
     obtain rfl : ad163 = ad166:=(by injection e166)
     (try simp only [show (6 : Int).toNat = 6 from rfl,Nat.reduceMul,Nat.reduceEqDiff,Go.Addr.add,↓reduceIte] at hx166_0)
     have qi166 : (6 < x8_2.length) = True:=eq_true (by omega)
     (try rw [show ((6 : Int)).toNat = 6 from rfl] at hx166_0)
     replace p166:=eq_true p166
     replace q166:=eq_true q166
     refine start_ (n:=17) (S:=fun w' => w'.cell? ⟨ad163.block,ad163.off + 4,none⟩ = some (.int .u32 (rd x8_2 4)) ∧ w'.cell? ⟨ad163.block,ad163.off + 5,none⟩ = some (.int .u32 (rd x8_2 5)) ∧ w'.cell? ⟨ad163.block,ad163.off + 4,none⟩ = some (.int .u32 (rd x8_2 4)) ∧ w'.cell? ⟨ad163.block,ad163.off + 6,none⟩ = some (.int .u32 (rd x8_2 6))) (ds:=[]) #[false,false,false,false,false,false,false,false,false,false,false,false,false,false,false,false,false] (by kernel_rfl) rfl rfl ⟨hx163_0,hx164_0,hx165_0,hx166_0⟩ (fun hHeld => ?_);refine with_tabW racewayref03_Of.tab12 racewayref03_Of.bits12 (fun HT_ HW_ => ?_)
     generalize wr.drew = w39 at HO_3 HO_4 HO_5 HO_7 HO_8 HB hx163_0 hx164_0 hx165_0 hx166_0 hHeld ⊢
     refine pure_ (i:=0) (N:=some 40) (v:=?_) (a':=?_) #[true,false,false,false,false,false,false,false,false,false,false,false,false,false,false,false,false] rfl rfl (any_of HT_.out (by kernel_rfl)) (fun _ _ _ h => h) (Or.inl ⟨by rfl,?_⟩) ?_ ?_
     rotate_left
     ·intro w'
      go_simp
      with_reducible rfl
     rotate_left
     ·simp only [Act.put,List.setIfInBounds_toArray,List.set_cons_zero,List.set_cons_succ,i64_w,i32_w]
      rfl
     refine pure_ (i:=1) (N:=some 41) (v:=?_) (a':=?_) #[true,true,false,false,false,false,false,false,false,false,false,false,false,false,false,false,false] rfl rfl (any_of HT_.out (by kernel_rfl)) (fun _ _ _ h => h) (Or.inl ⟨by rfl,?_⟩) ?_ ?_
     rotate_left
     ·intro w'
      go_simp
      with_reducible rfl
     rotate_left
     ·simp only [Act.put,List.setIfInBounds_toArray,List.set_cons_zero,List.set_cons_succ,i64_w,i32_w]
      rfl
     refine pure_ (i:=3) (N:=some 43) (v:=?_) (a':=?_) #[true,true,false,true,false,false,false,false,false,false,false,false,false,false,false,false,false] rfl rfl (any_of HT_.out (by kernel_rfl)) (fun _ _ _ h => h) (Or.inl ⟨by rfl,?_⟩) ?_ ?_
     rotate_left
     ·intro w'
      go_simp
      with_reducible rfl
     rotate_left
     ·simp only [Act.put,List.setIfInBounds_toArray,List.set_cons_zero,List.set_cons_succ,i64_w,i32_w]
      rfl
     refine pure_ (i:=4) (N:=some 44) (v:=?_) (a':=?_) #[true,true,false,true,true,false,false,false,false,false,false,false,false,false,false,false,false] rfl rfl (any_of HT_.out (by kernel_rfl)) (fun _ _ _ h => h) (Or.inl ⟨by rfl,?_⟩) ?_ ?_
     rotate_left
     ·intro w'
      go_simp
      with_reducible rfl
     rotate_left
     ·simp only [Act.put,List.setIfInBounds_toArray,List.set_cons_zero,List.set_cons_succ,i64_w,i32_w]
      rfl
     refine pure_ (i:=7) (N:=some 47) (v:=?_) (a':=?_) #[true,true,false,true,true,false,false,true,false,false,false,false,false,false,false,false,false] rfl rfl (any_of HT_.out (by kernel_rfl)) (fun _ _ _ h => h) (Or.inl ⟨by rfl,?_⟩) ?_ ?_
     rotate_left
     ·intro w'
      go_simp
      with_reducible rfl
     rotate_left
     ·simp only [Act.put,List.setIfInBounds_toArray,List.set_cons_zero,List.set_cons_succ,i64_w,i32_w]
      rfl
     refine pure_ (i:=8) (N:=some 48) (v:=?_) (a':=?_) #[true,true,false,true,true,false,false,true,true,false,false,false,false,false,false,false,false] rfl rfl (any_of HT_.out (by kernel_rfl)) (fun _ _ _ h => h) (Or.inl ⟨by rfl,?_⟩) ?_ ?_
     rotate_left
     ·intro w'
      go_simp
      with_reducible rfl
     rotate_left
     ·simp only [Act.put,List.setIfInBounds_toArray,List.set_cons_zero,List.set_cons_succ,i64_w,i32_w]
      rfl
     refine pure_ (i:=11) (N:=some 51) (v:=?_) (a':=?_) #[true,true,false,true,true,false,false,true,true,false,false,true,false,false,false,false,false] rfl rfl (any_of HT_.out (by kernel_rfl)) (fun _ _ _ h => h) (Or.inl ⟨by rfl,?_⟩) ?_ ?_
     rotate_left
     ·intro w'
      go_simp
      with_reducible rfl
     rotate_left
     ·simp only [Act.put,List.setIfInBounds_toArray,List.set_cons_zero,List.set_cons_succ,i64_w,i32_w]
      rfl
     refine pure_ (i:=12) (N:=some 52) (v:=?_) (a':=?_) #[true,true,false,true,true,false,false,true,true,false,false,true,true,false,false,false,false] rfl rfl (any_of HT_.out (by kernel_rfl)) (fun _ _ _ h => h) (Or.inl ⟨by rfl,?_⟩) ?_ ?_
     rotate_left
     ·intro w'
      go_simp
      with_reducible rfl
     rotate_left
     ·simp only [Act.put,List.setIfInBounds_toArray,List.set_cons_zero,List.set_cons_succ,i64_w,i32_w]
      rfl
     refine take_ (i:=2) (N:=some 42) (v:=?_) (a':=?_) #[true,true,true,true,true,false,false,true,true,false,false,true,true,false,false,false,false] rfl rfl (take_ofW HT_.out HW_.out (by kernel_rfl)) (fun _ _ _ h => h) (Or.inl ⟨by rfl,?_⟩) hHeld ?_ ?_
     rotate_left
     ·rintro w' ⟨s0,s1,s2,s3⟩
      go_simp
      with_reducible rfl
     rotate_left
     ·simp only [Act.put,List.setIfInBounds_toArray,List.set_cons_zero,List.set_cons_succ,i64_w,i32_w]
      rfl
     refine take_ (i:=5) (N:=some 45) (v:=?_) (a':=?_) #[true,true,true,true,true,true,false,true,true,false,false,true,true,false,false,false,false] rfl rfl (take_ofW HT_.out HW_.out (by kernel_rfl)) (fun _ _ _ h => h) (Or.inl ⟨by rfl,?_⟩) hHeld ?_ ?_
     rotate_left
     ·rintro w' ⟨s0,s1,s2,s3⟩
      go_simp
      with_reducible rfl
     rotate_left
     ·simp only [Act.put,List.setIfInBounds_toArray,List.set_cons_zero,List.set_cons_succ,i64_w,i32_w]
      rfl
     refine pure_ (i:=6) (N:=some 46) (v:=?_) (a':=?_) #[true,true,true,true,true,true,true,true,true,false,false,true,true,false,false,false,false] rfl rfl (any_of HT_.out (by kernel_rfl)) (fun _ _ _ h => h) (Or.inl ⟨by rfl,?_⟩) ?_ ?_
     rotate_left
     ·intro w'
      go_simp
      with_reducible rfl
     rotate_left
     ·simp only [Act.put,List.setIfInBounds_toArray,List.set_cons_zero,List.set_cons_succ,i64_w,i32_w]
      rfl
     refine take_ (i:=9) (N:=some 49) (v:=?_) (a':=?_) #[true,true,true,true,true,true,true,true,true,true,false,true,true,false,false,false,false] rfl rfl (take_ofW HT_.out HW_.out (by kernel_rfl)) (fun _ _ _ h => h) (Or.inl ⟨by rfl,?_⟩) hHeld ?_ ?_
     rotate_left
     ·rintro w' ⟨s0,s1,s2,s3⟩
      go_simp
      with_reducible rfl
     rotate_left
     ·simp only [Act.put,List.setIfInBounds_toArray,List.set_cons_zero,List.set_cons_succ,i64_w,i32_w]
      rfl
     refine pure_ (i:=10) (N:=some 50) (v:=?_) (a':=?_) #[true,true,true,true,true,true,true,true,true,true,true,true,true,false,false,false,false] rfl rfl (any_of HT_.out (by kernel_rfl)) (fun _ _ _ h => h) (Or.inl ⟨by rfl,?_⟩) ?_ ?_
     rotate_left
     ·intro w'
      go_simp
      with_reducible rfl
     rotate_left
     ·simp only [Act.put,List.setIfInBounds_toArray,List.set_cons_zero,List.set_cons_succ,i64_w,i32_w]
      rfl
     refine take_ (i:=13) (N:=some 53) (v:=?_) (a':=?_) #[true,true,true,true,true,true,true,true,true,true,true,true,true,true,false,false,false] rfl rfl (take_ofW HT_.out HW_.out (by kernel_rfl)) (fun _ _ _ h => h) (Or.inl ⟨by rfl,?_⟩) hHeld ?_ ?_
     rotate_left
     ·rintro w' ⟨s0,s1,s2,s3⟩
      go_simp
      with_reducible rfl
     rotate_left
     ·simp only [Act.put,List.setIfInBounds_toArray,List.set_cons_zero,List.set_cons_succ,i64_w,i32_w]
      rfl
     refine pure_ (i:=14) (N:=some 54) (v:=?_) (a':=?_) #[true,true,true,true,true,true,true,true,true,true,true,true,true,true,true,false,false] rfl rfl (any_of HT_.out (by kernel_rfl)) (fun _ _ _ h => h) (Or.inl ⟨by rfl,?_⟩) ?_ ?_
     rotate_left
     ·intro w'
      go_simp
      with_reducible rfl
     rotate_left
     ·simp only [Act.put,List.setIfInBounds_toArray,List.set_cons_zero,List.set_cons_succ,i64_w,i32_w]
      rfl
     refine pure_ (i:=15) (N:=some 55) (v:=?_) (a':=?_) #[true,true,true,true,true,true,true,true,true,true,true,true,true,true,true,true,false] rfl rfl (any_of HT_.out (by kernel_rfl)) (fun _ _ _ h => h) (Or.inl ⟨by rfl,?_⟩) ?_ ?_
     rotate_left
     ·intro w'
      go_simp
      with_reducible rfl
     rotate_left
     ·simp only [Act.put,List.setIfInBounds_toArray,List.set_cons_zero,List.set_cons_succ,i64_w,i32_w]
      rfl
     refine pure_ (i:=16) (N:=some 10) (v:=?_) (a':=?_) #[true,true,true,true,true,true,true,true,true,true,true,true,true,true,true,true,true] rfl rfl (any_of HT_.out (by kernel_rfl)) (fun _ _ _ h => h) (Or.inl ⟨by rfl,?_⟩) ?_ ?_
     rotate_left
     ·intro w'
      go_simp
      with_reducible rfl
     rotate_left
     ·simp only [Act.put,List.setIfInBounds_toArray,List.set_cons_zero,List.set_cons_succ,i64_w,i32_w]
      rfl
     refine done_ (done_of HT_.out (by kernel_rfl)) ?_
     try go_wp2
     have n0_:=Aside0.mk (Kd.R_drew HO_3.out)
     have n1_:=Aside0.mk (Kd.R_drew HO_4.out)
     have n2_:=Aside0.mk (Kd.R_drew HO_5.out)
     have n3_:=Aside0.mk (Kd.R_drew HO_7.out)
     have n4_:=Aside0.mk (Kd.R_drew HO_8.out)
     have n5_:=Aside0.mk (below_drew1 HB.out)
     clear HO_3
     clear HO_4
     clear HO_5
     clear HO_7
     clear HO_8
     clear HB
     have HO_3:=n0_
     have HO_4:=n1_
     have HO_5:=n2_
     have HO_7:=n3_
     have HO_8:=n4_
     have HB:=n5_
     clear n0_ n1_ n2_ n3_ n4_ n5_
     have p167 : 0 ≤ (0 : Int):=(by omega)
     have q167 : 0 < (x8_2.length : Int):=of_decide_eq_true (by first|(with_reducible assumption)|assumption)
     obtain ⟨ad167,e167,hx167_0⟩:=Kd.at_int (Kd.R_reads' HO_8.out).2.2 0 p167 q167
     obtain rfl : ad163 = ad167:=(by injection e167)
     have qi167 : (0 < x8_2.length) = True:=eq_true (by omega)
     (try rw [show ((0 : Int)).toNat = 0 from rfl] at hx167_0)
     (try rw [Addr.add_zero'] at hx167_0)
     replace p167:=eq_true p167
     replace q167:=eq_true q167
     have p168 : 0 ≤ (1 : Int):=(by omega)
     have q168 : 1 < (x8_2.length : Int):=of_decide_eq_true (by first|(with_reducible assumption)|assumption)
     obtain ⟨ad168,e168,hx168_0⟩:=Kd.at_int (Kd.R_reads' HO_8.out).2.2 1 p168 q168
     obtain rfl : ad163 = ad168:=(by injection e168)
     (try simp only [show (1 : Int).toNat = 1 from rfl,Nat.reduceMul,Nat.reduceEqDiff,Go.Addr.add,↓reduceIte] at hx168_0)
     have qi168 : (1 < x8_2.length) = True:=eq_true (by omega)
     (try rw [show ((1 : Int)).toNat = 1 from rfl] at hx168_0)
     replace p168:=eq_true p168
     replace q168:=eq_true q168
     have p169 : 0 ≤ (0 : Int):=(by omega)
     have q169 : 0 < (x8_2.length : Int):=of_decide_eq_true (by first|(with_reducible assumption)|assumption)
     obtain ⟨ad169,e169,hx169_0⟩:=Kd.at_int (Kd.R_reads' HO_8.out).2.2 0 p169 q169
     obtain rfl : ad163 = ad169:=(by injection e169)
     have qi169 : (0 < x8_2.length) = True:=eq_true (by omega)
     (try rw [show ((0 : Int)).toNat = 0 from rfl] at hx169_0)
     (try rw [Addr.add_zero'] at hx169_0)
     replace p169:=eq_true p169
     replace q169:=eq_true q169
     have p170 : 0 ≤ (2 : Int):=(by omega)
     have q170 : 2 < (x8_2.length : Int):=of_decide_eq_true (by first|(with_reducible assumption)|assumption)
     obtain ⟨ad170,e170,hx170_0⟩:=Kd.at_int (Kd.R_reads' HO_8.out).2.2 2 p170 q170
     obtain rfl : ad163 = ad170:=(by injection e170)
     (try simp only [show (2 : Int).toNat = 2 from rfl,Nat.reduceMul,Nat.reduceEqDiff,Go.Addr.add,↓reduceIte] at hx170_0)
     have qi170 : (2 < x8_2.length) = True:=eq_true (by omega)
     (try rw [show ((2 : Int)).toNat = 2 from rfl] at hx170_0)
     replace p170:=eq_true p170
     replace q170:=eq_true q170
     have p171 : 0 ≤ (1 : Int):=(by omega)
     have q171 : 1 < (x8_2.length : Int):=of_decide_eq_true (by first|(with_reducible assumption)|assumption)
     obtain ⟨ad171,e171,hx171_0⟩:=Kd.at_int (Kd.R_reads' HO_8.out).2.2 1 p171 q171
     obtain rfl : ad163 = ad171:=(by injection e171)
     (try simp only [show (1 : Int).toNat = 1 from rfl,Nat.reduceMul,Nat.reduceEqDiff,Go.Addr.add,↓reduceIte] at hx171_0)
     have qi171 : (1 < x8_2.length) = True:=eq_true (by omega)
     (try rw [show ((1 : Int)).toNat = 1 from rfl] at hx171_0)
     replace p171:=eq_true p171
     replace q171:=eq_true q171
     have p172 : 0 ≤ (2 : Int):=(by omega)
     have q172 : 2 < (x8_2.length : Int):=of_decide_eq_true (by first|(with_reducible assumption)|assumption)
     obtain ⟨ad172,e172,hx172_0⟩:=Kd.at_int (Kd.R_reads' HO_8.out).2.2 2 p172 q172
     obtain rfl : ad163 = ad172:=(by injection e172)
     (try simp only [show (2 : Int).toNat = 2 from rfl,Nat.reduceMul,Nat.reduceEqDiff,Go.Addr.add,↓reduceIte] at hx172_0)
     have qi172 : (2 < x8_2.length) = True:=eq_true (by omega)
     (try rw [show ((2 : Int)).toNat = 2 from rfl] at hx172_0)
     replace p172:=eq_true p172
     replace q172:=eq_true q172
     refine start_ (n:=24) (S:=fun w' => w'.cell? ad163 = some (.int .u32 (rd x8_2 0)) ∧ w'.cell? ⟨ad163.block,ad163.off + 1,none⟩ = some (.int .u32 (rd x8_2 1)) ∧ w'.cell? ad163 = some (.int .u32 (rd x8_2 0)) ∧ w'.cell? ⟨ad163.block,ad163.off + 2,none⟩ = some (.int .u32 (rd x8_2 2)) ∧ w'.cell? ⟨ad163.block,ad163.off + 1,none⟩ = some (.int .u32 (rd x8_2 1)) ∧ w'.cell? ⟨ad163.block,ad163.off + 2,none⟩ = some (.int .u32 (rd x8_2 2))) (ds:=[]) #[false,false,false,false,false,false,false,false,false,false,false,false,false,false,false,false,false,false,false,false,false,false,false,false] (by kernel_rfl) rfl rfl ⟨hx167_0,hx168_0,hx169_0,hx170_0,hx171_0,hx172_0⟩ (fun hHeld => ?_);refine with_tabW racewayref03_Of.tab13 racewayref03_Of.bits13 (fun HT_ HW_ => ?_)
     generalize w39.drew = w41 at HO_3 HO_4 HO_5 HO_7 HO_8 HB hx167_0 hx168_0 hx169_0 hx170_0 hx171_0 hx172_0 hHeld ⊢
     refine pure_ (i:=0) (N:=some 56) (v:=?_) (a':=?_) #[true,false,false,false,false,false,false,false,false,false,false,false,false,false,false,false,false,false,false,false,false,false,false,false] rfl rfl (any_of HT_.out (by kernel_rfl)) (fun _ _ _ h => h) (Or.inl ⟨by rfl,?_⟩) ?_ ?_
     rotate_left
     ·intro w'
      go_simp
      with_reducible rfl
     rotate_left
     ·simp only [Act.put,List.setIfInBounds_toArray,List.set_cons_zero,List.set_cons_succ,i64_w,i32_w]
      rfl
     refine pure_ (i:=1) (N:=some 57) (v:=?_) (a':=?_) #[true,true,false,false,false,false,false,false,false,false,false,false,false,false,false,false,false,false,false,false,false,false,false,false] rfl rfl (any_of HT_.out (by kernel_rfl)) (fun _ _ _ h => h) (Or.inl ⟨by rfl,?_⟩) ?_ ?_
     rotate_left
     ·intro w'
      go_simp
      with_reducible rfl
     rotate_left
     ·simp only [Act.put,List.setIfInBounds_toArray,List.set_cons_zero,List.set_cons_succ,i64_w,i32_w]
      rfl
     refine pure_ (i:=3) (N:=some 59) (v:=?_) (a':=?_) #[true,true,false,true,false,false,false,false,false,false,false,false,false,false,false,false,false,false,false,false,false,false,false,false] rfl rfl (any_of HT_.out (by kernel_rfl)) (fun _ _ _ h => h) (Or.inl ⟨by rfl,?_⟩) ?_ ?_
     rotate_left
     ·intro w'
      go_simp
      with_reducible rfl
     rotate_left
     ·simp only [Act.put,List.setIfInBounds_toArray,List.set_cons_zero,List.set_cons_succ,i64_w,i32_w]
      rfl
     refine pure_ (i:=4) (N:=some 60) (v:=?_) (a':=?_) #[true,true,false,true,true,false,false,false,false,false,false,false,false,false,false,false,false,false,false,false,false,false,false,false] rfl rfl (any_of HT_.out (by kernel_rfl)) (fun _ _ _ h => h) (Or.inl ⟨by rfl,?_⟩) ?_ ?_
     rotate_left
     ·intro w'
      go_simp
      with_reducible rfl
     rotate_left
     ·simp only [Act.put,List.setIfInBounds_toArray,List.set_cons_zero,List.set_cons_succ,i64_w,i32_w]
      rfl
     refine pure_ (i:=7) (N:=some 63) (v:=?_) (a':=?_) #[true,true,false,true,true,false,false,true,false,false,false,false,false,false,false,false,false,false,false,false,false,false,false,false] rfl rfl (any_of HT_.out (by kernel_rfl)) (fun _ _ _ h => h) (Or.inl ⟨by rfl,?_⟩) ?_ ?_
     rotate_left
     ·intro w'
      go_simp
      with_reducible rfl
     rotate_left
     ·simp only [Act.put,List.setIfInBounds_toArray,List.set_cons_zero,List.set_cons_succ,i64_w,i32_w]
      rfl
     refine pure_ (i:=8) (N:=some 64) (v:=?_) (a':=?_) #[true,true,false,true,true,false,false,true,true,false,false,false,false,false,false,false,false,false,false,false,false,false,false,false] rfl rfl (any_of HT_.out (by kernel_rfl)) (fun _ _ _ h => h) (Or.inl ⟨by rfl,?_⟩) ?_ ?_
     rotate_left
     ·intro w'
      go_simp
      with_reducible rfl
     rotate_left
     ·simp only [Act.put,List.setIfInBounds_toArray,List.set_cons_zero,List.set_cons_succ,i64_w,i32_w]
      rfl
     refine pure_ (i:=10) (N:=some 66) (v:=?_) (a':=?_) #[true,true,false,true,true,false,false,true,true,false,true,false,false,false,false,false,false,false,false,false,false,false,false,false] rfl rfl (any_of HT_.out (by kernel_rfl)) (fun _ _ _ h => h) (Or.inl ⟨by rfl,?_⟩) ?_ ?_
     rotate_left
     ·intro w'
      go_simp
      with_reducible rfl
     rotate_left
     ·simp only [Act.put,List.setIfInBounds_toArray,List.set_cons_zero,List.set_cons_succ,i64_w,i32_w]
      rfl
     refine pure_ (i:=11) (N:=some 67) (v:=?_) (a':=?_) #[true,true,false,true,true,false,false,true,true,false,true,true,false,false,false,false,false,false,false,false,false,false,false,false] rfl rfl (any_of HT_.out (by kernel_rfl)) (fun _ _ _ h => h) (Or.inl ⟨by rfl,?_⟩) ?_ ?_
     rotate_left
     ·intro w'
      go_simp
      with_reducible rfl
     rotate_left
     ·simp only [Act.put,List.setIfInBounds_toArray,List.set_cons_zero,List.set_cons_succ,i64_w,i32_w]
      rfl
     refine pure_ (i:=15) (N:=some 71) (v:=?_) (a':=?_) #[true,true,false,true,true,false,false,true,true,false,true,true,false,false,false,true,false,false,false,false,false,false,false,false] rfl rfl (any_of HT_.out (by kernel_rfl)) (fun _ _ _ h => h) (Or.inl ⟨by rfl,?_⟩) ?_ ?_
     rotate_left
     ·intro w'
      go_simp
      with_reducible rfl
     rotate_left
     ·simp only [Act.put,List.setIfInBounds_toArray,List.set_cons_zero,List.set_cons_succ,i64_w,i32_w]
      rfl
     refine pure_ (i:=16) (N:=some 72) (v:=?_) (a':=?_) #[true,true,false,true,true,false,false,true,true,false,true,true,false,false,false,true,true,false,false,false,false,false,false,false] rfl rfl (any_of HT_.out (by kernel_rfl)) (fun _ _ _ h => h) (Or.inl ⟨by rfl,?_⟩) ?_ ?_
     rotate_left
     ·intro w'
      go_simp
      with_reducible rfl
     rotate_left
     ·simp only [Act.put,List.setIfInBounds_toArray,List.set_cons_zero,List.set_cons_succ,i64_w,i32_w]
      rfl
     refine pure_ (i:=18) (N:=some 74) (v:=?_) (a':=?_) #[true,true,false,true,true,false,false,true,true,false,true,true,false,false,false,true,true,false,true,false,false,false,false,false] rfl rfl (any_of HT_.out (by kernel_rfl)) (fun _ _ _ h => h) (Or.inl ⟨by rfl,?_⟩) ?_ ?_
     rotate_left
     ·intro w'
      go_simp
      with_reducible rfl
     rotate_left
     ·simp only [Act.put,List.setIfInBounds_toArray,List.set_cons_zero,List.set_cons_succ,i64_w,i32_w]
      rfl
     refine pure_ (i:=19) (N:=some 75) (v:=?_) (a':=?_) #[true,true,false,true,true,false,false,true,true,false,true,true,false,false,false,true,true,false,true,true,false,false,false,false] rfl rfl (any_of HT_.out (by kernel_rfl)) (fun _ _ _ h => h) (Or.inl ⟨by rfl,?_⟩) ?_ ?_
     rotate_left
     ·intro w'
      go_simp
      with_reducible rfl
     rotate_left
     ·simp only [Act.put,List.setIfInBounds_toArray,List.set_cons_zero,List.set_cons_succ,i64_w,i32_w]
      rfl
     refine take_ (i:=2) (N:=some 58) (v:=?_) (a':=?_) #[true,true,true,true,true,false,false,true,true,false,true,true,false,false,false,true,true,false,true,true,false,false,false,false] rfl rfl (take_ofW HT_.out HW_.out (by kernel_rfl)) (fun _ _ _ h => h) (Or.inl ⟨by rfl,?_⟩) hHeld ?_ ?_
     rotate_left
     ·rintro w' ⟨s0,s1,s2,s3,s4,s5⟩
      go_simp
      with_reducible rfl
     rotate_left
     ·simp only [Act.put,List.setIfInBounds_toArray,List.set_cons_zero,List.set_cons_succ,i64_w,i32_w]
      rfl
     refine take_ (i:=5) (N:=some 61) (v:=?_) (a':=?_) #[true,true,true,true,true,true,false,true,true,false,true,true,false,false,false,true,true,false,true,true,false,false,false,false] rfl rfl (take_ofW HT_.out HW_.out (by kernel_rfl)) (fun _ _ _ h => h) (Or.inl ⟨by rfl,?_⟩) hHeld ?_ ?_
     rotate_left
     ·rintro w' ⟨s0,s1,s2,s3,s4,s5⟩
      go_simp
      with_reducible rfl
     rotate_left
     ·simp only [Act.put,List.setIfInBounds_toArray,List.set_cons_zero,List.set_cons_succ,i64_w,i32_w]
      rfl
     refine pure_ (i:=6) (N:=some 62) (v:=?_) (a':=?_) #[true,true,true,true,true,true,true,true,true,false,true,true,false,false,false,true,true,false,true,true,false,false,false,false] rfl rfl (any_of HT_.out (by kernel_rfl)) (fun _ _ _ h => h) (Or.inl ⟨by rfl,?_⟩) ?_ ?_
     rotate_left
     ·intro w'
      go_simp
      with_reducible rfl
     rotate_left
     ·simp only [Act.put,List.setIfInBounds_toArray,List.set_cons_zero,List.set_cons_succ,i64_w,i32_w]
      rfl
     refine take_ (i:=9) (N:=some 65) (v:=?_) (a':=?_) #[true,true,true,true,true,true,true,true,true,true,true,true,false,false,false,true,true,false,true,true,false,false,false,false] rfl rfl (take_ofW HT_.out HW_.out (by kernel_rfl)) (fun _ _ _ h => h) (Or.inl ⟨by rfl,?_⟩) hHeld ?_ ?_
     rotate_left
     ·rintro w' ⟨s0,s1,s2,s3,s4,s5⟩
      go_simp
      with_reducible rfl
     rotate_left
     ·simp only [Act.put,List.setIfInBounds_toArray,List.set_cons_zero,List.set_cons_succ,i64_w,i32_w]
      rfl
     refine take_ (i:=12) (N:=some 68) (v:=?_) (a':=?_) #[true,true,true,true,true,true,true,true,true,true,true,true,true,false,false,true,true,false,true,true,false,false,false,false] rfl rfl (take_ofW HT_.out HW_.out (by kernel_rfl)) (fun _ _ _ h => h) (Or.inl ⟨by rfl,?_⟩) hHeld ?_ ?_
     rotate_left
     ·rintro w' ⟨s0,s1,s2,s3,s4,s5⟩
      go_simp
      with_reducible rfl
     rotate_left
     ·simp only [Act.put,List.setIfInBounds_toArray,List.set_cons_zero,List.set_cons_succ,i64_w,i32_w]
      rfl
     refine pure_ (i:=13) (N:=some 69) (v:=?_) (a':=?_) #[true,true,true,true,true,true,true,true,true,true,true,true,true,true,false,true,true,false,true,true,false,false,false,false] rfl rfl (any_of HT_.out (by kernel_rfl)) (fun _ _ _ h => h) (Or.inl ⟨by rfl,?_⟩) ?_ ?_
     rotate_left
     ·intro w'
      go_simp
      with_reducible rfl
     rotate_left
     ·simp only [Act.put,List.setIfInBounds_toArray,List.set_cons_zero,List.set_cons_succ,i64_w,i32_w]
      rfl
     refine pure_ (i:=14) (N:=some 70) (v:=?_) (a':=?_) #[true,true,true,true,true,true,true,true,true,true,true,true,true,true,true,true,true,false,true,true,false,false,false,false] rfl rfl (any_of HT_.out (by kernel_rfl)) (fun _ _ _ h => h) (Or.inl ⟨by rfl,?_⟩) ?_ ?_
     rotate_left
     ·intro w'
      go_simp
      with_reducible rfl
     rotate_left
     ·simp only [Act.put,List.setIfInBounds_toArray,List.set_cons_zero,List.set_cons_succ,i64_w,i32_w]
      rfl
     refine take_ (i:=17) (N:=some 73) (v:=?_) (a':=?_) #[true,true,true,true,true,true,true,true,true,true,true,true,true,true,true,true,true,true,true,true,false,false,false,false] rfl rfl (take_ofW HT_.out HW_.out (by kernel_rfl)) (fun _ _ _ h => h) (Or.inl ⟨by rfl,?_⟩) hHeld ?_ ?_
     rotate_left
     ·rintro w' ⟨s0,s1,s2,s3,s4,s5⟩
      go_simp
      with_reducible rfl
     rotate_left
     ·simp only [Act.put,List.setIfInBounds_toArray,List.set_cons_zero,List.set_cons_succ,i64_w,i32_w]
      rfl
     refine take_ (i:=20) (N:=some 76) (v:=?_) (a':=?_) #[true,true,true,true,true,true,true,true,true,true,true,true,true,true,true,true,true,true,true,true,true,false,false,false] rfl rfl (take_ofW HT_.out HW_.out (by kernel_rfl)) (fun _ _ _ h => h) (Or.inl ⟨by rfl,?_⟩) hHeld ?_ ?_
     rotate_left
     ·rintro w' ⟨s0,s1,s2,s3,s4,s5⟩
      go_simp
      with_reducible rfl
     rotate_left
     ·simp only [Act.put,List.setIfInBounds_toArray,List.set_cons_zero,List.set_cons_succ,i64_w,i32_w]
      rfl
     refine pure_ (i:=21) (N:=some 77) (v:=?_) (a':=?_) #[true,true,true,true,true,true,true,true,true,true,true,true,true,true,true,true,true,true,true,true,true,true,false,false] rfl rfl (any_of HT_.out (by kernel_rfl)) (fun _ _ _ h => h) (Or.inl ⟨by rfl,?_⟩) ?_ ?_
     rotate_left
     ·intro w'
      go_simp
      with_reducible rfl
     rotate_left
     ·simp only [Act.put,List.setIfInBounds_toArray,List.set_cons_zero,List.set_cons_succ,i64_w,i32_w]
      rfl
     refine pure_ (i:=22) (N:=some 78) (v:=?_) (a':=?_) #[true,true,true,true,true,true,true,true,true,true,true,true,true,true,true,true,true,true,true,true,true,true,true,false] rfl rfl (any_of HT_.out (by kernel_rfl)) (fun _ _ _ h => h) (Or.inl ⟨by rfl,?_⟩) ?_ ?_
     rotate_left
     ·intro w'
      go_simp
      with_reducible rfl
     rotate_left
     ·simp only [Act.put,List.setIfInBounds_toArray,List.set_cons_zero,List.set_cons_succ,i64_w,i32_w]
      rfl
     refine pure_ (i:=23) (N:=some 11) (v:=?_) (a':=?_) #[true,true,true,true,true,true,true,true,true,true,true,true,true,true,true,true,true,true,true,true,true,true,true,true] rfl rfl (any_of HT_.out (by kernel_rfl)) (fun _ _ _ h => h) (Or.inl ⟨by rfl,?_⟩) ?_ ?_
     rotate_left
     ·intro w'
      go_simp
      with_reducible rfl
     rotate_left
     ·simp only [Act.put,List.setIfInBounds_toArray,List.set_cons_zero,List.set_cons_succ,i64_w,i32_w]
      rfl
     refine done_ (done_of HT_.out (by kernel_rfl)) ?_
     try go_wp2
     have n0_:=Aside0.mk (Kd.R_drew HO_3.out)
     have n1_:=Aside0.mk (Kd.R_drew HO_4.out)
     have n2_:=Aside0.mk (Kd.R_drew HO_5.out)
     have n3_:=Aside0.mk (Kd.R_drew HO_7.out)
     have n4_:=Aside0.mk (Kd.R_drew HO_8.out)
     have n5_:=Aside0.mk (below_drew1 HB.out)
     clear HO_3
     clear HO_4
     clear HO_5
     clear HO_7
     clear HO_8
     clear HB
     have HO_3:=n0_
     have HO_4:=n1_
     have HO_5:=n2_
     have HO_7:=n3_
     have HO_8:=n4_
     have HB:=n5_
     clear n0_ n1_ n2_ n3_ n4_ n5_
     have p173 : 0 ≤ (7 : Int):=(by omega)
     have q173 : 7 < (x8_2.length : Int):=of_decide_eq_true (by first|(with_reducible assumption)|assumption)
     obtain ⟨ad173,e173,hx173_0⟩:=Kd.at_int (Kd.R_reads' HO_8.out).2.2 7 p173 q173
     obtain rfl : ad163 = ad173:=(by injection e173)
     (try simp only [show (7 : Int).toNat = 7 from rfl,Nat.reduceMul,Nat.reduceEqDiff,Go.Addr.add,↓reduceIte] at hx173_0)
     have qi173 : (7 < x8_2.length) = True:=eq_true (by omega)
     (try rw [show ((7 : Int)).toNat = 7 from rfl] at hx173_0)
     replace p173:=eq_true p173
     replace q173:=eq_true q173
     have p174 : 0 ≤ (4 : Int):=(by omega)
     have q174 : 4 < (x8_2.length : Int):=of_decide_eq_true (by first|(with_reducible assumption)|assumption)
     obtain ⟨ad174,e174,hx174_0⟩:=Kd.at_int (Kd.R_reads' HO_8.out).2.2 4 p174 q174
     obtain rfl : ad163 = ad174:=(by injection e174)
     (try simp only [show (4 : Int).toNat = 4 from rfl,Nat.reduceMul,Nat.reduceEqDiff,Go.Addr.add,↓reduceIte] at hx174_0)
     have qi174 : (4 < x8_2.length) = True:=eq_true (by omega)
     (try rw [show ((4 : Int)).toNat = 4 from rfl] at hx174_0)
     replace p174:=eq_true p174
     replace q174:=eq_true q174
     have p176 : 0 ≤ (4 : Int):=(by omega)
     have q176 : 4 < (x8_2.length : Int):=of_decide_eq_true (by first|(with_reducible assumption)|assumption)
     obtain ⟨ad176,e176,hx176_0⟩:=Kd.at_int (Kd.R_reads' HO_8.out).2.2 4 p176 q176
     obtain rfl : ad163 = ad176:=(by injection e176)
     (try simp only [show (4 : Int).toNat = 4 from rfl,Nat.reduceMul,Nat.reduceEqDiff,Go.Addr.add,↓reduceIte] at hx176_0)
     have qi176 : (4 < x8_2.length) = True:=eq_true (by omega)
     (try rw [show ((4 : Int)).toNat = 4 from rfl] at hx176_0)
     replace p176:=eq_true p176
     replace q176:=eq_true q176
     have p178 : 0 ≤ (4 : Int):=(by omega)
     have q178 : 4 < (x8_2.length : Int):=of_decide_eq_true (by first|(with_reducible assumption)|assumption)
     obtain ⟨ad178,e178,hx178_0⟩:=Kd.at_int (Kd.R_reads' HO_8.out).2.2 4 p178 q178
     obtain rfl : ad163 = ad178:=(by injection e178)
     (try simp only [show (4 : Int).toNat = 4 from rfl,Nat.reduceMul,Nat.reduceEqDiff,Go.Addr.add,↓reduceIte] at hx178_0)
     have qi178 : (4 < x8_2.length) = True:=eq_true (by omega)
     (try rw [show ((4 : Int)).toNat = 4 from rfl] at hx178_0)
     replace p178:=eq_true p178
     replace q178:=eq_true q178
     obtain ⟨Ao43,co43,eo43⟩:=Kd.R_slice HO_4.out
     (first|subst eo43|(injection eo43 with f1_ f2_ f3_;have f4_:=f1_.symm;have f5_:=f3_.symm;clear f1_ f2_ f3_;subst f4_;subst f5_))
     have p180 : 0 ≤ (x9_2 : Int):=of_decide_eq_true (by first|(with_reducible assumption)|assumption)
     have q180 : x9_2 < (t144.length : Int):=of_decide_eq_true (by first|(with_reducible assumption)|assumption)
     obtain ⟨ad180,e180,hx180_0⟩:=Kd.at_int (Kd.R_reads' HO_4.out).2.2 x9_2 p180 q180
     cases e180
     replace p180:=eq_true p180
     replace q180:=eq_true q180
     obtain ⟨Ao44,co44,eo44⟩:=Kd.R_slice HO_7.out
     (first|subst eo44|(injection eo44 with f1_ f2_ f3_;have f4_:=f1_.symm;have f5_:=f3_.symm;clear f1_ f2_ f3_;subst f4_;subst f5_))
     have p181 : 0 ≤ (x9_2 : Int):=of_decide_eq_true (by first|(with_reducible assumption)|assumption)
     have q181 : x9_2 < (t154.length : Int):=of_decide_eq_true (by first|(with_reducible assumption)|assumption)
     obtain ⟨ad181,e181,hx181_0⟩:=Kd.at_int (Kd.R_reads' HO_7.out).2.2 x9_2 p181 q181
     cases e181
     replace p181:=eq_true p181
     replace q181:=eq_true q181
     refine start_ (n:=31) (S:=fun w' => w'.cell? ⟨ad163.block,ad163.off + 7,none⟩ = some (.int .u32 (rd x8_2 7)) ∧ w'.cell? ⟨ad163.block,ad163.off + 4,none⟩ = some (.int .u32 (rd x8_2 4)) ∧ w'.cell? ⟨ad163.block,ad163.off + 4,none⟩ = some (.int .u32 (rd x8_2 4)) ∧ w'.cell? ⟨ad163.block,ad163.off + 4,none⟩ = some (.int .u32 (rd x8_2 4)) ∧ w'.cell? (ad180.add (x9_2).toNat) = some (.int .u32 (rd t144 x9_2)) ∧ w'.cell? (ad181.add (x9_2).toNat) = some (.int .u32 (rd t154 x9_2))) (ds:=[]) #[false,false,false,false,false,false,false,false,false,false,false,false,false,false,false,false,false,false,false,false,false,false,false,false,false,false,false,false,false,false,false] (by kernel_rfl) rfl rfl ⟨hx173_0,hx174_0,hx176_0,hx178_0,hx180_0,hx181_0⟩ (fun hHeld => ?_);refine with_tabW racewayref03_Of.tab14 racewayref03_Of.bits14 (fun HT_ HW_ => ?_)
     generalize w41.drew = w42 at HO_3 HO_4 HO_5 HO_7 HO_8 HB hx173_0 hx174_0 hx176_0 hx178_0 hx180_0 hx181_0 hHeld ⊢
     refine pure_ (i:=0) (N:=some 79) (v:=?_) (a':=?_) #[true,false,false,false,false,false,false,false,false,false,false,false,false,false,false,false,false,false,false,false,false,false,false,false,false,false,false,false,false,false,false] rfl rfl (any_of HT_.out (by kernel_rfl)) (fun _ _ _ h => h) (Or.inl ⟨by rfl,?_⟩) ?_ ?_
     rotate_left
     ·intro w'
      go_simp
      with_reducible rfl
     rotate_left
     ·simp only [Act.put,List.setIfInBounds_toArray,List.set_cons_zero,List.set_cons_succ,i64_w,i32_w]
      rfl
     refine pure_ (i:=1) (N:=some 80) (v:=?_) (a':=?_) #[true,true,false,false,false,false,false,false,false,false,false,false,false,false,false,false,false,false,false,false,false,false,false,false,false,false,false,false,false,false,false] rfl rfl (any_of HT_.out (by kernel_rfl)) (fun _ _ _ h => h) (Or.inl ⟨by rfl,?_⟩) ?_ ?_
     rotate_left
     ·intro w'
      go_simp
      with_reducible rfl
     rotate_left
     ·simp only [Act.put,List.setIfInBounds_toArray,List.set_cons_zero,List.set_cons_succ,i64_w,i32_w]
      rfl
     refine pure_ (i:=3) (N:=some 82) (v:=?_) (a':=?_) #[true,true,false,true,false,false,false,false,false,false,false,false,false,false,false,false,false,false,false,false,false,false,false,false,false,false,false,false,false,false,false] rfl rfl (any_of HT_.out (by kernel_rfl)) (fun _ _ _ h => h) (Or.inl ⟨by rfl,?_⟩) ?_ ?_
     rotate_left
     ·intro w'
      go_simp
      with_reducible rfl
     rotate_left
     ·simp only [Act.put,List.setIfInBounds_toArray,List.set_cons_zero,List.set_cons_succ,i64_w,i32_w]
      rfl
     refine pure_ (i:=4) (N:=some 83) (v:=?_) (a':=?_) #[true,true,false,true,true,false,false,false,false,false,false,false,false,false,false,false,false,false,false,false,false,false,false,false,false,false,false,false,false,false,false] rfl rfl (any_of HT_.out (by kernel_rfl)) (fun _ _ _ h => h) (Or.inl ⟨by rfl,?_⟩) ?_ ?_
     rotate_left
     ·intro w'
      go_simp
      with_reducible rfl
     rotate_left
     ·simp only [Act.put,List.setIfInBounds_toArray,List.set_cons_zero,List.set_cons_succ,i64_w,i32_w]
      rfl
     refine pure_ (i:=7) (N:=some 86) (v:=?_) (a':=?_) #[true,true,false,true,true,false,false,true,false,false,false,false,false,false,false,false,false,false,false,false,false,false,false,false,false,false,false,false,false,false,false] rfl rfl (any_of HT_.out (by kernel_rfl)) (fun _ _ _ h => h) (Or.inl ⟨by rfl,?_⟩) ?_ ?_
     rotate_left
     ·intro w'
      go_simp
      with_reducible rfl
     rotate_left
     ·simp only [Act.put,List.setIfInBounds_toArray,List.set_cons_zero,List.set_cons_succ,i64_w,i32_w]
      rfl
     refine pure_ (i:=8) (N:=some 87) (v:=?_) (a':=?_) #[true,true,false,true,true,false,false,true,true,false,false,false,false,false,false,false,false,false,false,false,false,false,false,false,false,false,false,false,false,false,false] rfl rfl (any_of HT_.out (by kernel_rfl)) (fun _ _ _ h => h) (Or.inl ⟨by rfl,?_⟩) ?_ ?_
     rotate_left
     ·intro w'
      go_simp
      with_reducible rfl
     rotate_left
     ·simp only [Act.put,List.setIfInBounds_toArray,List.set_cons_zero,List.set_cons_succ,i64_w,i32_w]
      rfl
     refine pure_ (i:=12) (N:=some 91) (v:=?_) (a':=?_) #[true,true,false,true,true,false,false,true,true,false,false,false,true,false,false,false,false,false,false,false,false,false,false,false,false,false,false,false,false,false,false] rfl rfl (any_of HT_.out (by kernel_rfl)) (fun _ _ _ h => h) (Or.inl ⟨by rfl,?_⟩) ?_ ?_
     rotate_left
     ·intro w'
      go_simp
      with_reducible rfl
     rotate_left
     ·simp only [Act.put,List.setIfInBounds_toArray,List.set_cons_zero,List.set_cons_succ,i64_w,i32_w]
      rfl
     refine pure_ (i:=13) (N:=some 92) (v:=?_) (a':=?_) #[true,true,false,true,true,false,false,true,true,false,false,false,true,true,false,false,false,false,false,false,false,false,false,false,false,false,false,false,false,false,false] rfl rfl (any_of HT_.out (by kernel_rfl)) (fun _ _ _ h => h) (Or.inl ⟨by rfl,?_⟩) ?_ ?_
     rotate_left
     ·intro w'
      go_simp
      with_reducible rfl
     rotate_left
     ·simp only [Act.put,List.setIfInBounds_toArray,List.set_cons_zero,List.set_cons_succ,i64_w,i32_w]
      rfl
     refine pure_ (i:=18) (N:=some 97) (v:=?_) (a':=?_) #[true,true,false,true,true,false,false,true,true,false,false,false,true,true,false,false,false,false,true,false,false,false,false,false,false,false,false,false,false,false,false] rfl rfl (any_of HT_.out (by kernel_rfl)) (fun _ _ _ h => h) (Or.inl ⟨by rfl,?_⟩) ?_ ?_
     rotate_left
     ·intro w'
      go_simp
      with_reducible rfl
     rotate_left
     ·simp only [Act.put,List.setIfInBounds_toArray,List.set_cons_zero,List.set_cons_succ,i64_w,i32_w]
      rfl
     refine pure_ (i:=20) (N:=some 99) (v:=?_) (a':=?_) #[true,true,false,true,true,false,false,true,true,false,false,false,true,true,false,false,false,false,true,false,true,false,false,false,false,false,false,false,false,false,false] rfl rfl (any_of HT_.out (by kernel_rfl)) (fun _ _ _ h => h) (Or.inl ⟨by rfl,?_⟩) ?_ ?_
     rotate_left
     ·intro w'
      go_simp
      with_reducible rfl
     rotate_left
     ·simp only [Act.put,List.setIfInBounds_toArray,List.set_cons_zero,List.set_cons_succ,i64_w,i32_w]
      rfl
     refine pure_ (i:=21) (N:=some 100) (v:=?_) (a':=?_) #[true,true,false,true,true,false,false,true,true,false,false,false,true,true,false,false,false,false,true,false,true,true,false,false,false,false,false,false,false,false,false] rfl rfl (any_of HT_.out (by kernel_rfl)) (fun _ _ _ h => h) (Or.inl ⟨by rfl,?_⟩) ?_ ?_
     rotate_left
     ·intro w'
      go_simp
      with_reducible rfl
     rotate_left
     ·simp only [Act.put,List.setIfInBounds_toArray,List.set_cons_zero,List.set_cons_succ,i64_w,i32_w]
      rfl
     refine pure_ (i:=22) (N:=some 101) (v:=?_) (a':=?_) #[true,true,false,true,true,false,false,true,true,false,false,false,true,true,false,false,false,false,true,false,true,true,true,false,false,false,false,false,false,false,false] rfl rfl (any_of HT_.out (by kernel_rfl)) (fun _ _ _ h => h) (Or.inl ⟨by rfl,?_⟩) ?_ ?_
     rotate_left
     ·intro w'
      go_simp
      with_reducible rfl
     rotate_left
     ·simp only [Act.put,List.setIfInBounds_toArray,List.set_cons_zero,List.set_cons_succ,i64_w,i32_w]
      rfl
     refine pure_ (i:=25) (N:=some 104) (v:=?_) (a':=?_) #[true,true,false,true,true,false,false,true,true,false,false,false,true,true,false,false,false,false,true,false,true,true,true,false,false,true,false,false,false,false,false] rfl rfl (any_of HT_.out (by kernel_rfl)) (fun _ _ _ h => h) (Or.inl ⟨by rfl,?_⟩) ?_ ?_
     rotate_left
     ·intro w'
      go_simp
      with_reducible rfl
     rotate_left
     ·simp only [Act.put,List.setIfInBounds_toArray,List.set_cons_zero,List.set_cons_succ,i64_w,i32_w]
      rfl
     refine pure_ (i:=26) (N:=some 105) (v:=?_) (a':=?_) #[true,true,false,true,true,false,false,true,true,false,false,false,true,true,false,false,false,false,true,false,true,true,true,false,false,true,true,false,false,false,false] rfl rfl (any_of HT_.out (by kernel_rfl)) (fun _ _ _ h => h) (Or.inl ⟨by rfl,?_⟩) ?_ ?_
     rotate_left
     ·intro w'
      go_simp
      with_reducible rfl
     rotate_left
     ·simp only [Act.put,List.setIfInBounds_toArray,List.set_cons_zero,List.set_cons_succ,i64_w,i32_w]
      rfl
     refine pure_ (i:=27) (N:=some 106) (v:=?_) (a':=?_) #[true,true,false,true,true,false,false,true,true,false,false,false,true,true,false,false,false,false,true,false,true,true,true,false,false,true,true,true,false,false,false] rfl rfl (any_of HT_.out (by kernel_rfl)) (fun _ _ _ h => h) (Or.inl ⟨by rfl,?_⟩) ?_ ?_
     rotate_left
     ·intro w'
      go_simp
      with_reducible rfl
     rotate_left
     ·simp only [Act.put,List.setIfInBounds_toArray,List.set_cons_zero,List.set_cons_succ,i64_w,i32_w]
      rfl
     refine take_ (i:=2) (N:=some 81) (v:=?_) (a':=?_) #[true,true,true,true,true,false,false,true,true,false,false,false,true,true,false,false,false,false,true,false,true,true,true,false,false,true,true,true,false,false,false] rfl rfl (take_ofW HT_.out HW_.out (by kernel_rfl)) (fun _ _ _ h => h) (Or.inl ⟨by rfl,?_⟩) hHeld ?_ ?_
     rotate_left
     ·rintro w' ⟨s0,s1,s2,s3,s4,s5⟩
      go_simp
      with_reducible rfl
     rotate_left
     ·simp only [Act.put,List.setIfInBounds_toArray,List.set_cons_zero,List.set_cons_succ,i64_w,i32_w]
      rfl
     refine take_ (i:=5) (N:=some 84) (v:=?_) (a':=?_) #[true,true,true,true,true,true,false,true,true,false,false,false,true,true,false,false,false,false,true,false,true,true,true,false,false,true,true,true,false,false,false] rfl rfl (take_ofW HT_.out HW_.out (by kernel_rfl)) (fun _ _ _ h => h) (Or.inl ⟨by rfl,?_⟩) hHeld ?_ ?_
     rotate_left
     ·rintro w' ⟨s0,s1,s2,s3,s4,s5⟩
      go_simp
      with_reducible rfl
     rotate_left
     ·simp only [Act.put,List.setIfInBounds_toArray,List.set_cons_zero,List.set_cons_succ,i64_w,i32_w]
      rfl
     refine take_ (i:=9) (N:=some 88) (v:=?_) (a':=?_) #[true,true,true,true,true,true,false,true,true,true,false,false,true,true,false,false,false,false,true,false,true,true,true,false,false,true,true,true,false,false,false] rfl rfl (take_ofW HT_.out HW_.out (by kernel_rfl)) (fun _ _ _ h => h) (Or.inl ⟨by rfl,?_⟩) hHeld ?_ ?_
     rotate_left
     ·rintro w' ⟨s0,s1,s2,s3,s4,s5⟩
      go_simp
      with_reducible rfl
     rotate_left
     ·simp only [Act.put,List.setIfInBounds_toArray,List.set_cons_zero,List.set_cons_succ,i64_w,i32_w]
      rfl
     refine take_ (i:=14) (N:=some 93) (v:=?_) (a':=?_) #[true,true,true,true,true,true,false,true,true,true,false,false,true,true,true,false,false,false,true,false,true,true,true,false,false,true,true,true,false,false,false] rfl rfl (take_ofW HT_.out HW_.out (by kernel_rfl)) (fun _ _ _ h => h) (Or.inl ⟨by rfl,?_⟩) hHeld ?_ ?_
     rotate_left
     ·rintro w' ⟨s0,s1,s2,s3,s4,s5⟩
      go_simp
      with_reducible rfl
     rotate_left
     ·simp only [Act.put,List.setIfInBounds_toArray,List.set_cons_zero,List.set_cons_succ,i64_w,i32_w]
      rfl
     refine take_ (i:=23) (N:=some 102) (v:=?_) (a':=?_) #[true,true,true,true,true,true,false,true,true,true,false,false,true,true,true,false,false,false,true,false,true,true,true,true,false,true,true,true,false,false,false] rfl rfl (take_ofW HT_.out HW_.out (by kernel_rfl)) (fun _ _ _ h => h) (Or.inl ⟨by rfl,?_⟩) hHeld ?_ ?_
     rotate_left
     ·rintro w' ⟨s0,s1,s2,s3,s4,s5⟩
      go_simp
      with_reducible rfl
     rotate_left
     ·simp only [Act.put,List.setIfInBounds_toArray,List.set_cons_zero,List.set_cons_succ,i64_w,i32_w]
      rfl
     refine take_ (i:=28) (N:=some 107) (v:=?_) (a':=?_) #[true,true,true,true,true,true,false,true,true,true,false,false,true,true,true,false,false,false,true,false,true,true,true,true,false,true,true,true,true,false,false] rfl rfl (take_ofW HT_.out HW_.out (by kernel_rfl)) (fun _ _ _ h => h) (Or.inl ⟨by rfl,?_⟩) hHeld ?_ ?_
     rotate_left
     ·rintro w' ⟨s0,s1,s2,s3,s4,s5⟩
      go_simp
      with_reducible rfl
     rotate_left
     ·simp only [Act.put,List.setIfInBounds_toArray,List.set_cons_zero,List.set_cons_succ,i64_w,i32_w]
      rfl
     refine one_ (i:=6) (N:=some 85) #[true,true,true,true,true,true,true,true,true,true,false,false,true,true,true,false,false,false,true,false,true,true,true,true,false,true,true,true,true,false,false] rfl rfl (one_of HT_.out (by kernel_rfl)) (by decide) (fun K hK => ?_)
     refine goes_ Tryd.func100 (by kernel_rfl) rfl #[.int .u32 (rd x8_2 4),.int .i64 6] (by rfl) rfl rfl (by (try simp only [List.map_toArray,List.map_cons,List.map_nil]);first|done|rfl|(simp only [List.length_drop,List.length_take];rfl)) ?_
     with_reducible refine (racewayref03_turn.calls (rd x8_2 4) 6 t175 _ A29.out).mono ?_
     rintro e w' ⟨rfl,⟨nd,rfl⟩⟩
     refine ⟨_,rfl,?_⟩
     refine hK.out _ _ ⟨hHeld.1,hHeld.2.1,hHeld.2.2.1,hHeld.2.2.2.1,hHeld.2.2.2.2.1,hHeld.2.2.2.2.2⟩ (fun hHeld => ?_)
     clear hK K
     refine norm_ (a':=?_) ?_ ?_
     rotate_left
     ·show Act.put _ (some 85) _ = _
      simp only [Act.put,List.setIfInBounds_toArray,List.set_cons_zero,List.set_cons_succ,i64_w,i32_w]
      rfl
     refine one_ (i:=10) (N:=some 89) #[true,true,true,true,true,true,true,true,true,true,true,false,true,true,true,false,false,false,true,false,true,true,true,true,false,true,true,true,true,false,false] rfl rfl (one_of HT_.out (by kernel_rfl)) (by decide) (fun K hK => ?_)
     refine goes_ Tryd.func100 (by kernel_rfl) rfl #[.int .u32 (rd x8_2 4),.int .i64 11] (by rfl) rfl rfl (by (try simp only [List.map_toArray,List.map_cons,List.map_nil]);first|done|rfl|(simp only [List.length_drop,List.length_take];rfl)) ?_
     with_reducible refine (racewayref03_turn.calls (rd x8_2 4) 11 t177 _ A30.out).mono ?_
     rintro e w' ⟨rfl,⟨nd,rfl⟩⟩
     refine ⟨_,rfl,?_⟩
     refine hK.out _ _ ⟨hHeld.1,hHeld.2.1,hHeld.2.2.1,hHeld.2.2.2.1,hHeld.2.2.2.2.1,hHeld.2.2.2.2.2⟩ (fun hHeld => ?_)
     clear hK K
     refine norm_ (a':=?_) ?_ ?_
     rotate_left
     ·show Act.put _ (some 89) _ = _
      simp only [Act.put,List.setIfInBounds_toArray,List.set_cons_zero,List.set_cons_succ,i64_w,i32_w]
      rfl
     refine pure_ (i:=11) (N:=some 90) (v:=?_) (a':=?_) #[true,true,true,true,true,true,true,true,true,true,true,true,true,true,true,false,false,false,true,false,true,true,true,true,false,true,true,true,true,false,false] rfl rfl (any_of HT_.out (by kernel_rfl)) (fun _ _ _ h => h) (Or.inl ⟨by rfl,?_⟩) ?_ ?_
     rotate_left
     ·intro w'
      go_simp
      with_reducible rfl
     rotate_left
     ·simp only [Act.put,List.setIfInBounds_toArray,List.set_cons_zero,List.set_cons_succ,i64_w,i32_w]
      rfl
     refine one_ (i:=15) (N:=some 94) #[true,true,true,true,true,true,true,true,true,true,true,true,true,true,true,true,false,false,true,false,true,true,true,true,false,true,true,true,true,false,false] rfl rfl (one_of HT_.out (by kernel_rfl)) (by decide) (fun K hK => ?_)
     refine goes_ Tryd.func100 (by kernel_rfl) rfl #[.int .u32 (rd x8_2 4),.int .i64 25] (by rfl) rfl rfl (by (try simp only [List.map_toArray,List.map_cons,List.map_nil]);first|done|rfl|(simp only [List.length_drop,List.length_take];rfl)) ?_
     with_reducible refine (racewayref03_turn.calls (rd x8_2 4) 25 t179 _ A31.out).mono ?_
     rintro e w' ⟨rfl,⟨nd,rfl⟩⟩
     refine ⟨_,rfl,?_⟩
     refine hK.out _ _ ⟨hHeld.1,hHeld.2.1,hHeld.2.2.1,hHeld.2.2.2.1,hHeld.2.2.2.2.1,hHeld.2.2.2.2.2⟩ (fun hHeld => ?_)
     clear hK K
     refine norm_ (a':=?_) ?_ ?_
     rotate_left
     ·show Act.put _ (some 94) _ = _
      simp only [Act.put,List.setIfInBounds_toArray,List.set_cons_zero,List.set_cons_succ,i64_w,i32_w]
      rfl
     refine pure_ (i:=16) (N:=some 95) (v:=?_) (a':=?_) #[true,true,true,true,true,true,true,true,true,true,true,true,true,true,true,true,true,false,true,false,true,true,true,true,false,true,true,true,true,false,false] rfl rfl (any_of HT_.out (by kernel_rfl)) (fun _ _ _ h => h) (Or.inl ⟨by rfl,?_⟩) ?_ ?_
     rotate_left
     ·intro w'
      go_simp
      with_reducible rfl
     rotate_left
     ·simp only [Act.put,List.setIfInBounds_toArray,List.set_cons_zero,List.set_cons_succ,i64_w,i32_w]
      rfl
     refine pure_ (i:=17) (N:=some 96) (v:=?_) (a':=?_) #[true,true,true,true,true,true,true,true,true,true,true,true,true,true,true,true,true,true,true,false,true,true,true,true,false,true,true,true,true,false,false] rfl rfl (any_of HT_.out (by kernel_rfl)) (fun _ _ _ h => h) (Or.inl ⟨by rfl,?_⟩) ?_ ?_
     rotate_left
     ·intro w'
      go_simp
      with_reducible rfl
     rotate_left
     ·simp only [Act.put,List.setIfInBounds_toArray,List.set_cons_zero,List.set_cons_succ,i64_w,i32_w]
      rfl
     refine pure_ (i:=19) (N:=some 98) (v:=?_) (a':=?_) #[true,true,true,true,true,true,true,true,true,true,true,true,true,true,true,true,true,true,true,true,true,true,true,true,false,true,true,true,true,false,false] rfl rfl (any_of HT_.out (by kernel_rfl)) (fun _ _ _ h => h) (Or.inl ⟨by rfl,?_⟩) ?_ ?_
     rotate_left
     ·intro w'
      go_simp
      with_reducible rfl
     rotate_left
     ·simp only [Act.put,List.setIfInBounds_toArray,List.set_cons_zero,List.set_cons_succ,i64_w,i32_w]
      rfl
     refine pure_ (i:=24) (N:=some 103) (v:=?_) (a':=?_) #[true,true,true,true,true,true,true,true,true,true,true,true,true,true,true,true,true,true,true,true,true,true,true,true,true,true,true,true,true,false,false] rfl rfl (any_of HT_.out (by kernel_rfl)) (fun _ _ _ h => h) (Or.inl ⟨by rfl,?_⟩) ?_ ?_
     rotate_left
     ·intro w'
      go_simp
      with_reducible rfl
     rotate_left
     ·simp only [Act.put,List.setIfInBounds_toArray,List.set_cons_zero,List.set_cons_succ,i64_w,i32_w]
      rfl
     refine pure_ (i:=29) (N:=some 108) (v:=?_) (a':=?_) #[true,true,true,true,true,true,true,true,true,true,true,true,true,true,true,true,true,true,true,true,true,true,true,true,true,true,true,true,true,true,false] rfl rfl (any_of HT_.out (by kernel_rfl)) (fun _ _ _ h => h) (Or.inl ⟨by rfl,?_⟩) ?_ ?_
     rotate_left
     ·intro w'
      go_simp
      with_reducible rfl
     rotate_left
     ·simp only [Act.put,List.setIfInBounds_toArray,List.set_cons_zero,List.set_cons_succ,i64_w,i32_w]
      rfl
     refine pure_ (i:=30) (N:=some 12) (v:=?_) (a':=?_) #[true,true,true,true,true,true,true,true,true,true,true,true,true,true,true,true,true,true,true,true,true,true,true,true,true,true,true,true,true,true,true] rfl rfl (any_of HT_.out (by kernel_rfl)) (fun _ _ _ h => h) (Or.inl ⟨by rfl,?_⟩) ?_ ?_
     rotate_left
     ·intro w'
      go_simp
      with_reducible rfl
     rotate_left
     ·simp only [Act.put,List.setIfInBounds_toArray,List.set_cons_zero,List.set_cons_succ,i64_w,i32_w]
      rfl
     refine done_ (done_of HT_.out (by kernel_rfl)) ?_
     try go_wp2
     (try (rw [drewN_self w42];generalize hq_ : World.drewN w42 _ = w42;have n0_ : Aside0 (Kd.R (Kd.int .u32) 107 w42 w.heap.size (fun k_ => some k_ ≠ (.slice (some ad180) t144.length co43 : Value).ownBlock ∧ some k_ ≠ (.slice (some ad181) t154.length co44 : Value).ownBlock ∧ some k_ ≠ (.slice (some ad163) x8_2.length co40 : Value).ownBlock) (.slice Ao20 x3_1.length co20) x3_1):=⟨by rw [← hq_];exact (by (with_reducible repeat (first|apply Kd.R_alloc|apply Kd.R_drewN|apply Kd.R_drew));exact HO_3.out)⟩;have n1_ : Aside0 (Kd.R (Kd.int .u32) 107 w42 w.heap.size (fun k_ => some k_ ≠ (.slice Ao20 x3_1.length co20 : Value).ownBlock ∧ some k_ ≠ (.slice (some ad181) t154.length co44 : Value).ownBlock ∧ some k_ ≠ (.slice (some ad163) x8_2.length co40 : Value).ownBlock) (.slice (some ad180) t144.length co43) t144):=⟨by rw [← hq_];exact (by (with_reducible repeat (first|apply Kd.R_alloc|apply Kd.R_drewN|apply Kd.R_drew));exact HO_4.out)⟩;have n2_ : Aside0 (Kd.R (Kd.int .u8) 5 w42 w.heap.size (fun _ => True) (.slice Ao14 t147.length co14) t147):=⟨by rw [← hq_];exact (by (with_reducible repeat (first|apply Kd.R_alloc|apply Kd.R_drewN|apply Kd.R_drew));exact HO_5.out)⟩;have n3_ : Aside0 (Kd.R (Kd.int .u32) 107 w42 w.heap.size (fun k_ => some k_ ≠ (.slice Ao20 x3_1.length co20 : Value).ownBlock ∧ some k_ ≠ (.slice (some ad180) t144.length co43 : Value).ownBlock ∧ some k_ ≠ (.slice (some ad163) x8_2.length co40 : Value).ownBlock) (.slice (some ad181) t154.length co44) t154):=⟨by rw [← hq_];exact (by (with_reducible repeat (first|apply Kd.R_alloc|apply Kd.R_drewN|apply Kd.R_drew));exact HO_7.out)⟩;have n4_ : Aside0 (Kd.R (Kd.int .u32) 107 w42 w.heap.size (fun k_ => some k_ ≠ (.slice Ao20 x3_1.length co20 : Value).ownBlock ∧ some k_ ≠ (.slice (some ad180) t144.length co43 : Value).ownBlock ∧ some k_ ≠ (.slice (some ad181) t154.length co44 : Value).ownBlock) (.slice (some ad163) x8_2.length co40) x8_2):=⟨by rw [← hq_];exact (by (with_reducible repeat (first|apply Kd.R_alloc|apply Kd.R_drewN|apply Kd.R_drew));exact HO_8.out)⟩;have n5_ : Aside0 (Below w.heap.size w w42):=⟨by rw [← hq_];exact (by repeat (first|(with_reducible first|exact HB.out|apply below_alloc|apply pw_below_drewN|apply below_drew1)|exact HB.out))⟩;clear HO_3 HO_4 HO_5 HO_7 HO_8 HB hq_;have HO_3:=n0_;have HO_4:=n1_;have HO_5:=n2_;have HO_7:=n3_;have HO_8:=n4_;have HB:=n5_;clear n0_ n1_ n2_ n3_ n4_ n5_))
     have n0_:=Aside0.mk (Kd.R_drew HO_3.out)
     have n1_:=Aside0.mk (Kd.R_drew HO_4.out)
     have n2_:=Aside0.mk (Kd.R_drew HO_5.out)
     have n3_:=Aside0.mk (Kd.R_drew HO_7.out)
     have n4_:=Aside0.mk (Kd.R_drew HO_8.out)
     have n5_:=Aside0.mk (below_drew1 HB.out)
     clear HO_3
     clear HO_4
     clear HO_5
     clear HO_7
     clear HO_8
     clear HB
     have HO_3:=n0_
     have HO_4:=n1_
     have HO_5:=n2_
     have HO_7:=n3_
     have HO_8:=n4_
     have HB:=n5_
     clear n0_ n1_ n2_ n3_ n4_ n5_
     have p182 : 0 ≤ (0 : Int):=(by omega)
     have q182 : 0 < (x8_2.length : Int):=of_decide_eq_true (by first|(with_reducible assumption)|assumption)
     obtain ⟨ad182,e182,hx182_0⟩:=Kd.at_int (Kd.R_reads' HO_8.out).2.2 0 p182 q182
     obtain rfl : ad163 = ad182:=(by injection e182)
     have qi182 : (0 < x8_2.length) = True:=eq_true (by omega)
     (try rw [show ((0 : Int)).toNat = 0 from rfl] at hx182_0)
     (try rw [Addr.add_zero'] at hx182_0)
     replace p182:=eq_true p182
     replace q182:=eq_true q182
     have p184 : 0 ≤ (0 : Int):=(by omega)
     have q184 : 0 < (x8_2.length : Int):=of_decide_eq_true (by first|(with_reducible assumption)|assumption)
     obtain ⟨ad184,e184,hx184_0⟩:=Kd.at_int (Kd.R_reads' HO_8.out).2.2 0 p184 q184
     obtain rfl : ad163 = ad184:=(by injection e184)
     have qi184 : (0 < x8_2.length) = True:=eq_true (by omega)
     (try rw [show ((0 : Int)).toNat = 0 from rfl] at hx184_0)
     (try rw [Addr.add_zero'] at hx184_0)
     replace p184:=eq_true p184
     replace q184:=eq_true q184
     have p186 : 0 ≤ (0 : Int):=(by omega)
     have q186 : 0 < (x8_2.length : Int):=of_decide_eq_true (by first|(with_reducible assumption)|assumption)
     obtain ⟨ad186,e186,hx186_0⟩:=Kd.at_int (Kd.R_reads' HO_8.out).2.2 0 p186 q186
     obtain rfl : ad163 = ad186:=(by injection e186)
     have qi186 : (0 < x8_2.length) = True:=eq_true (by omega)
     (try rw [show ((0 : Int)).toNat = 0 from rfl] at hx186_0)
     (try rw [Addr.add_zero'] at hx186_0)
     replace p186:=eq_true p186
     replace q186:=eq_true q186
     refine start_ (n:=17) (S:=fun w' => w'.cell? ad163 = some (.int .u32 (rd x8_2 0)) ∧ w'.cell? ad163 = some (.int .u32 (rd x8_2 0)) ∧ w'.cell? ad163 = some (.int .u32 (rd x8_2 0))) (ds:=[]) #[false,false,false,false,false,false,false,false,false,false,false,false,false,false,false,false,false] (by kernel_rfl) rfl rfl ⟨hx182_0,hx184_0,hx186_0⟩ (fun hHeld => ?_);refine with_tabW racewayref03_Of.tab15 racewayref03_Of.bits15 (fun HT_ HW_ => ?_)
     generalize w42.drew = w45 at HO_3 HO_4 HO_5 HO_7 HO_8 HB hx182_0 hx184_0 hx186_0 hHeld ⊢
     refine pure_ (i:=0) (N:=some 109) (v:=?_) (a':=?_) #[true,false,false,false,false,false,false,false,false,false,false,false,false,false,false,false,false] rfl rfl (any_of HT_.out (by kernel_rfl)) (fun _ _ _ h => h) (Or.inl ⟨by rfl,?_⟩) ?_ ?_
     rotate_left
     ·intro w'
      go_simp
      with_reducible rfl
     rotate_left
     ·simp only [Act.put,List.setIfInBounds_toArray,List.set_cons_zero,List.set_cons_succ,i64_w,i32_w]
      rfl
     refine pure_ (i:=1) (N:=some 110) (v:=?_) (a':=?_) #[true,true,false,false,false,false,false,false,false,false,false,false,false,false,false,false,false] rfl rfl (any_of HT_.out (by kernel_rfl)) (fun _ _ _ h => h) (Or.inl ⟨by rfl,?_⟩) ?_ ?_
     rotate_left
     ·intro w'
      go_simp
      with_reducible rfl
     rotate_left
     ·simp only [Act.put,List.setIfInBounds_toArray,List.set_cons_zero,List.set_cons_succ,i64_w,i32_w]
      rfl
     refine pure_ (i:=4) (N:=some 113) (v:=?_) (a':=?_) #[true,true,false,false,true,false,false,false,false,false,false,false,false,false,false,false,false] rfl rfl (any_of HT_.out (by kernel_rfl)) (fun _ _ _ h => h) (Or.inl ⟨by rfl,?_⟩) ?_ ?_
     rotate_left
     ·intro w'
      go_simp
      with_reducible rfl
     rotate_left
     ·simp only [Act.put,List.setIfInBounds_toArray,List.set_cons_zero,List.set_cons_succ,i64_w,i32_w]
      rfl
     refine pure_ (i:=5) (N:=some 114) (v:=?_) (a':=?_) #[true,true,false,false,true,true,false,false,false,false,false,false,false,false,false,false,false] rfl rfl (any_of HT_.out (by kernel_rfl)) (fun _ _ _ h => h) (Or.inl ⟨by rfl,?_⟩) ?_ ?_
     rotate_left
     ·intro w'
      go_simp
      with_reducible rfl
     rotate_left
     ·simp only [Act.put,List.setIfInBounds_toArray,List.set_cons_zero,List.set_cons_succ,i64_w,i32_w]
      rfl
     refine pure_ (i:=9) (N:=some 118) (v:=?_) (a':=?_) #[true,true,false,false,true,true,false,false,false,true,false,false,false,false,false,false,false] rfl rfl (any_of HT_.out (by kernel_rfl)) (fun _ _ _ h => h) (Or.inl ⟨by rfl,?_⟩) ?_ ?_
     rotate_left
     ·intro w'
      go_simp
      with_reducible rfl
     rotate_left
     ·simp only [Act.put,List.setIfInBounds_toArray,List.set_cons_zero,List.set_cons_succ,i64_w,i32_w]
      rfl
     refine pure_ (i:=10) (N:=some 119) (v:=?_) (a':=?_) #[true,true,false,false,true,true,false,false,false,true,true,false,false,false,false,false,false] rfl rfl (any_of HT_.out (by kernel_rfl)) (fun _ _ _ h => h) (Or.inl ⟨by rfl,?_⟩) ?_ ?_
     rotate_left
     ·intro w'
      go_simp
      with_reducible rfl
     rotate_left
     ·simp only [Act.put,List.setIfInBounds_toArray,List.set_cons_zero,List.set_cons_succ,i64_w,i32_w]
      rfl
     refine pure_ (i:=14) (N:=some 123) (v:=?_) (a':=?_) #[true,true,false,false,true,true,false,false,false,true,true,false,false,false,true,false,false] rfl rfl (any_of HT_.out (by kernel_rfl)) (fun _ _ _ h => h) (Or.inl ⟨by rfl,?_⟩) ?_ ?_
     rotate_left
     ·intro w'
      go_simp
      with_reducible rfl
     rotate_left
     ·simp only [Act.put,List.setIfInBounds_toArray,List.set_cons_zero,List.set_cons_succ,i64_w,i32_w]
      rfl
     refine take_ (i:=2) (N:=some 111) (v:=?_) (a':=?_) #[true,true,true,false,true,true,false,false,false,true,true,false,false,false,true,false,false] rfl rfl (take_ofW HT_.out HW_.out (by kernel_rfl)) (fun _ _ _ h => h) (Or.inl ⟨by rfl,?_⟩) hHeld ?_ ?_
     rotate_left
     ·rintro w' ⟨s0,s1,s2⟩
      go_simp
      with_reducible rfl
     rotate_left
     ·simp only [Act.put,List.setIfInBounds_toArray,List.set_cons_zero,List.set_cons_succ,i64_w,i32_w]
      rfl
     refine take_ (i:=6) (N:=some 115) (v:=?_) (a':=?_) #[true,true,true,false,true,true,true,false,false,true,true,false,false,false,true,false,false] rfl rfl (take_ofW HT_.out HW_.out (by kernel_rfl)) (fun _ _ _ h => h) (Or.inl ⟨by rfl,?_⟩) hHeld ?_ ?_
     rotate_left
     ·rintro w' ⟨s0,s1,s2⟩
      go_simp
      with_reducible rfl
     rotate_left
     ·simp only [Act.put,List.setIfInBounds_toArray,List.set_cons_zero,List.set_cons_succ,i64_w,i32_w]
      rfl
     refine take_ (i:=11) (N:=some 120) (v:=?_) (a':=?_) #[true,true,true,false,true,true,true,false,false,true,true,true,false,false,true,false,false] rfl rfl (take_ofW HT_.out HW_.out (by kernel_rfl)) (fun _ _ _ h => h) (Or.inl ⟨by rfl,?_⟩) hHeld ?_ ?_
     rotate_left
     ·rintro w' ⟨s0,s1,s2⟩
      go_simp
      with_reducible rfl
     rotate_left
     ·simp only [Act.put,List.setIfInBounds_toArray,List.set_cons_zero,List.set_cons_succ,i64_w,i32_w]
      rfl
     refine one_ (i:=3) (N:=some 112) #[true,true,true,true,true,true,true,false,false,true,true,true,false,false,true,false,false] rfl rfl (one_of HT_.out (by kernel_rfl)) (by decide) (fun K hK => ?_)
     refine goes_ Tryd.func100 (by kernel_rfl) rfl #[.int .u32 (rd x8_2 0),.int .i64 2] (by rfl) rfl rfl (by (try simp only [List.map_toArray,List.map_cons,List.map_nil]);first|done|rfl|(simp only [List.length_drop,List.length_take];rfl)) ?_
     with_reducible refine (racewayref03_turn.calls (rd x8_2 0) 2 t183 _ A35.out).mono ?_
     rintro e w' ⟨rfl,⟨nd,rfl⟩⟩
     refine ⟨_,rfl,?_⟩
     refine hK.out _ _ ⟨hHeld.1,hHeld.2.1,hHeld.2.2⟩ (fun hHeld => ?_)
     clear hK K
     refine norm_ (a':=?_) ?_ ?_
     rotate_left
     ·show Act.put _ (some 112) _ = _
      simp only [Act.put,List.setIfInBounds_toArray,List.set_cons_zero,List.set_cons_succ,i64_w,i32_w]
      rfl
     refine one_ (i:=7) (N:=some 116) #[true,true,true,true,true,true,true,true,false,true,true,true,false,false,true,false,false] rfl rfl (one_of HT_.out (by kernel_rfl)) (by decide) (fun K hK => ?_)
     refine goes_ Tryd.func100 (by kernel_rfl) rfl #[.int .u32 (rd x8_2 0),.int .i64 13] (by rfl) rfl rfl (by (try simp only [List.map_toArray,List.map_cons,List.map_nil]);first|done|rfl|(simp only [List.length_drop,List.length_take];rfl)) ?_
     with_reducible refine (racewayref03_turn.calls (rd x8_2 0) 13 t185 _ A36.out).mono ?_
     rintro e w' ⟨rfl,⟨nd,rfl⟩⟩
     refine ⟨_,rfl,?_⟩
     refine hK.out _ _ ⟨hHeld.1,hHeld.2.1,hHeld.2.2⟩ (fun hHeld => ?_)
     clear hK K
     refine norm_ (a':=?_) ?_ ?_
     rotate_left
     ·show Act.put _ (some 116) _ = _
      simp only [Act.put,List.setIfInBounds_toArray,List.set_cons_zero,List.set_cons_succ,i64_w,i32_w]
      rfl
     refine pure_ (i:=8) (N:=some 117) (v:=?_) (a':=?_) #[true,true,true,true,true,true,true,true,true,true,true,true,false,false,true,false,false] rfl rfl (any_of HT_.out (by kernel_rfl)) (fun _ _ _ h => h) (Or.inl ⟨by rfl,?_⟩) ?_ ?_
     rotate_left
     ·intro w'
      go_simp
      with_reducible rfl
     rotate_left
     ·simp only [Act.put,List.setIfInBounds_toArray,List.set_cons_zero,List.set_cons_succ,i64_w,i32_w]
      rfl
     refine one_ (i:=12) (N:=some 121) #[true,true,true,true,true,true,true,true,true,true,true,true,true,false,true,false,false] rfl rfl (one_of HT_.out (by kernel_rfl)) (by decide) (fun K hK => ?_)
     refine goes_ Tryd.func100 (by kernel_rfl) rfl #[.int .u32 (rd x8_2 0),.int .i64 22] (by rfl) rfl rfl (by (try simp only [List.map_toArray,List.map_cons,List.map_nil]);first|done|rfl|(simp only [List.length_drop,List.length_take];rfl)) ?_
     with_reducible refine (racewayref03_turn.calls (rd x8_2 0) 22 t187 _ A37.out).mono ?_
     rintro e w' ⟨rfl,⟨nd,rfl⟩⟩
     refine ⟨_,rfl,?_⟩
     refine hK.out _ _ ⟨hHeld.1,hHeld.2.1,hHeld.2.2⟩ (fun hHeld => ?_)
     clear hK K
     refine norm_ (a':=?_) ?_ ?_
     rotate_left
     ·show Act.put _ (some 121) _ = _
      simp only [Act.put,List.setIfInBounds_toArray,List.set_cons_zero,List.set_cons_succ,i64_w,i32_w]
      rfl
     refine pure_ (i:=13) (N:=some 122) (v:=?_) (a':=?_) #[true,true,true,true,true,true,true,true,true,true,true,true,true,true,true,false,false] rfl rfl (any_of HT_.out (by kernel_rfl)) (fun _ _ _ h => h) (Or.inl ⟨by rfl,?_⟩) ?_ ?_
     rotate_left
     ·intro w'
      go_simp
      with_reducible rfl
     rotate_left
     ·simp only [Act.put,List.setIfInBounds_toArray,List.set_cons_zero,List.set_cons_succ,i64_w,i32_w]
      rfl
     refine pure_ (i:=15) (N:=some 124) (v:=?_) (a':=?_) #[true,true,true,true,true,true,true,true,true,true,true,true,true,true,true,true,false] rfl rfl (any_of HT_.out (by kernel_rfl)) (fun _ _ _ h => h) (Or.inl ⟨by rfl,?_⟩) ?_ ?_
     rotate_left
     ·intro w'
      go_simp
      with_reducible rfl
     rotate_left
     ·simp only [Act.put,List.setIfInBounds_toArray,List.set_cons_zero,List.set_cons_succ,i64_w,i32_w]
      rfl
     refine pure_ (i:=16) (N:=some 13) (v:=?_) (a':=?_) #[true,true,true,true,true,true,true,true,true,true,true,true,true,true,true,true,true] rfl rfl (any_of HT_.out (by kernel_rfl)) (fun _ _ _ h => h) (Or.inl ⟨by rfl,?_⟩) ?_ ?_
     rotate_left
     ·intro w'
      go_simp
      with_reducible rfl
     rotate_left
     ·simp only [Act.put,List.setIfInBounds_toArray,List.set_cons_zero,List.set_cons_succ,i64_w,i32_w]
      rfl
     refine done_ (done_of HT_.out (by kernel_rfl)) ?_
     try go_wp2
     (try (rw [drewN_self w45];generalize hq_ : World.drewN w45 _ = w45;have n0_ : Aside0 (Kd.R (Kd.int .u32) 107 w45 w.heap.size (fun k_ => some k_ ≠ (.slice (some ad180) t144.length co43 : Value).ownBlock ∧ some k_ ≠ (.slice (some ad181) t154.length co44 : Value).ownBlock ∧ some k_ ≠ (.slice (some ad163) x8_2.length co40 : Value).ownBlock) (.slice Ao20 x3_1.length co20) x3_1):=⟨by rw [← hq_];exact (by (with_reducible repeat (first|apply Kd.R_alloc|apply Kd.R_drewN|apply Kd.R_drew));exact HO_3.out)⟩;have n1_ : Aside0 (Kd.R (Kd.int .u32) 107 w45 w.heap.size (fun k_ => some k_ ≠ (.slice Ao20 x3_1.length co20 : Value).ownBlock ∧ some k_ ≠ (.slice (some ad181) t154.length co44 : Value).ownBlock ∧ some k_ ≠ (.slice (some ad163) x8_2.length co40 : Value).ownBlock) (.slice (some ad180) t144.length co43) t144):=⟨by rw [← hq_];exact (by (with_reducible repeat (first|apply Kd.R_alloc|apply Kd.R_drewN|apply Kd.R_drew));exact HO_4.out)⟩;have n2_ : Aside0 (Kd.R (Kd.int .u8) 5 w45 w.heap.size (fun _ => True) (.slice Ao14 t147.length co14) t147):=⟨by rw [← hq_];exact (by (with_reducible repeat (first|apply Kd.R_alloc|apply Kd.R_drewN|apply Kd.R_drew));exact HO_5.out)⟩;have n3_ : Aside0 (Kd.R (Kd.int .u32) 107 w45 w.heap.size (fun k_ => some k_ ≠ (.slice Ao20 x3_1.length co20 : Value).ownBlock ∧ some k_ ≠ (.slice (some ad180) t144.length co43 : Value).ownBlock ∧ some k_ ≠ (.slice (some ad163) x8_2.length co40 : Value).ownBlock) (.slice (some ad181) t154.length co44) t154):=⟨by rw [← hq_];exact (by (with_reducible repeat (first|apply Kd.R_alloc|apply Kd.R_drewN|apply Kd.R_drew));exact HO_7.out)⟩;have n4_ : Aside0 (Kd.R (Kd.int .u32) 107 w45 w.heap.size (fun k_ => some k_ ≠ (.slice Ao20 x3_1.length co20 : Value).ownBlock ∧ some k_ ≠ (.slice (some ad180) t144.length co43 : Value).ownBlock ∧ some k_ ≠ (.slice (some ad181) t154.length co44 : Value).ownBlock) (.slice (some ad163) x8_2.length co40) x8_2):=⟨by rw [← hq_];exact (by (with_reducible repeat (first|apply Kd.R_alloc|apply Kd.R_drewN|apply Kd.R_drew));exact HO_8.out)⟩;have n5_ : Aside0 (Below w.heap.size w w45):=⟨by rw [← hq_];exact (by repeat (first|(with_reducible first|exact HB.out|apply below_alloc|apply pw_below_drewN|apply below_drew1)|exact HB.out))⟩;clear HO_3 HO_4 HO_5 HO_7 HO_8 HB hq_;have HO_3:=n0_;have HO_4:=n1_;have HO_5:=n2_;have HO_7:=n3_;have HO_8:=n4_;have HB:=n5_;clear n0_ n1_ n2_ n3_ n4_ n5_))
     have n0_:=Aside0.mk (Kd.R_drew HO_3.out)
     have n1_:=Aside0.mk (Kd.R_drew HO_4.out)
     have n2_:=Aside0.mk (Kd.R_drew HO_5.out)
     have n3_:=Aside0.mk (Kd.R_drew HO_7.out)
     have n4_:=Aside0.mk (Kd.R_drew HO_8.out)
     have n5_:=Aside0.mk (below_drew1 HB.out)
     clear HO_3
     clear HO_4
     clear HO_5
     clear HO_7
     clear HO_8
     clear HB
     have HO_3:=n0_
     have HO_4:=n1_
     have HO_5:=n2_
     have HO_7:=n3_
     have HO_8:=n4_
     have HB:=n5_
     clear n0_ n1_ n2_ n3_ n4_ n5_
     have p188 : 0 ≤ (0 : Int):=(by omega)
     have q188 : 0 < (x8_2.length : Int):=of_decide_eq_true (by first|(with_reducible assumption)|assumption)
     obtain ⟨ad188,e188,hx188_0⟩:=Kd.at_int (Kd.R_reads' HO_8.out).2.2 0 p188 q188
     obtain rfl : ad163 = ad188:=(by injection e188)
     have qi188 : (0 < x8_2.length) = True:=eq_true (by omega)
     (try rw [show ((0 : Int)).toNat = 0 from rfl] at hx188_0)
     (try rw [Addr.add_zero'] at hx188_0)
     replace p188:=eq_true p188
     replace q188:=eq_true q188
     have p189 : 0 ≤ (1 : Int):=(by omega)
     have q189 : 1 < (x8_2.length : Int):=of_decide_eq_true (by first|(with_reducible assumption)|assumption)
     obtain ⟨ad189,e189,hx189_0⟩:=Kd.at_int (Kd.R_reads' HO_8.out).2.2 1 p189 q189
     obtain rfl : ad163 = ad189:=(by injection e189)
     (try simp only [show (1 : Int).toNat = 1 from rfl,Nat.reduceMul,Nat.reduceEqDiff,Go.Addr.add,↓reduceIte] at hx189_0)
     have qi189 : (1 < x8_2.length) = True:=eq_true (by omega)
     (try rw [show ((1 : Int)).toNat = 1 from rfl] at hx189_0)
     replace p189:=eq_true p189
     replace q189:=eq_true q189
     have p190 : 0 ≤ (2 : Int):=(by omega)
     have q190 : 2 < (x8_2.length : Int):=of_decide_eq_true (by first|(with_reducible assumption)|assumption)
     obtain ⟨ad190,e190,hx190_0⟩:=Kd.at_int (Kd.R_reads' HO_8.out).2.2 2 p190 q190
     obtain rfl : ad163 = ad190:=(by injection e190)
     (try simp only [show (2 : Int).toNat = 2 from rfl,Nat.reduceMul,Nat.reduceEqDiff,Go.Addr.add,↓reduceIte] at hx190_0)
     have qi190 : (2 < x8_2.length) = True:=eq_true (by omega)
     (try rw [show ((2 : Int)).toNat = 2 from rfl] at hx190_0)
     replace p190:=eq_true p190
     replace q190:=eq_true q190
     have p191 : 0 ≤ (3 : Int):=(by omega)
     have q191 : 3 < (x8_2.length : Int):=of_decide_eq_true (by first|(with_reducible assumption)|assumption)
     obtain ⟨ad191,e191,hx191_0⟩:=Kd.at_int (Kd.R_reads' HO_8.out).2.2 3 p191 q191
     obtain rfl : ad163 = ad191:=(by injection e191)
     (try simp only [show (3 : Int).toNat = 3 from rfl,Nat.reduceMul,Nat.reduceEqDiff,Go.Addr.add,↓reduceIte] at hx191_0)
     have qi191 : (3 < x8_2.length) = True:=eq_true (by omega)
     (try rw [show ((3 : Int)).toNat = 3 from rfl] at hx191_0)
     replace p191:=eq_true p191
     replace q191:=eq_true q191
     have p192 : 0 ≤ (4 : Int):=(by omega)
     have q192 : 4 < (x8_2.length : Int):=of_decide_eq_true (by first|(with_reducible assumption)|assumption)
     obtain ⟨ad192,e192,hx192_0⟩:=Kd.at_int (Kd.R_reads' HO_8.out).2.2 4 p192 q192
     obtain rfl : ad163 = ad192:=(by injection e192)
     (try simp only [show (4 : Int).toNat = 4 from rfl,Nat.reduceMul,Nat.reduceEqDiff,Go.Addr.add,↓reduceIte] at hx192_0)
     have qi192 : (4 < x8_2.length) = True:=eq_true (by omega)
     (try rw [show ((4 : Int)).toNat = 4 from rfl] at hx192_0)
     replace p192:=eq_true p192
     replace q192:=eq_true q192
     have p193 : 0 ≤ (5 : Int):=(by omega)
     have q193 : 5 < (x8_2.length : Int):=of_decide_eq_true (by first|(with_reducible assumption)|assumption)
     obtain ⟨ad193,e193,hx193_0⟩:=Kd.at_int (Kd.R_reads' HO_8.out).2.2 5 p193 q193
     obtain rfl : ad163 = ad193:=(by injection e193)
     (try simp only [show (5 : Int).toNat = 5 from rfl,Nat.reduceMul,Nat.reduceEqDiff,Go.Addr.add,↓reduceIte] at hx193_0)
     have qi193 : (5 < x8_2.length) = True:=eq_true (by omega)
     (try rw [show ((5 : Int)).toNat = 5 from rfl] at hx193_0)
     replace p193:=eq_true p193
     replace q193:=eq_true q193
     have p194 : 0 ≤ (6 : Int):=(by omega)
     have q194 : 6 < (x8_2.length : Int):=of_decide_eq_true (by first|(with_reducible assumption)|assumption)
     obtain ⟨ad194,e194,hx194_0⟩:=Kd.at_int (Kd.R_reads' HO_8.out).2.2 6 p194 q194
     obtain rfl : ad163 = ad194:=(by injection e194)
     (try simp only [show (6 : Int).toNat = 6 from rfl,Nat.reduceMul,Nat.reduceEqDiff,Go.Addr.add,↓reduceIte] at hx194_0)
     have qi194 : (6 < x8_2.length) = True:=eq_true (by omega)
     (try rw [show ((6 : Int)).toNat = 6 from rfl] at hx194_0)
     replace p194:=eq_true p194
     replace q194:=eq_true q194
     refine start_ (n:=28) (S:=fun w' => w'.cell? ad163 = some (.int .u32 (rd x8_2 0)) ∧ w'.cell? ⟨ad163.block,ad163.off + 1,none⟩ = some (.int .u32 (rd x8_2 1)) ∧ w'.cell? ⟨ad163.block,ad163.off + 2,none⟩ = some (.int .u32 (rd x8_2 2)) ∧ w'.cell? ⟨ad163.block,ad163.off + 3,none⟩ = some (.int .u32 (rd x8_2 3)) ∧ w'.cell? ⟨ad163.block,ad163.off + 4,none⟩ = some (.int .u32 (rd x8_2 4)) ∧ w'.cell? ⟨ad163.block,ad163.off + 5,none⟩ = some (.int .u32 (rd x8_2 5)) ∧ w'.cell? ⟨ad163.block,ad163.off + 6,none⟩ = some (.int .u32 (rd x8_2 6))) (ds:=[]) #[false,false,false,false,false,false,false,false,false,false,false,false,false,false,false,false,false,false,false,false,false,false,false,false,false,false,false,false] (by kernel_rfl) rfl rfl ⟨hx188_0,hx189_0,hx190_0,hx191_0,hx192_0,hx193_0,hx194_0⟩ (fun hHeld => ?_);refine with_tabW racewayref03_Of.tab16 racewayref03_Of.bits16 (fun HT_ HW_ => ?_)
     generalize w45.drew = w46 at HO_3 HO_4 HO_5 HO_7 HO_8 HB hx188_0 hx189_0 hx190_0 hx191_0 hx192_0 hx193_0 hx194_0 hHeld ⊢
     refine pure_ (i:=0) (N:=some 125) (v:=?_) (a':=?_) #[true,false,false,false,false,false,false,false,false,false,false,false,false,false,false,false,false,false,false,false,false,false,false,false,false,false,false,false] rfl rfl (any_of HT_.out (by kernel_rfl)) (fun _ _ _ h => h) (Or.inl ⟨by rfl,?_⟩) ?_ ?_
     rotate_left
     ·intro w'
      go_simp
      with_reducible rfl
     rotate_left
     ·simp only [Act.put,List.setIfInBounds_toArray,List.set_cons_zero,List.set_cons_succ,i64_w,i32_w]
      rfl
     refine pure_ (i:=1) (N:=some 126) (v:=?_) (a':=?_) #[true,true,false,false,false,false,false,false,false,false,false,false,false,false,false,false,false,false,false,false,false,false,false,false,false,false,false,false] rfl rfl (any_of HT_.out (by kernel_rfl)) (fun _ _ _ h => h) (Or.inl ⟨by rfl,?_⟩) ?_ ?_
     rotate_left
     ·intro w'
      go_simp
      with_reducible rfl
     rotate_left
     ·simp only [Act.put,List.setIfInBounds_toArray,List.set_cons_zero,List.set_cons_succ,i64_w,i32_w]
      rfl
     refine pure_ (i:=2) (N:=some 127) (v:=?_) (a':=?_) #[true,true,true,false,false,false,false,false,false,false,false,false,false,false,false,false,false,false,false,false,false,false,false,false,false,false,false,false] rfl rfl (any_of HT_.out (by kernel_rfl)) (fun _ _ _ h => h) (Or.inl ⟨by rfl,?_⟩) ?_ ?_
     rotate_left
     ·intro w'
      go_simp
      with_reducible rfl
     rotate_left
     ·simp only [Act.put,List.setIfInBounds_toArray,List.set_cons_zero,List.set_cons_succ,i64_w,i32_w]
      rfl
     refine pure_ (i:=3) (N:=some 128) (v:=?_) (a':=?_) #[true,true,true,true,false,false,false,false,false,false,false,false,false,false,false,false,false,false,false,false,false,false,false,false,false,false,false,false] rfl rfl (any_of HT_.out (by kernel_rfl)) (fun _ _ _ h => h) (Or.inl ⟨by rfl,?_⟩) ?_ ?_
     rotate_left
     ·intro w'
      go_simp
      with_reducible rfl
     rotate_left
     ·simp only [Act.put,List.setIfInBounds_toArray,List.set_cons_zero,List.set_cons_succ,i64_w,i32_w]
      rfl
     refine pure_ (i:=4) (N:=some 129) (v:=?_) (a':=?_) #[true,true,true,true,true,false,false,false,false,false,false,false,false,false,false,false,false,false,false,false,false,false,false,false,false,false,false,false] rfl rfl (any_of HT_.out (by kernel_rfl)) (fun _ _ _ h => h) (Or.inl ⟨by rfl,?_⟩) ?_ ?_
     rotate_left
     ·intro w'
      go_simp
      with_reducible rfl
     rotate_left
     ·simp only [Act.put,List.setIfInBounds_toArray,List.set_cons_zero,List.set_cons_succ,i64_w,i32_w]
      rfl
     refine pure_ (i:=6) (N:=some 131) (v:=?_) (a':=?_) #[true,true,true,true,true,false,true,false,false,false,false,false,false,false,false,false,false,false,false,false,false,false,false,false,false,false,false,false] rfl rfl (any_of HT_.out (by kernel_rfl)) (fun _ _ _ h => h) (Or.inl ⟨by rfl,?_⟩) ?_ ?_
     rotate_left
     ·intro w'
      go_simp
      with_reducible rfl
     rotate_left
     ·simp only [Act.put,List.setIfInBounds_toArray,List.set_cons_zero,List.set_cons_succ,i64_w,i32_w]
      rfl
     refine pure_ (i:=7) (N:=some 132) (v:=?_) (a':=?_) #[true,true,true,true,true,false,true,true,false,false,false,false,false,false,false,false,false,false,false,false,false,false,false,false,false,false,false,false] rfl rfl (any_of HT_.out (by kernel_rfl)) (fun _ _ _ h => h) (Or.inl ⟨by rfl,?_⟩) ?_ ?_
     rotate_left
     ·intro w'
      go_simp
      with_reducible rfl
     rotate_left
     ·simp only [Act.put,List.setIfInBounds_toArray,List.set_cons_zero,List.set_cons_succ,i64_w,i32_w]
      rfl
     refine pure_ (i:=9) (N:=some 134) (v:=?_) (a':=?_) #[true,true,true,true,true,false,true,true,false,true,false,false,false,false,false,false,false,false,false,false,false,false,false,false,false,false,false,false] rfl rfl (any_of HT_.out (by kernel_rfl)) (fun _ _ _ h => h) (Or.inl ⟨by rfl,?_⟩) ?_ ?_
     rotate_left
     ·intro w'
      go_simp
      with_reducible rfl
     rotate_left
     ·simp only [Act.put,List.setIfInBounds_toArray,List.set_cons_zero,List.set_cons_succ,i64_w,i32_w]
      rfl
     refine pure_ (i:=10) (N:=some 135) (v:=?_) (a':=?_) #[true,true,true,true,true,false,true,true,false,true,true,false,false,false,false,false,false,false,false,false,false,false,false,false,false,false,false,false] rfl rfl (any_of HT_.out (by kernel_rfl)) (fun _ _ _ h => h) (Or.inl ⟨by rfl,?_⟩) ?_ ?_
     rotate_left
     ·intro w'
      go_simp
      with_reducible rfl
     rotate_left
     ·simp only [Act.put,List.setIfInBounds_toArray,List.set_cons_zero,List.set_cons_succ,i64_w,i32_w]
      rfl
     refine pure_ (i:=12) (N:=some 137) (v:=?_) (a':=?_) #[true,true,true,true,true,false,true,true,false,true,true,false,true,false,false,false,false,false,false,false,false,false,false,false,false,false,false,false] rfl rfl (any_of HT_.out (by kernel_rfl)) (fun _ _ _ h => h) (Or.inl ⟨by rfl,?_⟩) ?_ ?_
     rotate_left
     ·intro w'
      go_simp
      with_reducible rfl
     rotate_left
     ·simp only [Act.put,List.setIfInBounds_toArray,List.set_cons_zero,List.set_cons_succ,i64_w,i32_w]
      rfl
     refine pure_ (i:=13) (N:=some 138) (v:=?_) (a':=?_) #[true,true,true,true,true,false,true,true,false,true,true,false,true,true,false,false,false,false,false,false,false,false,false,false,false,false,false,false] rfl rfl (any_of HT_.out (by kernel_rfl)) (fun _ _ _ h => h) (Or.inl ⟨by rfl,?_⟩) ?_ ?_
     rotate_left
     ·intro w'
      go_simp
      with_reducible rfl
     rotate_left
     ·simp only [Act.put,List.setIfInBounds_toArray,List.set_cons_zero,List.set_cons_succ,i64_w,i32_w]
      rfl
     refine pure_ (i:=15) (N:=some 140) (v:=?_) (a':=?_) #[true,true,true,true,true,false,true,true,false,true,true,false,true,true,false,true,false,false,false,false,false,false,false,false,false,false,false,false] rfl rfl (any_of HT_.out (by kernel_rfl)) (fun _ _ _ h => h) (Or.inl ⟨by rfl,?_⟩) ?_ ?_
     rotate_left
     ·intro w'
      go_simp
      with_reducible rfl
     rotate_left
     ·simp only [Act.put,List.setIfInBounds_toArray,List.set_cons_zero,List.set_cons_succ,i64_w,i32_w]
      rfl
     refine pure_ (i:=17) (N:=some 142) (v:=?_) (a':=?_) #[true,true,true,true,true,false,true,true,false,true,true,false,true,true,false,true,false,true,false,false,false,false,false,false,false,false,false,false] rfl rfl (any_of HT_.out (by kernel_rfl)) (fun _ _ _ h => h) (Or.inl ⟨by rfl,?_⟩) ?_ ?_
     rotate_left
     ·intro w'
      go_simp
      with_reducible rfl
     rotate_left
     ·simp only [Act.put,List.setIfInBounds_toArray,List.set_cons_zero,List.set_cons_succ,i64_w,i32_w]
      rfl
     refine pure_ (i:=18) (N:=some 143) (v:=?_) (a':=?_) #[true,true,true,true,true,false,true,true,false,true,true,false,true,true,false,true,false,true,true,false,false,false,false,false,false,false,false,false] rfl rfl (any_of HT_.out (by kernel_rfl)) (fun _ _ _ h => h) (Or.inl ⟨by rfl,?_⟩) ?_ ?_
     rotate_left
     ·intro w'
      go_simp
      with_reducible rfl
     rotate_left
     ·simp only [Act.put,List.setIfInBounds_toArray,List.set_cons_zero,List.set_cons_succ,i64_w,i32_w]
      rfl
     refine pure_ (i:=20) (N:=some 145) (v:=?_) (a':=?_) #[true,true,true,true,true,false,true,true,false,true,true,false,true,true,false,true,false,true,true,false,true,false,false,false,false,false,false,false] rfl rfl (any_of HT_.out (by kernel_rfl)) (fun _ _ _ h => h) (Or.inl ⟨by rfl,?_⟩) ?_ ?_
     rotate_left
     ·intro w'
      go_simp
      with_reducible rfl
     rotate_left
     ·simp only [Act.put,List.setIfInBounds_toArray,List.set_cons_zero,List.set_cons_succ,i64_w,i32_w]
      rfl
     refine pure_ (i:=21) (N:=some 146) (v:=?_) (a':=?_) #[true,true,true,true,true,false,true,true,false,true,true,false,true,true,false,true,false,true,true,false,true,true,false,false,false,false,false,false] rfl rfl (any_of HT_.out (by kernel_rfl)) (fun _ _ _ h => h) (Or.inl ⟨by rfl,?_⟩) ?_ ?_
     rotate_left
     ·intro w'
      go_simp
      with_reducible rfl
     rotate_left
     ·simp only [Act.put,List.setIfInBounds_toArray,List.set_cons_zero,List.set_cons_succ,i64_w,i32_w]
      rfl
     refine pure_ (i:=23) (N:=some 148) (v:=?_) (a':=?_) #[true,true,true,true,true,false,true,true,false,true,true,false,true,true,false,true,false,true,true,false,true,true,false,true,false,false,false,false] rfl rfl (any_of HT_.out (by kernel_rfl)) (fun _ _ _ h => h) (Or.inl ⟨by rfl,?_⟩) ?_ ?_
     rotate_left
     ·intro w'
      go_simp
      with_reducible rfl
     rotate_left
     ·simp only [Act.put,List.setIfInBounds_toArray,List.set_cons_zero,List.set_cons_succ,i64_w,i32_w]
      rfl
     refine pure_ (i:=24) (N:=some 149) (v:=?_) (a':=?_) #[true,true,true,true,true,false,true,true,false,true,true,false,true,true,false,true,false,true,true,false,true,true,false,true,true,false,false,false] rfl rfl (any_of HT_.out (by kernel_rfl)) (fun _ _ _ h => h) (Or.inl ⟨by rfl,?_⟩) ?_ ?_
     rotate_left
     ·intro w'
      go_simp
      with_reducible rfl
     rotate_left
     ·simp only [Act.put,List.setIfInBounds_toArray,List.set_cons_zero,List.set_cons_succ,i64_w,i32_w]
      rfl
     refine take_ (i:=5) (N:=some 130) (v:=?_) (a':=?_) #[true,true,true,true,true,true,true,true,false,true,true,false,true,true,false,true,false,true,true,false,true,true,false,true,true,false,false,false] rfl rfl (take_ofW HT_.out HW_.out (by kernel_rfl)) (fun _ _ _ h => h) (Or.inl ⟨by rfl,?_⟩) hHeld ?_ ?_
     rotate_left
     ·rintro w' ⟨s0,s1,s2,s3,s4,s5,s6⟩
      go_simp
      with_reducible rfl
     rotate_left
     ·simp only [Act.put,List.setIfInBounds_toArray,List.set_cons_zero,List.set_cons_succ,i64_w,i32_w]
      rfl
     refine take_ (i:=8) (N:=some 133) (v:=?_) (a':=?_) #[true,true,true,true,true,true,true,true,true,true,true,false,true,true,false,true,false,true,true,false,true,true,false,true,true,false,false,false] rfl rfl (take_ofW HT_.out HW_.out (by kernel_rfl)) (fun _ _ _ h => h) (Or.inl ⟨by rfl,?_⟩) hHeld ?_ ?_
     rotate_left
     ·rintro w' ⟨s0,s1,s2,s3,s4,s5,s6⟩
      go_simp
      with_reducible rfl
     rotate_left
     ·simp only [Act.put,List.setIfInBounds_toArray,List.set_cons_zero,List.set_cons_succ,i64_w,i32_w]
      rfl
     refine take_ (i:=11) (N:=some 136) (v:=?_) (a':=?_) #[true,true,true,true,true,true,true,true,true,true,true,true,true,true,false,true,false,true,true,false,true,true,false,true,true,false,false,false] rfl rfl (take_ofW HT_.out HW_.out (by kernel_rfl)) (fun _ _ _ h => h) (Or.inl ⟨by rfl,?_⟩) hHeld ?_ ?_
     rotate_left
     ·rintro w' ⟨s0,s1,s2,s3,s4,s5,s6⟩
      go_simp
      with_reducible rfl
     rotate_left
     ·simp only [Act.put,List.setIfInBounds_toArray,List.set_cons_zero,List.set_cons_succ,i64_w,i32_w]
      rfl
     refine take_ (i:=14) (N:=some 139) (v:=?_) (a':=?_) #[true,true,true,true,true,true,true,true,true,true,true,true,true,true,true,true,false,true,true,false,true,true,false,true,true,false,false,false] rfl rfl (take_ofW HT_.out HW_.out (by kernel_rfl)) (fun _ _ _ h => h) (Or.inl ⟨by rfl,?_⟩) hHeld ?_ ?_
     rotate_left
     ·rintro w' ⟨s0,s1,s2,s3,s4,s5,s6⟩
      go_simp
      with_reducible rfl
     rotate_left
     ·simp only [Act.put,List.setIfInBounds_toArray,List.set_cons_zero,List.set_cons_succ,i64_w,i32_w]
      rfl
     refine pure_ (i:=16) (N:=some 141) (v:=?_) (a':=?_) #[true,true,true,true,true,true,true,true,true,true,true,true,true,true,true,true,true,true,true,false,true,true,false,true,true,false,false,false] rfl rfl (any_of HT_.out (by kernel_rfl)) (fun _ _ _ h => h) (Or.inl ⟨by rfl,?_⟩) ?_ ?_
     rotate_left
     ·intro w'
      go_simp
      with_reducible rfl
     rotate_left
     ·simp only [Act.put,List.setIfInBounds_toArray,List.set_cons_zero,List.set_cons_succ,i64_w,i32_w]
      rfl
     refine take_ (i:=19) (N:=some 144) (v:=?_) (a':=?_) #[true,true,true,true,true,true,true,true,true,true,true,true,true,true,true,true,true,true,true,true,true,true,false,true,true,false,false,false] rfl rfl (take_ofW HT_.out HW_.out (by kernel_rfl)) (fun _ _ _ h => h) (Or.inl ⟨by rfl,?_⟩) hHeld ?_ ?_
     rotate_left
     ·rintro w' ⟨s0,s1,s2,s3,s4,s5,s6⟩
      go_simp
      with_reducible rfl
     rotate_left
     ·simp only [Act.put,List.setIfInBounds_toArray,List.set_cons_zero,List.set_cons_succ,i64_w,i32_w]
      rfl
     refine take_ (i:=22) (N:=some 147) (v:=?_) (a':=?_) #[true,true,true,true,true,true,true,true,true,true,true,true,true,true,true,true,true,true,true,true,true,true,true,true,true,false,false,false] rfl rfl (take_ofW HT_.out HW_.out (by kernel_rfl)) (fun _ _ _ h => h) (Or.inl ⟨by rfl,?_⟩) hHeld ?_ ?_
     rotate_left
     ·rintro w' ⟨s0,s1,s2,s3,s4,s5,s6⟩
      go_simp
      with_reducible rfl
     rotate_left
     ·simp only [Act.put,List.setIfInBounds_toArray,List.set_cons_zero,List.set_cons_succ,i64_w,i32_w]
      rfl
     refine take_ (i:=25) (N:=some 150) (v:=?_) (a':=?_) #[true,true,true,true,true,true,true,true,true,true,true,true,true,true,true,true,true,true,true,true,true,true,true,true,true,true,false,false] rfl rfl (take_ofW HT_.out HW_.out (by kernel_rfl)) (fun _ _ _ h => h) (Or.inl ⟨by rfl,?_⟩) hHeld ?_ ?_
     rotate_left
     ·rintro w' ⟨s0,s1,s2,s3,s4,s5,s6⟩
      go_simp
      with_reducible rfl
     rotate_left
     ·simp only [Act.put,List.setIfInBounds_toArray,List.set_cons_zero,List.set_cons_succ,i64_w,i32_w]
      rfl
     refine one_ (i:=26) (N:=some 151) #[true,true,true,true,true,true,true,true,true,true,true,true,true,true,true,true,true,true,true,true,true,true,true,true,true,true,true,false] rfl rfl (one_of HT_.out (by kernel_rfl)) (by decide) (fun K hK => ?_)
     refine Kd.R_lit_step (Kd.int .u32) _ 107 ?hg (N:=151) ?hd (xs:=([((((((((((rd x8_2 7) + (Go.bits .xor .u32 (Go.bits .xor .u32 t175 t177) t179)) % 4294967296) + (Go.bits .xor .u32 (Go.bits .and .u32 (rd x8_2 4) (rd x8_2 5)) (Go.bits .and .u32 (Go.bits .xor .u32 (rd x8_2 4) 4294967295) (rd x8_2 6)))) % 4294967296) + (rd t144 x9_2)) % 4294967296) + (rd t154 x9_2)) % 4294967296) + (((Go.bits .xor .u32 (Go.bits .xor .u32 t183 t185) t187) + (Go.bits .xor .u32 (Go.bits .xor .u32 (Go.bits .and .u32 (rd x8_2 0) (rd x8_2 1)) (Go.bits .and .u32 (rd x8_2 0) (rd x8_2 2))) (Go.bits .and .u32 (rd x8_2 1) (rd x8_2 2)))) % 4294967296)) % 4294967296,rd x8_2 0,rd x8_2 1,rd x8_2 2,((rd x8_2 3) + (((((((((rd x8_2 7) + (Go.bits .xor .u32 (Go.bits .xor .u32 t175 t177) t179)) % 4294967296) + (Go.bits .xor .u32 (Go.bits .and .u32 (rd x8_2 4) (rd x8_2 5)) (Go.bits .and .u32 (Go.bits .xor .u32 (rd x8_2 4) 4294967295) (rd x8_2 6)))) % 4294967296) + (rd t144 x9_2)) % 4294967296) + (rd t154 x9_2)) % 4294967296)) % 4294967296,rd x8_2 4,rd x8_2 5,rd x8_2 6] : List Int)) (inner:=[.int .u32 (((((((((((rd x8_2 7) + (Go.bits .xor .u32 (Go.bits .xor .u32 t175 t177) t179)) % 4294967296) + (Go.bits .xor .u32 (Go.bits .and .u32 (rd x8_2 4) (rd x8_2 5)) (Go.bits .and .u32 (Go.bits .xor .u32 (rd x8_2 4) 4294967295) (rd x8_2 6)))) % 4294967296) + (rd t144 x9_2)) % 4294967296) + (rd t154 x9_2)) % 4294967296) + (((Go.bits .xor .u32 (Go.bits .xor .u32 t183 t185) t187) + (Go.bits .xor .u32 (Go.bits .xor .u32 (Go.bits .and .u32 (rd x8_2 0) (rd x8_2 1)) (Go.bits .and .u32 (rd x8_2 0) (rd x8_2 2))) (Go.bits .and .u32 (rd x8_2 1) (rd x8_2 2)))) % 4294967296)) % 4294967296),.int .u32 (rd x8_2 0),.int .u32 (rd x8_2 1),.int .u32 (rd x8_2 2),.int .u32 (((rd x8_2 3) + (((((((((rd x8_2 7) + (Go.bits .xor .u32 (Go.bits .xor .u32 t175 t177) t179)) % 4294967296) + (Go.bits .xor .u32 (Go.bits .and .u32 (rd x8_2 4) (rd x8_2 5)) (Go.bits .and .u32 (Go.bits .xor .u32 (rd x8_2 4) 4294967295) (rd x8_2 6)))) % 4294967296) + (rd t144 x9_2)) % 4294967296) + (rd t154 x9_2)) % 4294967296)) % 4294967296),.int .u32 (rd x8_2 4),.int .u32 (rd x8_2 5),.int .u32 (rd x8_2 6)]) (ok:=fun _ => True) (okp:=fun _ => True) ?hr ?hp (fun _ hk => hk) trivial (Below.refl _ _) (Nat.le_refl _) (by simp) ?_;(case hd => rfl);(case hg => rfl);(case hr => as_aux_lemma => kernel_rfl);(case hp => exact (Reps.one (show Kd.M (Kd.int .u32) _ _ _ (((((((((((rd x8_2 7) + (Go.bits .xor .u32 (Go.bits .xor .u32 t175 t177) t179)) % 4294967296) + (Go.bits .xor .u32 (Go.bits .and .u32 (rd x8_2 4) (rd x8_2 5)) (Go.bits .and .u32 (Go.bits .xor .u32 (rd x8_2 4) 4294967295) (rd x8_2 6)))) % 4294967296) + (rd t144 x9_2)) % 4294967296) + (rd t154 x9_2)) % 4294967296) + (((Go.bits .xor .u32 (Go.bits .xor .u32 t183 t185) t187) + (Go.bits .xor .u32 (Go.bits .xor .u32 (Go.bits .and .u32 (rd x8_2 0) (rd x8_2 1)) (Go.bits .and .u32 (rd x8_2 0) (rd x8_2 2))) (Go.bits .and .u32 (rd x8_2 1) (rd x8_2 2)))) % 4294967296)) % 4294967296) [.int .u32 (((((((((((rd x8_2 7) + (Go.bits .xor .u32 (Go.bits .xor .u32 t175 t177) t179)) % 4294967296) + (Go.bits .xor .u32 (Go.bits .and .u32 (rd x8_2 4) (rd x8_2 5)) (Go.bits .and .u32 (Go.bits .xor .u32 (rd x8_2 4) 4294967295) (rd x8_2 6)))) % 4294967296) + (rd t144 x9_2)) % 4294967296) + (rd t154 x9_2)) % 4294967296) + (((Go.bits .xor .u32 (Go.bits .xor .u32 t183 t185) t187) + (Go.bits .xor .u32 (Go.bits .xor .u32 (Go.bits .and .u32 (rd x8_2 0) (rd x8_2 1)) (Go.bits .and .u32 (rd x8_2 0) (rd x8_2 2))) (Go.bits .and .u32 (rd x8_2 1) (rd x8_2 2)))) % 4294967296)) % 4294967296)] from rfl) (Reps.one (show Kd.M (Kd.int .u32) _ _ _ (rd x8_2 0) [.int .u32 (rd x8_2 0)] from rfl) (Reps.one (show Kd.M (Kd.int .u32) _ _ _ (rd x8_2 1) [.int .u32 (rd x8_2 1)] from rfl) (Reps.one (show Kd.M (Kd.int .u32) _ _ _ (rd x8_2 2) [.int .u32 (rd x8_2 2)] from rfl) (Reps.one (show Kd.M (Kd.int .u32) _ _ _ (((rd x8_2 3) + (((((((((rd x8_2 7) + (Go.bits .xor .u32 (Go.bits .xor .u32 t175 t177) t179)) % 4294967296) + (Go.bits .xor .u32 (Go.bits .and .u32 (rd x8_2 4) (rd x8_2 5)) (Go.bits .and .u32 (Go.bits .xor .u32 (rd x8_2 4) 4294967295) (rd x8_2 6)))) % 4294967296) + (rd t144 x9_2)) % 4294967296) + (rd t154 x9_2)) % 4294967296)) % 4294967296) [.int .u32 (((rd x8_2 3) + (((((((((rd x8_2 7) + (Go.bits .xor .u32 (Go.bits .xor .u32 t175 t177) t179)) % 4294967296) + (Go.bits .xor .u32 (Go.bits .and .u32 (rd x8_2 4) (rd x8_2 5)) (Go.bits .and .u32 (Go.bits .xor .u32 (rd x8_2 4) 4294967295) (rd x8_2 6)))) % 4294967296) + (rd t144 x9_2)) % 4294967296) + (rd t154 x9_2)) % 4294967296)) % 4294967296)] from rfl) (Reps.one (show Kd.M (Kd.int .u32) _ _ _ (rd x8_2 4) [.int .u32 (rd x8_2 4)] from rfl) (Reps.one (show Kd.M (Kd.int .u32) _ _ _ (rd x8_2 5) [.int .u32 (rd x8_2 5)] from rfl) (Reps.one (show Kd.M (Kd.int .u32) _ _ _ (rd x8_2 6) [.int .u32 (rd x8_2 6)] from rfl) (Reps.none _ _))))))))))
     intro v196 w47 ho48 hb hg_ hnew_
     have HS0_:=(hb.cell (World.block_lt_of_cell? _ _ (hHeld.1))).trans (hHeld.1)
     have HS1_:=(hb.cell (World.block_lt_of_cell? _ _ (hHeld.2.1))).trans (hHeld.2.1)
     have HS2_:=(hb.cell (World.block_lt_of_cell? _ _ (hHeld.2.2.1))).trans (hHeld.2.2.1)
     have HS3_:=(hb.cell (World.block_lt_of_cell? _ _ (hHeld.2.2.2.1))).trans (hHeld.2.2.2.1)
     have HS4_:=(hb.cell (World.block_lt_of_cell? _ _ (hHeld.2.2.2.2.1))).trans (hHeld.2.2.2.2.1)
     have HS5_:=(hb.cell (World.block_lt_of_cell? _ _ (hHeld.2.2.2.2.2.1))).trans (hHeld.2.2.2.2.2.1)
     have HS6_:=(hb.cell (World.block_lt_of_cell? _ _ (hHeld.2.2.2.2.2.2))).trans (hHeld.2.2.2.2.2.2)
     clear hg_ hnew_
     (first|rw [← Ny195.out] at ho48|(simp only [Int.reduceToNat] at ho48;rw [← Ny195.out] at ho48))
     have n0_:=Aside0.mk (Kd.R_elder' (by (with_reducible repeat (first|apply Kd.R_alloc|apply Kd.R_drewN|apply Kd.R_drew));exact HO_3.out) (Kd.R_base ho48) hb)
     have n1_:=Aside0.mk (Kd.R_elder' (by (with_reducible repeat (first|apply Kd.R_alloc|apply Kd.R_drewN|apply Kd.R_drew));exact HO_4.out) (Kd.R_base ho48) hb)
     have n2_:=Aside0.mk (Kd.R_below (by (with_reducible repeat (first|apply Kd.R_alloc|apply Kd.R_drewN|apply Kd.R_drew));exact HO_5.out) hb)
     have n3_:=Aside0.mk (Kd.R_elder' (by (with_reducible repeat (first|apply Kd.R_alloc|apply Kd.R_drewN|apply Kd.R_drew));exact HO_7.out) (Kd.R_base ho48) hb)
     have n4_:=Aside0.mk (Kd.R_elder' (by (with_reducible repeat (first|apply Kd.R_alloc|apply Kd.R_drewN|apply Kd.R_drew));exact HO_8.out) (Kd.R_base ho48) hb)
     have n5_:=Aside0.mk (Kd.R_lower (Kd.R_new' (Kd.R_new' (Kd.R_new' (Kd.R_new' ho48 (Kd.R_lt (by (with_reducible repeat (first|apply Kd.R_alloc|apply Kd.R_drewN|apply Kd.R_drew));exact HO_3.out))) (Kd.R_lt (by (with_reducible repeat (first|apply Kd.R_alloc|apply Kd.R_drewN|apply Kd.R_drew));exact HO_4.out))) (Kd.R_lt (by (with_reducible repeat (first|apply Kd.R_alloc|apply Kd.R_drewN|apply Kd.R_drew));exact HO_7.out))) (Kd.R_lt (by (with_reducible repeat (first|apply Kd.R_alloc|apply Kd.R_drewN|apply Kd.R_drew));exact HO_8.out))) (below_size (by repeat (first|(with_reducible first|exact HB.out|apply below_alloc|apply pw_below_drewN|apply below_drew1)|exact HB.out))))
     have n6_:=Aside0.mk (below_step (by repeat (first|(with_reducible first|exact HB.out|apply below_alloc|apply pw_below_drewN|apply below_drew1)|exact HB.out)) hb)
     clear HO_3
     clear HO_4
     clear HO_5
     clear HO_7
     clear HO_8
     clear HB
     have HO_3:=n0_
     have HO_4:=n1_
     have HO_5:=n2_
     have HO_7:=n3_
     have HO_8:=n4_
     have HO197:=n5_
     have HB:=n6_
     clear n0_ n1_ n2_ n3_ n4_ n5_ n6_
     clear hb ho48
     refine hK.out _ _ ⟨HS0_,HS1_,HS2_,HS3_,HS4_,HS5_,HS6_⟩ (fun hHeld => ?_)
     clear hK K
     refine norm_ (a':=?_) ?_ ?_
     rotate_left
     ·show Act.put _ (some 151) _ = _
      simp only [Act.put,List.setIfInBounds_toArray,List.set_cons_zero,List.set_cons_succ,i64_w,i32_w]
      rfl
     refine pure_ (i:=27) (N:=some 8) (v:=?_) (a':=?_) #[true,true,true,true,true,true,true,true,true,true,true,true,true,true,true,true,true,true,true,true,true,true,true,true,true,true,true,true] rfl rfl (any_of HT_.out (by kernel_rfl)) (fun _ _ _ h => h) (Or.inl ⟨by rfl,?_⟩) ?_ ?_
     rotate_left
     ·intro w'
      go_simp
      with_reducible rfl
     rotate_left
     ·simp only [Act.put,List.setIfInBounds_toArray,List.set_cons_zero,List.set_cons_succ,i64_w,i32_w]
      rfl
     refine done_ (done_of HT_.out (by kernel_rfl)) ?_
     try go_wp2
     go_roundg k2
     case measure => have:=HK1.out;have:=HK2.out;omega
     case rel => exact ⟨(y195),(wrap64 (x9_2 + 1)),(by first|rfl|(simp;done)|(simp;decide +kernel)|(simp [*];done)),(by first|exact H'|(subst_vars;exact H')),⟨by have:=HK1.out;have:=HK2.out;omega⟩,⟨by (with_reducible repeat (first|apply Kd.R_alloc|apply Kd.R_drewN|apply Kd.R_drew));exact Kd.R_mono HO_3.out (fun _ hk => ⟨hk.1.1,⟨hk.1.2.1,hk.2⟩⟩)⟩,⟨by (with_reducible repeat (first|apply Kd.R_alloc|apply Kd.R_drewN|apply Kd.R_drew));exact Kd.R_mono HO_4.out (fun _ hk => ⟨hk.1.1,⟨hk.1.2.1,hk.2⟩⟩)⟩,⟨by (with_reducible repeat (first|apply Kd.R_alloc|apply Kd.R_drewN|apply Kd.R_drew));exact HO_5.out⟩,⟨by (with_reducible repeat (first|apply Kd.R_alloc|apply Kd.R_drewN|apply Kd.R_drew));exact Kd.R_mono HO_7.out (fun _ hk => ⟨hk.1.1,⟨hk.1.2.1,hk.2⟩⟩)⟩,⟨by (with_reducible repeat (first|apply Kd.R_alloc|apply Kd.R_drewN|apply Kd.R_drew));exact Kd.R_mono HO197.out (fun _ hk => ⟨hk.1.1.1.2,⟨hk.1.1.2,hk.1.2⟩⟩)⟩,⟨by repeat (first|(with_reducible first|exact HB.out|apply below_alloc|apply pw_below_drewN|apply below_drew1)|exact HB.out)⟩⟩end Go.Proofs.YtedfgkjimnjdpaaDoor.X
namespace Go.Proofs.YtedfgkjimnjdpaaDoor.X
open Go.RowKit Go.Proofs.YtedfgkjimnjdpaaDoorW.PrintWords Go.Proofs.YtedfgkjimnjdpaaDoorW.PrintLast Go.Proofs.YtedfgkjimnjdpaaDoorW.PrintMore
attribute [local go_sem] max2_int min2_int max_two min_two max_three min_three max_four min_four
set_option linter.unusedVariables false
set_option linter.unusedSimpArgs false
def racewayref22_Hex.l0 : Nat → List Int → ByteArray → Int → Option (ByteArray)
 | 0,_,_,_ => none
 | k + 1,x0,x3,x4 => if x4 < (x0.length : Int) then (if 0 ≤ x4 then (if 0 ≤ (wrap64 (Int.tdiv (wrap64 (rd x0 x4)) 16)) then (if (wrap64 (Int.tdiv (wrap64 (rd x0 x4)) 16)) ≤ (wrap64 ((wrap64 (Int.tdiv (wrap64 (rd x0 x4)) 16)) + 1)) then (if (wrap64 ((wrap64 (Int.tdiv (wrap64 (rd x0 x4)) 16)) + 1)) ≤ 16 then (if x3.size + ((⟨#[48,49,50,51,52,53,54,55,56,57,97,98,99,100,101,102]⟩ : ByteArray).extract ((wrap64 (Int.tdiv (wrap64 (rd x0 x4)) 16)) : Int).toNat ((wrap64 ((wrap64 (Int.tdiv (wrap64 (rd x0 x4)) 16)) + 1)) : Int).toNat).size ≤ 9223372036854775807 then (if 0 ≤ (Int.tmod (wrap64 (rd x0 x4)) 16) then (if (Int.tmod (wrap64 (rd x0 x4)) 16) ≤ (wrap64 ((Int.tmod (wrap64 (rd x0 x4)) 16) + 1)) then (if (wrap64 ((Int.tmod (wrap64 (rd x0 x4)) 16) + 1)) ≤ 16 then (if x3.size + (((⟨#[48,49,50,51,52,53,54,55,56,57,97,98,99,100,101,102]⟩ : ByteArray).extract ((wrap64 (Int.tdiv (wrap64 (rd x0 x4)) 16)) : Int).toNat ((wrap64 ((wrap64 (Int.tdiv (wrap64 (rd x0 x4)) 16)) + 1)) : Int).toNat).size) + ((⟨#[48,49,50,51,52,53,54,55,56,57,97,98,99,100,101,102]⟩ : ByteArray).extract ((Int.tmod (wrap64 (rd x0 x4)) 16) : Int).toNat ((wrap64 ((Int.tmod (wrap64 (rd x0 x4)) 16) + 1)) : Int).toNat).size ≤ 9223372036854775807 then (racewayref22_Hex.l0 k x0 ((x3 ++ ((⟨#[48,49,50,51,52,53,54,55,56,57,97,98,99,100,101,102]⟩ : ByteArray).extract ((wrap64 (Int.tdiv (wrap64 (rd x0 x4)) 16)) : Int).toNat ((wrap64 ((wrap64 (Int.tdiv (wrap64 (rd x0 x4)) 16)) + 1)) : Int).toNat)) ++ ((⟨#[48,49,50,51,52,53,54,55,56,57,97,98,99,100,101,102]⟩ : ByteArray).extract ((Int.tmod (wrap64 (rd x0 x4)) 16) : Int).toNat ((wrap64 ((Int.tmod (wrap64 (rd x0 x4)) 16) + 1)) : Int).toNat)) (wrap64 (x4 + 1))) else (none)) else (none)) else (none)) else (none)) else (none)) else (none)) else (none)) else (none)) else (none)) else (some x3)
def racewayref22_Hex.f (k : Nat) (l0 : List Int) : Option (ByteArray):=racewayref22_Hex.l0 k l0 (⟨#[]⟩ : ByteArray) 0
set_option maxHeartbeats 8000000 in
set_option maxRecDepth 100000 in
theorem racewayref22_Hex.calls (k : Nat) (A0 : Option Addr) (c0 : Nat) (l0 : List Int) (r : ByteArray) (w : World) (hr0 : Kd.C (Kd.int .u8) w A0 l0.length l0) (hc0 : l0.length ≤ c0) (h : racewayref22_Hex.f k l0 = some r) :
  Calls Tryd.prog 64 #[.slice A0 l0.length c0] w fun e w' => e = .returned (.string r) ∧ Drawn0 w w':=by
 have HR0:=Aside0.mk hr0
 have HC0:=Aside0.mk hc0
 clear hr0 hc0
 have H : (racewayref22_Hex.l0 k l0 (⟨#[]⟩ : ByteArray) 0) = some r:=h
 clear h
 have H':=Aside0.mk H
 clear H
 go_enter Tryd.func64,Tryd.ntmps64
 go_wp2
 repeat (go_quiet (fail);try go_wp2)
 go_loopg [3,4] k (fun kq v3 v4 w' => ∃ (x3_1 : ByteArray) (x4_1 : Int),v3 = .string x3_1 ∧ v4 = .int .i64 x4_1 ∧ Aside0 (racewayref22_Hex.l0 kq l0 x3_1 x4_1 = some r) ∧ Aside0 (kq ≤ k) ∧ Drawn0 w w')
 case atStart => exact ⟨((⟨#[]⟩ : ByteArray)),(0),(by first|rfl|(simp;done)|(simp;decide +kernel)|(simp [*];done)),(by first|rfl|(simp;done)|(simp;decide +kernel)|(simp [*];done)),(by first|exact H'|(subst_vars;exact H')),⟨Nat.le_refl _⟩,by repeat (first|exact Drawn0.refl _|apply Drawn0.step)⟩
 case round =>
  clear H'
  obtain ⟨x3_1,x4_1,rfl,rfl,HA,HK1,⟨m1,rfl⟩⟩:=hrel
  cases gk with
  | zero => exact absurd HA.out (by simp [racewayref22_Hex.l0])
  | succ k1 =>
   have H:=HA.out
   clear HA
   simp only [racewayref22_Hex.l0] at H
   by_cases c2 : x4_1 < (l0.length : Int)
   ·rw [if_pos c2] at H
    have c2b0 : decide (x4_1 < (l0.length : Int)) = true:=decide_eq_true c2
    clear c2
    by_cases c3 : 0 ≤ x4_1
    ·rw [if_pos c3] at H
     have c3b0 : decide (0 ≤ x4_1) = true:=decide_eq_true c3
     clear c3
     obtain ⟨ji4,hji4⟩ : ∃ j_ : Int,(wrap64 (Int.tdiv (wrap64 (rd l0 x4_1)) 16)) = j_:=⟨_,rfl⟩
     replace H : (if 0 ≤ (ji4) then (if (ji4) ≤ (wrap64 ((ji4) + 1)) then (if (wrap64 ((ji4) + 1)) ≤ 16 then (if x3_1.size + ((⟨#[48,49,50,51,52,53,54,55,56,57,97,98,99,100,101,102]⟩ : ByteArray).extract ((ji4) : Int).toNat ((wrap64 ((ji4) + 1)) : Int).toNat).size ≤ 9223372036854775807 then (if 0 ≤ (Int.tmod (wrap64 (rd l0 x4_1)) 16) then (if (Int.tmod (wrap64 (rd l0 x4_1)) 16) ≤ (wrap64 ((Int.tmod (wrap64 (rd l0 x4_1)) 16) + 1)) then (if (wrap64 ((Int.tmod (wrap64 (rd l0 x4_1)) 16) + 1)) ≤ 16 then (if x3_1.size + (((⟨#[48,49,50,51,52,53,54,55,56,57,97,98,99,100,101,102]⟩ : ByteArray).extract ((ji4) : Int).toNat ((wrap64 ((ji4) + 1)) : Int).toNat).size) + ((⟨#[48,49,50,51,52,53,54,55,56,57,97,98,99,100,101,102]⟩ : ByteArray).extract ((Int.tmod (wrap64 (rd l0 x4_1)) 16) : Int).toNat ((wrap64 ((Int.tmod (wrap64 (rd l0 x4_1)) 16) + 1)) : Int).toNat).size ≤ 9223372036854775807 then (racewayref22_Hex.l0 k1 l0 ((x3_1 ++ ((⟨#[48,49,50,51,52,53,54,55,56,57,97,98,99,100,101,102]⟩ : ByteArray).extract ((ji4) : Int).toNat ((wrap64 ((ji4) + 1)) : Int).toNat)) ++ ((⟨#[48,49,50,51,52,53,54,55,56,57,97,98,99,100,101,102]⟩ : ByteArray).extract ((Int.tmod (wrap64 (rd l0 x4_1)) 16) : Int).toNat ((wrap64 ((Int.tmod (wrap64 (rd l0 x4_1)) 16) + 1)) : Int).toNat)) (wrap64 (x4_1 + 1))) else (none)) else (none)) else (none)) else (none)) else (none)) else (none)) else (none)) else (none)) = some r:=by first|(rw [hji4] at H;exact H)|(simp only [hji4] at H ⊢;exact H)
     have hji4w : (IntKind.i64.wrap (Int.tdiv (wrap64 (rd l0 x4_1)) 16)) = ji4:=(i64_w _).trans hji4
     by_cases c5 : 0 ≤ (ji4)
     ·rw [if_pos c5] at H
      have c5b0:=eq_true c5
      have c5b1 : decide (0 ≤ (ji4)) = true:=decide_eq_true c5
      clear c5
      by_cases c6 : (ji4) ≤ (wrap64 ((ji4) + 1))
      ·rw [if_pos c6] at H
       have c6b0:=eq_true c6
       have c6b1 : decide ((ji4) ≤ (wrap64 ((ji4) + 1))) = true:=decide_eq_true c6
       by_cases c7 : (wrap64 ((ji4) + 1)) ≤ 16
       ·rw [if_pos c7] at H
        have c7b0:=eq_true c7
        have c7b1 : decide ((wrap64 ((ji4) + 1)) ≤ 16) = true:=decide_eq_true c7
        by_cases c8 : x3_1.size + ((⟨#[48,49,50,51,52,53,54,55,56,57,97,98,99,100,101,102]⟩ : ByteArray).extract ((ji4) : Int).toNat ((wrap64 ((ji4) + 1)) : Int).toNat).size ≤ 9223372036854775807
        ·rw [if_pos c8] at H
         have c8b0:=eq_true c8
         have c8b1 : decide (x3_1.size + ((⟨#[48,49,50,51,52,53,54,55,56,57,97,98,99,100,101,102]⟩ : ByteArray).extract ((ji4) : Int).toNat ((wrap64 ((ji4) + 1)) : Int).toNat).size ≤ 9223372036854775807) = true:=decide_eq_true c8
         try have c8b2 : (9223372036854775807 < x3_1.size + ((⟨#[48,49,50,51,52,53,54,55,56,57,97,98,99,100,101,102]⟩ : ByteArray).extract ((ji4) : Int).toNat ((wrap64 ((ji4) + 1)) : Int).toNat).size) = False:=eq_false (Nat.not_lt.2 c8)
         obtain ⟨ji9,hji9⟩ : ∃ j_ : Int,(Int.tmod (wrap64 (rd l0 x4_1)) 16) = j_:=⟨_,rfl⟩
         replace H : (if 0 ≤ (ji9) then (if (ji9) ≤ (wrap64 ((ji9) + 1)) then (if (wrap64 ((ji9) + 1)) ≤ 16 then (if x3_1.size + (((⟨#[48,49,50,51,52,53,54,55,56,57,97,98,99,100,101,102]⟩ : ByteArray).extract ((ji4) : Int).toNat ((wrap64 ((ji4) + 1)) : Int).toNat).size) + ((⟨#[48,49,50,51,52,53,54,55,56,57,97,98,99,100,101,102]⟩ : ByteArray).extract ((ji9) : Int).toNat ((wrap64 ((ji9) + 1)) : Int).toNat).size ≤ 9223372036854775807 then (racewayref22_Hex.l0 k1 l0 ((x3_1 ++ ((⟨#[48,49,50,51,52,53,54,55,56,57,97,98,99,100,101,102]⟩ : ByteArray).extract ((ji4) : Int).toNat ((wrap64 ((ji4) + 1)) : Int).toNat)) ++ ((⟨#[48,49,50,51,52,53,54,55,56,57,97,98,99,100,101,102]⟩ : ByteArray).extract ((ji9) : Int).toNat ((wrap64 ((ji9) + 1)) : Int).toNat)) (wrap64 (x4_1 + 1))) else (none)) else (none)) else (none)) else (none)) = some r:=by first|(rw [hji9] at H;exact H)|(simp only [hji9] at H ⊢;exact H)
         by_cases c10 : 0 ≤ (ji9)
         ·rw [if_pos c10] at H
          have c10b0:=eq_true c10
          have c10b1 : decide (0 ≤ (ji9)) = true:=decide_eq_true c10
          clear c10
          by_cases c11 : (ji9) ≤ (wrap64 ((ji9) + 1))
          ·rw [if_pos c11] at H
           have c11b0:=eq_true c11
           have c11b1 : decide ((ji9) ≤ (wrap64 ((ji9) + 1))) = true:=decide_eq_true c11
           by_cases c12 : (wrap64 ((ji9) + 1)) ≤ 16
           ·rw [if_pos c12] at H
            have c12b0:=eq_true c12
            have c12b1 : decide ((wrap64 ((ji9) + 1)) ≤ 16) = true:=decide_eq_true c12
            by_cases c13 : x3_1.size + (((⟨#[48,49,50,51,52,53,54,55,56,57,97,98,99,100,101,102]⟩ : ByteArray).extract ((ji4) : Int).toNat ((wrap64 ((ji4) + 1)) : Int).toNat).size) + ((⟨#[48,49,50,51,52,53,54,55,56,57,97,98,99,100,101,102]⟩ : ByteArray).extract ((ji9) : Int).toNat ((wrap64 ((ji9) + 1)) : Int).toNat).size ≤ 9223372036854775807
            ·rw [if_pos c13] at H
             have c13b0:=eq_true c13
             have c13b1 : decide (x3_1.size + (((⟨#[48,49,50,51,52,53,54,55,56,57,97,98,99,100,101,102]⟩ : ByteArray).extract ((ji4) : Int).toNat ((wrap64 ((ji4) + 1)) : Int).toNat).size) + ((⟨#[48,49,50,51,52,53,54,55,56,57,97,98,99,100,101,102]⟩ : ByteArray).extract ((ji9) : Int).toNat ((wrap64 ((ji9) + 1)) : Int).toNat).size ≤ 9223372036854775807) = true:=decide_eq_true c13
             try have c13b2 : (9223372036854775807 < x3_1.size + (((⟨#[48,49,50,51,52,53,54,55,56,57,97,98,99,100,101,102]⟩ : ByteArray).extract ((ji4) : Int).toNat ((wrap64 ((ji4) + 1)) : Int).toNat).size) + ((⟨#[48,49,50,51,52,53,54,55,56,57,97,98,99,100,101,102]⟩ : ByteArray).extract ((ji9) : Int).toNat ((wrap64 ((ji9) + 1)) : Int).toNat).size) = False:=eq_false (Nat.not_lt.2 c13)
             have g8_ : (9223372036854775807 < x3_1.size + ((wrap64 (ji4 + 1)).toNat - ji4.toNat)) = False:=eq_false (by have h_:=c8;have b_:=c7;simp only [ByteArray.size_extract,show (⟨#[48,49,50,51,52,53,54,55,56,57,97,98,99,100,101,102]⟩ : ByteArray).size = 16 from rfl] at h_;omega)
             have g13_ : (9223372036854775807 < x3_1.size + ((wrap64 (ji4 + 1)).toNat - ji4.toNat) + ((wrap64 (ji9 + 1)).toNat - ji9.toNat)) = False:=eq_false (by have h_:=c13;have b_:=c7;have d_:=c12;simp only [ByteArray.size_extract,show (⟨#[48,49,50,51,52,53,54,55,56,57,97,98,99,100,101,102]⟩ : ByteArray).size = 16 from rfl] at h_;omega)
             have H':=Aside0.mk H
             clear H
             have p189 : 0 ≤ (x4_1 : Int):=of_decide_eq_true (by first|(with_reducible assumption)|assumption)
             have q189 : x4_1 < (l0.length : Int):=of_decide_eq_true (by first|(with_reducible assumption)|assumption)
             obtain ⟨ad189,e189,hx189_0⟩:=Kd.at_int HR0.out x4_1 p189 q189
             cases e189
             replace p189:=eq_true p189
             replace q189:=eq_true q189
             have p190 : 0 ≤ (x4_1 : Int):=of_decide_eq_true (by first|(with_reducible assumption)|assumption)
             have q190 : x4_1 < (l0.length : Int):=of_decide_eq_true (by first|(with_reducible assumption)|assumption)
             obtain ⟨ad190,e190,hx190_0⟩:=Kd.at_int HR0.out x4_1 p190 q190
             obtain rfl : ad189 = ad190:=(by injection e190)
             replace p190:=eq_true p190
             replace q190:=eq_true q190
             go_wp2
             repeat (go_quiet (fail);try go_wp2)
             go_roundg k1
             case measure => have:=HK1.out;omega
             case rel => exact ⟨((x3_1 ++ ((⟨#[48,49,50,51,52,53,54,55,56,57,97,98,99,100,101,102]⟩ : ByteArray).extract ((ji4) : Int).toNat ((wrap64 ((ji4) + 1)) : Int).toNat)) ++ ((⟨#[48,49,50,51,52,53,54,55,56,57,97,98,99,100,101,102]⟩ : ByteArray).extract ((ji9) : Int).toNat ((wrap64 ((ji9) + 1)) : Int).toNat)),(wrap64 (x4_1 + 1)),(by first|rfl|(simp;done)|(simp only [← hji4,← hji9] <;> (first|rfl|simp))|(simp [*];done)),(by first|rfl|(simp;done)|(simp;decide +kernel)|(simp [*];done)),(by first|exact H'|(subst_vars;exact H')),⟨by have:=HK1.out;omega⟩,by repeat (first|exact Drawn0.refl _|apply Drawn0.step)⟩
            ·rw [if_neg c13] at H
             exact absurd H (by simp)
           ·rw [if_neg c12] at H
            exact absurd H (by simp)
          ·rw [if_neg c11] at H
           exact absurd H (by simp)
         ·rw [if_neg c10] at H
          exact absurd H (by simp)
        ·rw [if_neg c8] at H
         exact absurd H (by simp)
       ·rw [if_neg c7] at H
        exact absurd H (by simp)
      ·rw [if_neg c6] at H
       exact absurd H (by simp)
     ·rw [if_neg c5] at H
      exact absurd H (by simp)
    ·rw [if_neg c3] at H
     exact absurd H (by simp)
   ·rw [if_neg c2] at H
    have c2b0 : decide (x4_1 < (l0.length : Int)) = false:=decide_eq_false c2
    clear c2
    obtain rfl:=Option.some.inj H
    go_wp2
    repeat (go_quiet (fail);try go_wp2)
    go_ret
    exact ⟨by first|rfl|(simp;done)|(simp;decide +kernel)|(simp [*];done),by repeat (first|exact Drawn0.refl _|apply Drawn0.step)⟩
end Go.Proofs.YtedfgkjimnjdpaaDoor.X
namespace Go.Proofs.YtedfgkjimnjdpaaDoor.X
open Go.RowKit Go.Proofs.YtedfgkjimnjdpaaDoorW.PrintWords Go.Proofs.YtedfgkjimnjdpaaDoorW.PrintLast Go.Proofs.YtedfgkjimnjdpaaDoorW.PrintMore
set_option linter.unusedVariables false
set_option linter.unusedSimpArgs false
def dashAt (i : Nat) : Bool:=i == 8 || i == 12 || i == 16 || i == 20
def idOut (h : ByteArray) : Nat → ByteArray
 | 0 => ⟨#[]⟩
 | i + 1 => (if dashAt i then idOut h i ++ ⟨#[45]⟩ else idOut h i) ++ h.extract i (i + 1)
theorem idOut_size (h : ByteArray) : ∀ i,(idOut h i).size ≤ 2 * i
 | 0 => Nat.le_refl _
 | i + 1 => by
  have:=idOut_size h i
  unfold idOut
  rw [ByteArray.size_append,ByteArray.size_extract]
  split
  ·rw [ByteArray.size_append]
   show _ + 1 + _ ≤ _
   omega
  ·omega
def idBytes (s0 a1 s2 : ByteArray) : ByteArray:=s0 ++ ⟨#[47]⟩ ++ a1 ++ ⟨#[47]⟩ ++ s2 ++ ⟨#[47]⟩
def racewayref27_Id.f (k : Nat) (a0 : Int) (a1 : ByteArray) (a2 : Int) : Option ByteArray :=
 (racewayref22_Itoa.f k a0).bind fun s0 => (racewayref22_Itoa.f k a2).bind fun s2 =>
  if s0.size ≤ 100000 ∧ a1.size ≤ 100000 ∧ s2.size ≤ 100000 then
   (racewayref03_Of.f k (bytesOf (idBytes s0 a1 s2))).bind fun d => (racewayref22_Hex.f k d).bind fun h =>
    if 32 ≤ h.size then some (idOut h 32) else none
  else none
set_option maxHeartbeats 4000000 in
set_option maxRecDepth 100000 in
theorem racewayref27_Id.calls (k : Nat) (a0 : Int) (a1 : ByteArray) (a2 : Int) (r : ByteArray) (w : World) (h : racewayref27_Id.f k a0 a1 a2 = some r) :
  Calls Tryd.prog 26 #[.int .i64 a0,.string a1,.int .i64 a2] w fun e w' => e = .returned (.string r) ∧ Below w.heap.size w w':=by
 unfold racewayref27_Id.f at h
 obtain ⟨s0,h0,h⟩:=Option.bind_eq_some_iff.mp h
 obtain ⟨s2,h2,h⟩:=Option.bind_eq_some_iff.mp h
 split at h
 ·rename_i hsz
  obtain ⟨d,hd,h⟩:=Option.bind_eq_some_iff.mp h
  obtain ⟨x,hx,h⟩:=Option.bind_eq_some_iff.mp h
  split at h
  ·rename_i h32
   obtain rfl:=Option.some.inj h
   obtain ⟨hz0,hz1,hz2⟩:=hsz
   obtain ⟨t,htt⟩ : ∃ t,idBytes s0 a1 s2 = t:=⟨_,rfl⟩
   rw [htt] at hd
   have hts : t.size ≤ 400000:=by
    rw [← htt]
    unfold idBytes
    simp only [ByteArray.size_append]
    show s0.size + 1 + a1.size + 1 + s2.size + 1 ≤ _
    omega
   have H0:=Lib.hid h0
   have H2:=Lib.hid h2
   have HD:=Lib.hid hd
   have HX:=Lib.hid hx
   have HT:=Lib.hid htt
   clear h0 h2 hd hx htt h
   go_enter Tryd.func26,Tryd.ntmps26
   have e1 : (s0 ++ (⟨#[47]⟩ : ByteArray)).size = s0.size + 1:=by rw [ByteArray.size_append];rfl
   go_wp2_with (first|(go_at_call 63;(with_reducible refine (racewayref22_Itoa.calls k a0 s0 _ H0.out).mono ?_);rintro e w1 ⟨rfl,hb1⟩)|(go_at_call 63;(with_reducible refine (racewayref22_Itoa.calls k a2 s2 _ H2.out).mono ?_);rintro e w2 ⟨rfl,hb2⟩))
   have hb2' : Below w.heap.size w w2:=by
    obtain ⟨n1,rfl⟩:=hb1.out
    obtain ⟨n2,rfl⟩:=hb2.out
    exact ⟨rfl,rfl,rfl,Nat.le_refl _,fun _ _ => rfl⟩
   have hcv:=Lib.run_convert_string_bytes (P:=Tryd.prog) w2 9 49 5 t Tryd.underlying9 Tryd.underlying49 Tryd.underlying5
   have hA:=bytesIn_str w2 t 5
   have hb5 : Below w2.heap.size w2 (Lib.bytesWorld w2 5 t):=⟨rfl,rfl,rfl,by rw [Lib.bytesWorld_size];omega,fun k hk => Lib.bytesWorld_at_old w2 _ t k hk⟩
   have hb54 : Below w.heap.size w (Lib.bytesWorld w2 5 t):=hb2'.trans (hb5.mono hb2'.size)
   have hC : Kd.C (Kd.int .u8) (Lib.bytesWorld w2 5 t) (some ⟨w2.heap.size,0,none⟩) (bytesOf t).length (bytesOf t):=by
    refine ⟨rfl,by rw [bytesOf_length];omega,fun _ => ⟨_,rfl,fun j p hp => ⟨[.int .u8 p],rfl,rfl,fun i u hu => ?_⟩⟩⟩
    rcases i with _|i
    ·simp at hu
     subst hu
     have hjl : j < (bytesOf t).length:=(List.getElem?_eq_some_iff.mp hp).1
     have hjt : j < t.size:=by rw [bytesOf_length] at hjl;exact hjl
     have e : (Addr.add ⟨w2.heap.size,0,none⟩ (j * 1 + 0)) = ⟨w2.heap.size,j,none⟩:=by unfold Addr.add;split <;> simp_all
     show (Lib.bytesWorld w2 5 t).cell? (Addr.add ⟨w2.heap.size,0,none⟩ (j * 1 + 0)) = _
     rw [e,Lib.bytesWorld_cell w2 5 t j hjt]
     simp only [bytesOf,List.getElem?_map] at hp
     rw [List.getElem?_eq_getElem (by simpa using hjt)] at hp
     have:=Option.some.inj hp
     rw [← this,List.getD_eq_getElem?_getD,List.getElem?_eq_getElem (by simpa using hjt)]
     rfl
    ·simp at hu
   have hO:=fun c (hc : (bytesOf t).length ≤ c) => racewayref03_Of.calls k (some ⟨w2.heap.size,0,none⟩) c (bytesOf t) d (Lib.bytesWorld w2 5 t) hC hc HD.out
   rw [bytesOf_length] at hO
   have HO:=Lib.hid hO
   clear hO hA hb5 hb1 hb2 hb2' hC
   rw [show s0 ++ (⟨#[47]⟩ : ByteArray) ++ a1 ++ (⟨#[47]⟩ : ByteArray) ++ s2 ++ (⟨#[47]⟩ : ByteArray) = t from HT.out,hcv]
   simp only [Result.andThen]
   clear hcv
   go_wp2_with (go_at_call 62;refine (HO.out _ (grownCap_ge _ _ _ _)).mono ?_;rintro e w6 ⟨v,rfl,hR,hb6⟩)
   obtain ⟨Av,cv,rfl⟩:=Kd.R_slice hR
   have hrd:=Kd.R_reads' hR
   have hHx:=racewayref22_Hex.calls k Av cv d x w6 hrd.2.2 hrd.2.1 HX.out
   have hb6' : Below w.heap.size w w6:=hb54.trans (hb6.mono hb54.size)
   have HH:=Lib.hid hHx
   have HB:=Lib.hid hb6'
   clear hHx hrd hR hb6 hb54 hb6' HO
   go_wp2_with (go_at_call 64;refine HH.out.mono ?_;rintro e w7 ⟨rfl,hb7⟩)
   have hb7' : Below w.heap.size w w7:=by
    obtain ⟨n1,rfl⟩:=hb7.out
    exact HB.out.trans ⟨rfl,rfl,rfl,Nat.le_refl _,fun _ _ => rfl⟩
   have HB7:=Lib.hid hb7'
   clear hb7' hb7 HH
   go_loopw [9,10] (fun o i wr => ∃ (j : Nat),o = .string (idOut x j) ∧ i = .int .i64 j ∧ j ≤ 32 ∧ Below w.heap.size w wr)
    (fun _ i _ => (32 - intOf i).toNat)
   case atStart => exact ⟨0,rfl,rfl,by omega,HB7.out⟩
   case round => as_aux_lemma =>
    obtain ⟨j,rfl,rfl,hj,hb⟩:=hrel
    by_cases hlt : j < 32
    ·have hd : decide ((j : Int) < 32) = true:=by simp;omega
     have hO:=idOut_size x j
     have hnext : idOut x (j + 1) = (if dashAt j then idOut x j ++ ⟨#[45]⟩ else idOut x j) ++ x.extract j (j + 1):=rfl
     obtain ⟨O,hOe⟩ : ∃ O,idOut x j = O:=⟨_,rfl⟩
     rw [hOe] at hO hnext ⊢
     have hO2 : O.size ≤ 1000:=by omega
     have hx32 : (j : Int) + 1 ≤ (x.size : Int):=by omega
     have hex : (x.extract j (j + 1)).size = 1:=by rw [ByteArray.size_extract];omega
     have HN:=Lib.hid hnext
     have HE:=Lib.hid hb
     clear hnext hOe hO hb
     rcases (show (j = 8) ∨ (j = 12) ∨ (j = 16) ∨ (j = 20) ∨ (j ≠ 8 ∧ j ≠ 12 ∧ j ≠ 16 ∧ j ≠ 20) by omega) with hq|hq|hq|hq|hq
     ·have q8 : ((j : Int) == 8) = true:=by simp;omega
      have hda : dashAt j = true:=by rw [hq];rfl
      clear hq
      go_wp2
      go_roundw
      case rel => exact ⟨j + 1,by rw [HN.out,hda];rfl,rfl,by omega,HE.out⟩
      case measure => simp [intOf];omega
     ·have q8 : ((j : Int) == 8) = false:=by simp;omega
      have q12 : ((j : Int) == 12) = true:=by simp;omega
      have hda : dashAt j = true:=by rw [hq];rfl
      clear hq
      go_wp2
      go_roundw
      case rel => exact ⟨j + 1,by rw [HN.out,hda];rfl,rfl,by omega,HE.out⟩
      case measure => simp [intOf];omega
     ·have q8 : ((j : Int) == 8) = false:=by simp;omega
      have q12 : ((j : Int) == 12) = false:=by simp;omega
      have q16 : ((j : Int) == 16) = true:=by simp;omega
      have hda : dashAt j = true:=by rw [hq];rfl
      clear hq
      go_wp2
      go_roundw
      case rel => exact ⟨j + 1,by rw [HN.out,hda];rfl,rfl,by omega,HE.out⟩
      case measure => simp [intOf];omega
     ·have q8 : ((j : Int) == 8) = false:=by simp;omega
      have q12 : ((j : Int) == 12) = false:=by simp;omega
      have q16 : ((j : Int) == 16) = false:=by simp;omega
      have q20 : ((j : Int) == 20) = true:=by simp;omega
      have hda : dashAt j = true:=by rw [hq];rfl
      clear hq
      go_wp2
      go_roundw
      case rel => exact ⟨j + 1,by rw [HN.out,hda];rfl,rfl,by omega,HE.out⟩
      case measure => simp [intOf];omega
     ·have q8 : ((j : Int) == 8) = false:=by simp;omega
      have q12 : ((j : Int) == 12) = false:=by simp;omega
      have q16 : ((j : Int) == 16) = false:=by simp;omega
      have q20 : ((j : Int) == 20) = false:=by simp;omega
      have hda : dashAt j = false:=by unfold dashAt;simp;omega
      clear hq
      go_wp2
      go_roundw
      case rel => exact ⟨j + 1,by rw [HN.out,hda];rfl,rfl,by omega,HE.out⟩
      case measure => simp [intOf];omega
    ·have hj32 : j = 32:=by omega
     subst hj32
     have HE:=Lib.hid hb
     clear hb hlt hj
     go_wp2
     go_ret
     exact ⟨rfl,HE.out⟩
  ·exact absurd h (by simp)
 ·exact absurd h (by simp)
end Go.Proofs.YtedfgkjimnjdpaaDoor.X
