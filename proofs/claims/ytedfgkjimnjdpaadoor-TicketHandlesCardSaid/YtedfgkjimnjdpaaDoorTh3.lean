/-
  What the claim's law rests on, part 3 of 7: printed walks, externals, plain lemmas; conditions: none of its own.
-/
import Derived.Laws.BitsLemmas
import Derived.Laws.CopyOwn
import Derived.Laws.Externs
import Derived.Lib.AppendStr
import Derived.Lib.Builder
import Derived.Lib.Hide
import Derived.Lib.UnsafeStr
import Derived.Test.YtedfgkjimnjdpaaDoorTh2
namespace Go.Proofs.YtedfgkjimnjdpaaDoor.X
open Go.RowKit Go.Proofs.YtedfgkjimnjdpaaDoorW.PrintWords Go.Proofs.YtedfgkjimnjdpaaDoorW.PrintLast
set_option linter.unusedVariables false
set_option linter.unusedSimpArgs false
set_option maxHeartbeats 1000000 in
set_option maxRecDepth 100000 in
theorem cc_used (b : Nat) (w : World) (h0 : w.cell? ⟨b,0,none⟩ = some (.pointer (some ⟨b,0,none⟩))) :
  Calls Tryd.prog 116 #[.pointer (some ⟨b,0,none⟩)] w fun e w' => e = .returned (.tuple #[]) ∧ w' = w:=by
 go_enter Tryd.func116,Tryd.ntmps116
 obtain ⟨j,hj,_⟩:=Option.map_eq_some_iff.1 (show (Tryd.prog.info? 112).map (·.size) = some 2 by kernel_rfl)
 have hnq:=fun W => Lib.run_neq_ptr_same (P:=Tryd.prog) W ⟨b,0,none⟩ Tryd.underlying110 hj
 go_wp2
 go_end0
 exact ⟨rfl,rfl⟩
set_option maxHeartbeats 1000000 in
set_option maxRecDepth 100000 in
theorem cc_fresh (b : Nat) (w : World) (h0 : w.cell? ⟨b,0,none⟩ = some (.pointer none)) (hsh : w.shape? b = some (112,2)) (hfz : w.frozen? ⟨b,0,none⟩ = false) :
  Calls Tryd.prog 116 #[.pointer (some ⟨b,0,none⟩)] w fun e w' => e = .returned (.tuple #[]) ∧ w' = w.setCell ⟨b,0,none⟩ (.pointer (some ⟨b,0,none⟩)):=by
 obtain ⟨j,hj,hjs⟩:=Option.map_eq_some_iff.1 (show (Tryd.prog.info? 112).map (·.size) = some 2 by kernel_rfl)
 have r1:=fun W (h : World.shape? W b = some (112,2)) => Lib.run_to_unsafe (P:=Tryd.prog) W ⟨b,0,none⟩ Tryd.underlying110 (dst:=161) (by kernel_rfl) hj (by rw [hjs];decide) h (Nat.zero_lt_succ 1)
 have r2:=fun W (h : World.shape? W b = some (112,2)) => Lib.run_from_unsafe (P:=Tryd.prog) W ⟨b,0,none⟩ (src:=161) (by kernel_rfl) Tryd.underlying110 hj h (by kernel_rfl)
 have r3 : ∀ x W,(callFunc 131 #[x]).run Tryd.prog W = .ok (.value x) W:=by
  intro x W
  rw [run_callFunc_extern Tryd.func131 (by kernel_rfl) (by kernel_rfl) (by kernel_rfl) (e:=Extern.AbiNoEscape.same) (by kernel_rfl),Lib.run_noEscape]
  rfl
 have q1:=r1 w hsh
 have q2:=r2 w hsh
 clear r1 r2
 go_enter Tryd.func116,Tryd.ntmps116
 go_wp2
 go_end0
 exact ⟨rfl,rfl⟩
def Spare (b : Nat) (w w' : World) : Prop:=∀ k o,w.heap[k]? = some o → (∀ c,o ≠ .cells c 5 (0,0)) → k ≠ b → w'.heap[k]? = some o
theorem Spare.refl (b : Nat) (w : World) : Spare b w w:=fun _ _ h _ _ => h
theorem Spare.trans {b : Nat} {w w1 w2 : World} (h : Spare b w w1) (h' : Spare b w1 w2) : Spare b w w2:=fun k c hk ht hb => h' k c (h k c hk ht hb) ht hb
theorem Spare.set {b : Nat} {w w' : World} (h : Spare b w w') (j : Nat) (u : Value) : Spare b w (w'.setCell ⟨b,j,none⟩ u):=fun k c hk ht hb => (Below.heap_setCell w' ⟨b,j,none⟩ u k hb).trans (h k c hk ht hb)
theorem Spare.of_below {b : Nat} {w w' : World} (h : Below w.heap.size w w') : Spare b w w':=fun k c hk _ _ => (h.block k (Array.getElem?_eq_some_iff.mp hk).1).trans hk
theorem Spare.drawn {b : Nat} {w w' : World} (h : Drawn0 w w') : Spare b w w':=.of_below h.below
theorem Spare.cells {b : Nat} {w w' : World} (h : Spare b w w') {k : Nat} {c : Array Value} {t : TypeId} (hk : w.heap[k]? = some (.cells c t (0,0))) (ht : t ≠ 5) (hb : k ≠ b) : w'.heap[k]? = some (.cells c t (0,0)) :=
 h k _ hk (fun c' e => by injection e with _ h2;exact ht h2) hb
theorem cc_any (B b : Nat) (bs : List Value) (w : World) (h : Lib.IsBuilder 112 5 B b bs w) :
  Calls Tryd.prog 116 #[.pointer (some ⟨b,0,none⟩)] w fun e w' => e = .returned (.tuple #[]) ∧ (Lib.BuilderAt 112 5 B b (.pointer (some ⟨b,0,none⟩)) bs w' ∧ Below B w w' ∧ Spare b w w'):=by
 rcases h with h|h
 ·refine (cc_fresh b w h.cell0 h.shape h.frozen0).mono ?_
  rintro e w' ⟨rfl,rfl⟩
  exact ⟨rfl,h.used _,(Below.refl B w).setCell (p:=⟨b,0,none⟩) h.1 _,(Spare.refl b w).set 0 _⟩
 ·refine (cc_used b w h.cell0).mono ?_
  rintro e w' ⟨rfl,rfl⟩
  exact ⟨rfl,h,Below.refl B _,Spare.refl b _⟩
theorem own_other {w : World} {B n : Nat} {v : Value} {xs : List Value} (h : w.ownsRow B 5 1 v n xs) {k : Nat} {o : Obj} (hk : w.heap[k]? = some o) (ht : ∀ c,o ≠ .cells c 5 (0,0)) : some k ≠ v.ownBlock:=by
 rcases h.2 with ⟨hv,_⟩|⟨g,cap,cur,hv,_,hh,_⟩
 ·subst hv
  simp [Value.ownBlock]
 ·subst hv
  simp only [Value.ownBlock,ne_eq,Option.some.injEq]
  rintro rfl
  rw [hh] at hk
  exact ht _ (Option.some.inj hk).symm
set_option maxHeartbeats 1000000 in
set_option maxRecDepth 100000 in
theorem writeByte_spare (B b : Nat) (l : List UInt8) (c : UInt8) (w : World) (h : Lib.IsBuilder 112 5 B b (Lib.byteCells l) w) (hlen : l.length + 1 ≤ 140737488355328) (hBw : B ≤ w.heap.size) :
  Calls Tryd.prog 85 #[.pointer (some ⟨b,0,none⟩),.int .u8 (c.toNat : Int)] w fun e w' => (∃ x,e = .returned x) ∧ Lib.IsBuilder 112 5 B b (Lib.byteCells (l ++ [c])) w' ∧ Below B w w' ∧ Spare b w w':=by
 obtain ⟨i0,hi,hz0,hz1,hz2⟩:=info_parts info5
 have hcl : (Lib.byteCells l).length = l.length:=by simp [Lib.byteCells]
 have hcs : Lib.byteCells l ++ [.int .u8 (c.toNat : Int)] = Lib.byteCells (l ++ [c]):=by simp [Lib.byteCells]
 have HH:=Lib.hid h
 have HCL:=Lib.hid hcl
 have HCS:=Lib.hid hcs
 clear h hcl hcs
 go_enter Tryd.func85,Tryd.ntmps85
 go_wp2_with (go_at_call 116;refine (cc_any B b _ _ HH.out).mono ?_)
 rintro e w1 ⟨rfl,h1,hb1,hs1⟩
 obtain ⟨hB,v,hbk,hown,hne⟩:=h1
 have c0 : w1.cell? ⟨b,0,none⟩ = some (.pointer (some ⟨b,0,none⟩)):=by rw [Lib.cell_of_heap hbk];rfl
 have c1 : w1.cell? ⟨b,1,none⟩ = some v:=by rw [Lib.cell_of_heap hbk];rfl
 go_wp2_with (at_builtin;refine wpList_append_own _ rfl _ _ 49 rfl B 5 i0 (.int .u8 0) 1 1 Tryd.underlying49 hi hz0 hz1 hz2 rfl (by decide) _ _ _ rfl (hown.alloc _) ⟨w1.heap.size,0,none⟩ 1 1 [.int .u8 (c.toNat : Int)] rfl rfl ?c1 ?c2 ?c3 ?c4 ?c5 ?_)
 case c1 =>
  intro j u hj
  match j,hj with
  | 0,hj => simp at hj;subst hj;simp [Addr.add]
 case c2 => intro u hu;simp at hu;subst hu;rfl
 case c3 => have:=HCL.out;unfold maxLen;omega
 case c4 => have:=HCL.out;omega
 case c5 => have:=hb1.size;simp;omega
 intro v' w2 hown' hgrow _
 have hlt : b < w1.heap.size:=(Array.getElem?_eq_some_iff.mp hbk).1
 have hb2 : w2.heap[b]? = some (.cells #[.pointer (some ⟨b,0,none⟩),v] 112 (0,0)):=by
  rw [hgrow.block b (by simp;omega) (fun e => hne e.symm),Lib.alloc_old w1 _ b hlt]
  exact hbk
 have d0 : w2.cell? ⟨b,0,none⟩ = some (.pointer (some ⟨b,0,none⟩)):=by rw [Lib.cell_of_heap hb2];rfl
 have d1 : w2.cell? ⟨b,1,none⟩ = some v:=by rw [Lib.cell_of_heap hb2];rfl
 have f1 : w2.frozen? ⟨b,1,none⟩ = false:=Lib.frozen_of_heap hb2 1
 obtain ⟨g,cap,rfl⟩ : ∃ g cap,v' = .slice (some ⟨g,0,none⟩) ((Lib.byteCells l).length + 1) cap:=by
  rcases hown'.2 with ⟨_,h0⟩|⟨g,cap,cur,hv,_⟩
  ·omega
  ·exact ⟨g,cap,hv⟩
 go_wp2
 go_ret
 refine ⟨⟨_,rfl⟩,.inr ?_,?_,?_⟩
 ·rw [← HCS.out]
  exact Lib.BuilderAt.put (T:=112) (e:=5) hB hb2 (bs':=Lib.byteCells l ++ [.int .u8 (c.toNat : Int)]) (by simpa using hown') (by decide)
 ·exact ((hb1.alloc (by have:=hb1.size;omega) _).grown hgrow (by have:=hb1.size;simp;omega) (fun k hk => (hown.lt k hk).1)).setCell (p:=⟨b,1,none⟩) hB _
 ·refine Spare.set (fun k c2 hk ht hkb => ?_) 1 _
  have h2:=hs1 k c2 hk ht hkb
  have hl:=(Array.getElem?_eq_some_iff.mp h2).1
  rw [hgrow.block k (by simp;omega) (own_other hown h2 ht),Lib.alloc_old w1 _ k hl]
  exact h2
theorem bld_new (w : World) (x : Obj) (hx : x = .cells #[.pointer none,.slice none 0 0] 112 (0,0)) : Lib.IsBuilder 112 5 w.heap.size w.heap.size (Lib.byteCells []) (w.alloc x):=by
 subst hx
 refine .inl ⟨Nat.le_refl _,.slice none 0 0,heap_alloc_new w _,⟨rfl,.inl ⟨rfl,rfl⟩⟩,by simp [Value.ownBlock]⟩
end Go.Proofs.YtedfgkjimnjdpaaDoor.X
namespace Go.Proofs.YtedfgkjimnjdpaaDoor.X
open Go.RowKit Go.Shelf Go.Proofs.YtedfgkjimnjdpaaDoorW.PrintWords Go.Proofs.YtedfgkjimnjdpaaDoorW.PrintLast Go.Proofs.YtedfgkjimnjdpaaDoorW.PrintMore
attribute [local go_sem] Oper.semAt_some
set_option linter.unusedVariables false
set_option linter.unusedSimpArgs false
def signB (x : Int) : UInt8:=([65,66,67,68,69,70,71,72,73,74,75,76,77,78,79,80,81,82,83,84,85,86,87,88,89,90,97,98,99,100,101,102,103,104,105,106,107,108,109,110,111,112,113,114,115,116,117,118,119,120,121,122,48,49,50,51,52,53,54,55,56,57,43,47] : List UInt8).getD x.toNat 0
def fourL (p : List Int) : List Int:=[p.getD 0 0 / 4,p.getD 0 0 % 4 * 16 + p.getD 1 0 / 16,p.getD 1 0 % 16 * 4 + p.getD 2 0 / 64,p.getD 2 0 % 64]
def encP (p : List Int) : List UInt8:=(List.range 4).map fun i => if p.length < i then 61 else signB ((fourL p).getD i 0)
def encL (l : List Int) (i : Nat) : List UInt8:=(List.range i).flatMap fun j => encP ((l.drop (3 * j)).take 3)
theorem encL_succ (l : List Int) (i : Nat) : encL l (i + 1) = encL l i ++ encP ((l.drop (3 * i)).take 3):=by
 unfold encL
 rw [List.range_succ,List.flatMap_append]
 simp
theorem encP_len (p : List Int) : (encP p).length = 4:=by unfold encP;simp
theorem encL_len (l : List Int) : ∀ i,(encL l i).length = 4 * i
 | 0 => rfl
 | i + 1 => by rw [encL_succ,List.length_append,encL_len l i,encP_len];omega
theorem and3_u8 (x : Int) (h0 : 0 ≤ x) (h1 : x < 256) : bits .and .u8 x 3 = x % 4:=bits_mask .u8 8 (by decide) wraps_u8 2 (by decide) x h0 h1
theorem or_u8 (a b : Nat) (ha : a < 256) (hb : b < 256) : bits .or .u8 (a : Int) (b : Int) = ((a ||| b : Nat) : Int) :=
 (bits_nat .u8 8 (by decide) wraps_u8 a b ha hb).2
theorem join4_u8 (x y : Int) (hx : 0 ≤ x) (hx1 : x < 16) (hy : 0 ≤ y) (hy1 : y < 16) : bits .or .u8 (x * 16) y = x * 16 + y:=by
 obtain ⟨a,rfl⟩:=Int.eq_ofNat_of_zero_le hx
 obtain ⟨b,rfl⟩:=Int.eq_ofNat_of_zero_le hy
 have e : ((a : Int) * 16) = ((2 ^ 4 * a : Nat) : Int):=by omega
 rw [e,or_u8 _ _ (by omega) (by omega),← Nat.two_pow_add_eq_or_of_lt (by omega)]
 omega
theorem join2_u8 (x y : Int) (hx : 0 ≤ x) (hx1 : x < 64) (hy : 0 ≤ y) (hy1 : y < 4) : bits .or .u8 (x * 4) y = x * 4 + y:=by
 obtain ⟨a,rfl⟩:=Int.eq_ofNat_of_zero_le hx
 obtain ⟨b,rfl⟩:=Int.eq_ofNat_of_zero_le hy
 have e : ((a : Int) * 4) = ((2 ^ 2 * a : Nat) : Int):=by omega
 rw [e,or_u8 _ _ (by omega) (by omega),← Nat.two_pow_add_eq_or_of_lt (by omega)]
 omega
theorem wpListIn_copy_own {F : Fence} {n : Nat} {P : Program} {w : World} {ops : Array Oper} {rest : List Oper} {o : Oper} {a : Act} {Q : Exit → Act → World → Prop} (hgd : o.guard = none) (d s : Operand) (dT sT : TypeId)
  (ho : o.op = .call { callee:=.builtin .copy,args:=#[d,s],argTypes:=#[dT,sT] }) (elem : TypeId) (hu : P.underlying dT = some (.slice elem)) (hsz : (P.info? elem).map (·.size) = some 1)
  (g off dLen dCap : Nat) (ad : Addr) (sLen sCap : Nat) (hd : a.eval d = .slice (some ⟨g,off,none⟩) dLen dCap) (hs : a.eval s = .slice (some ad) sLen sCap)
  (cur : Array Value) (t : TypeId) (hg : w.heap[g]? = some (.cells cur t (0,0))) (cs : List Value) (hn : cs.length = Nat.min sLen dLen)
  (hsrc : ∀ j v,cs[j]? = some v → w.cell? (ad.add j) = some v) (hfit : off + cs.length ≤ cur.size) (h1 : ∀ v ∈ cs,v.oneCell' = true)
  (h : wpListIn F n P ops Q rest (a.put o.dst (goInt cs.length)) (w.setRow g (cur.toList.take off ++ (cs ++ cur.toList.drop (off + cs.length))).toArray)) : wpListIn F n P ops Q (o :: rest) a w:=by
 refine wpListIn_plain hgd fun K hK => ?_
 have hrun:=run_copy_row (P:=P) w dT sT o.type elem g off dLen dCap ad sLen sCap cur t cs hu hsz hg hn hsrc hfit h1
 unfold Oper.wpIn
 refine ⟨?_,?_⟩
 ·simp [Oper.about,ho,resolve,Target.leads,Sem.run_pure]
 ·rw [Oper.semAt_plain F _ _ (by rw [ho];intro c hc';cases hc')]
  simp [execOp,ho,resolve,invoke,builtin,hd,hs,hrun,Result.andThen]
  exact hK _ _ h
theorem isBuilder_move {T e : TypeId} {B b : Nat} {bs : List Value} {w w' : World} (h : Lib.IsBuilder T e B b bs w) (hk : ∀ k o,w.heap[k]? = some o → (k = b ∨ ∃ c,o = .cells c e (0,0)) → w'.heap[k]? = some o) : Lib.IsBuilder T e B b bs w':=by
 have key : ∀ p,Lib.BuilderAt T e B b p bs w → Lib.BuilderAt T e B b p bs w':=by
  rintro p ⟨hB,v,hb,⟨hl,hr⟩,hne⟩
  refine ⟨hB,v,hk b _ hb (.inl rfl),⟨hl,?_⟩,hne⟩
  rcases hr with hr|⟨g,cap,cur,hv,hBg,hg,rest⟩
  ·exact .inl hr
  ·exact .inr ⟨g,cap,cur,hv,hBg,hk g _ hg (.inr ⟨_,rfl⟩),rest⟩
 exact h.imp (key _) (key _)
def EncI (w : World) (l : List Int) (i : Nat) (W : World) : Prop :=
 Lib.IsBuilder 112 5 w.heap.size w.heap.size (Lib.byteCells (encL l i)) W ∧ Below w.heap.size w W ∧ w.heap.size + 2 < W.heap.size ∧ (∃ c,W.heap[w.heap.size + 1]? = some (.cells c 49 (0,0))) ∧ ∃ c,W.heap[w.heap.size + 2]? = some (.cells c 3 (0,0))
theorem EncI.own (w : World) (l : List Int) (D : Nat) (hD : w.heap.size ≤ D) : OwnFrom D (EncI w l):=by
 rintro i W W' row ⟨h1,h2,h3,⟨c,h4⟩,c',h5⟩ hg hr
 have hcell : ∀ (k : Nat) (o : Obj),W.heap[k]? = some o → o.isCells = true → W'.heap[k]? = some o:=by
  intro k o hk ho
  refine (hg.block k (Array.getElem?_eq_some_iff.mp hk).1 ?_).trans hk
  rintro rfl
  obtain ⟨_,o',ho',hc'⟩:=hr k rfl
  rw [hk] at ho'
  cases ho'
  rw [ho] at hc'
  cases hc'
 refine ⟨isBuilder_move h1 (fun k o hk h => hcell k o hk ?_),h2.grown hg h2.size (fun k e => Nat.le_trans hD (hr k e).1),Nat.lt_of_lt_of_le h3 hg.size,⟨c,hcell _ _ h4 rfl⟩,c',hcell _ _ h5 rfl⟩
 rcases h with rfl|⟨c',rfl⟩
 ·rcases h1 with ⟨_,v,hb,_⟩|⟨_,v,hb,_⟩
  ·rw [hk] at hb;cases hb;rfl
  ·rw [hk] at hb;cases hb;rfl
 ·rfl
theorem EncI.box {w : World} {l : List Int} {i : Nat} {W : World} (h : EncI w l i W) (v : Value) : EncI w l i (W.setCell ⟨w.heap.size + 1,0,none⟩ v):=by
 obtain ⟨h1,h2,h3,⟨c,h4⟩,c',h5⟩:=h
 refine ⟨isBuilder_move h1 (fun k o hk h => (Below.heap_setCell _ _ _ k ?_).trans hk),h2.setCell (p:=⟨w.heap.size + 1,0,none⟩) (by show _ ≤ w.heap.size + 1;omega) _,?_,⟨_,blk_set h4 0 v⟩,_,(Below.heap_setCell _ _ _ _ (by show _ ≠ w.heap.size + 1;omega)).trans h5⟩
 ·show k ≠ w.heap.size + 1
  rintro rfl
  rcases h with h|⟨c',rfl⟩
  ·omega
  ·rw [hk] at h4
   cases h4
 ·simpa [World.setCell] using h3
theorem EncI.below {w : World} {l : List Int} {i : Nat} {W W' : World} (h : EncI w l i W) (hb : Below W.heap.size W W') : EncI w l i W':=by
 obtain ⟨h1,h2,h3,⟨c,h4⟩,c',h5⟩:=h
 exact ⟨isBuilder_move h1 (fun k o hk _ => (hb.block k (Array.getElem?_eq_some_iff.mp hk).1).trans hk),h2.trans (hb.mono h2.size),Nat.lt_of_lt_of_le h3 hb.size,⟨c,(hb.block _ (Array.getElem?_eq_some_iff.mp h4).1).trans h4⟩,c',(hb.block _ (Array.getElem?_eq_some_iff.mp h5).1).trans h5⟩
theorem keeps_below {W W' : World} (hb : Below W.heap.size W W') : KeepsOthers W W':=⟨hb.size,fun k o hk _ => (hb.block k (Array.getElem?_eq_some_iff.mp hk).1).trans hk⟩
theorem keeps_spare {b : Nat} {w w' : World} (h : Spare b w w') (hs : w.heap.size ≤ w'.heap.size) {c : Array Value} {t : TypeId} (hb : w.heap[b]? = some (.cells c t (0,0))) : KeepsOthers w w':=by
 refine ⟨hs,fun k o hk ho => h k o hk (fun c' e => by subst e;cases ho) ?_⟩
 rintro rfl
 rw [hb] at hk
 cases hk
 cases ho
theorem isBuilder_blk {T e : TypeId} {B b : Nat} {bs : List Value} {w : World} (h : Lib.IsBuilder T e B b bs w) : B ≤ b ∧ ∃ c,w.heap[b]? = some (.cells c T (0,0)):=by
 rcases h with ⟨hB,v,hb,_⟩|⟨hB,v,hb,_⟩
 ·exact ⟨hB,_,hb⟩
 ·exact ⟨hB,_,hb⟩
def EncJ (w : World) (l : List Int) (i : Nat) (q : List UInt8) (W wr : World) : Prop :=
 Lib.IsBuilder 112 5 w.heap.size w.heap.size (Lib.byteCells (encL l i ++ q)) wr ∧ Below w.heap.size w wr ∧ KeepsOthers W wr ∧ wr.heap[w.heap.size + 1]? = W.heap[w.heap.size + 1]? ∧ wr.heap[w.heap.size + 2]? = W.heap[w.heap.size + 2]?
theorem encJ_byte {w : World} {l : List Int} {i : Nat} {q : List UInt8} {W wr : World} {c d : Array Value} (hc : W.heap[w.heap.size + 1]? = some (.cells c 49 (0,0))) (hd : W.heap[w.heap.size + 2]? = some (.cells d 3 (0,0)))
  (h : EncJ w l i q W wr) (hl : 4 * i + q.length + 1 ≤ 140737488355328) (x : UInt8) :
  Calls Tryd.prog 85 #[.pointer (some ⟨w.heap.size,0,none⟩),.int .u8 (x.toNat : Int)] wr fun e w' => (∃ y,e = .returned y) ∧ EncJ w l i (q ++ [x]) W w':=by
 obtain ⟨h1,h2,h3,h4,h5⟩:=h
 refine (writeByte_spare w.heap.size w.heap.size _ x wr h1 (by rw [List.length_append,encL_len];omega) h2.size).mono ?_
 rintro e w' ⟨hy,hb,hbl,hsp⟩
 obtain ⟨hB,cc,hcc⟩:=isBuilder_blk h1
 exact ⟨hy,by rw [← List.append_assoc];exact hb,h2.trans hbl,h3.trans (keeps_spare hsp hbl.size hcc),(hsp.cells (h4.trans hc) (by decide) (by omega)).trans hc.symm,(hsp.cells (h5.trans hd) (by decide) (by omega)).trans hd.symm⟩
theorem getD_at (x0 x1 x2 x3 : Int) (j : Nat) (hj : j < 4) (W : World) : (Instr.index 118 (.agg #[.int .u8 x0,.int .u8 x1,.int .u8 x2,.int .u8 x3]) (.int .i64 (j : Int))).run Tryd.prog W = .ok (.int .u8 ([x0,x1,x2,x3].getD j 0)) W:=by
 rcases (show j = 0 ∨ j = 1 ∨ j = 2 ∨ j = 3 by omega) with rfl|rfl|rfl|rfl <;> kernel_rfl
theorem sign_at (x : Int) (h0 : 0 ≤ x) (h1 : x < 64) (W : World) : (Instr.index 9 (.string ⟨#[65,66,67,68,69,70,71,72,73,74,75,76,77,78,79,80,81,82,83,84,85,86,87,88,89,90,97,98,99,100,101,102,103,104,105,106,107,108,109,110,111,112,113,114,115,116,117,118,119,120,121,122,48,49,50,51,52,53,54,55,56,57,43,47]⟩) (.int .u8 x)).run Tryd.prog W = .ok (.int .u8 ((signB x).toNat : Int)) W:=by
 obtain ⟨m,rfl⟩:=Int.eq_ofNat_of_zero_le h0
 rcases (show m = 0 ∨ m = 1 ∨ m = 2 ∨ m = 3 ∨ m = 4 ∨ m = 5 ∨ m = 6 ∨ m = 7 ∨ m = 8 ∨ m = 9 ∨ m = 10 ∨ m = 11 ∨ m = 12 ∨ m = 13 ∨ m = 14 ∨ m = 15 ∨ m = 16 ∨ m = 17 ∨ m = 18 ∨ m = 19 ∨ m = 20 ∨ m = 21 ∨ m = 22 ∨ m = 23 ∨ m = 24 ∨ m = 25 ∨ m = 26 ∨ m = 27 ∨ m = 28 ∨ m = 29 ∨ m = 30 ∨ m = 31 ∨ m = 32 ∨ m = 33 ∨ m = 34 ∨ m = 35 ∨ m = 36 ∨ m = 37 ∨ m = 38 ∨ m = 39 ∨ m = 40 ∨ m = 41 ∨ m = 42 ∨ m = 43 ∨ m = 44 ∨ m = 45 ∨ m = 46 ∨ m = 47 ∨ m = 48 ∨ m = 49 ∨ m = 50 ∨ m = 51 ∨ m = 52 ∨ m = 53 ∨ m = 54 ∨ m = 55 ∨ m = 56 ∨ m = 57 ∨ m = 58 ∨ m = 59 ∨ m = 60 ∨ m = 61 ∨ m = 62 ∨ m = 63 by omega) with rfl|rfl|rfl|rfl|rfl|rfl|rfl|rfl|rfl|rfl|rfl|rfl|rfl|rfl|rfl|rfl|rfl|rfl|rfl|rfl|rfl|rfl|rfl|rfl|rfl|rfl|rfl|rfl|rfl|rfl|rfl|rfl|rfl|rfl|rfl|rfl|rfl|rfl|rfl|rfl|rfl|rfl|rfl|rfl|rfl|rfl|rfl|rfl|rfl|rfl|rfl|rfl|rfl|rfl|rfl|rfl|rfl|rfl|rfl|rfl|rfl|rfl|rfl|rfl <;> kernel_rfl
def encFrame (A0 : Option Addr) (len c0 N : Nat) (pv : Value) : Act :=
 { tmps:=#[.slice A0 len c0,undef,.string ⟨#[]⟩,.pointer (some ⟨N,0,none⟩),pv,undef,undef,undef,undef,undef,.slice A0 len c0,.func (.func 115) #[] #[.pointer (some ⟨N + 1,0,none⟩),.pointer (some ⟨N + 2,0,none⟩)],pv,undef,undef,undef,undef,undef,undef,undef,undef,undef,undef,undef,undef,undef,undef,undef,undef,undef,undef,undef,undef,undef,undef,undef,undef,undef,undef,undef,undef,undef,undef,undef,undef,undef,undef,undef,undef,undef,undef,undef,undef],defers:=[] }
theorem bytes_plain {w : World} {A : Option Addr} {n : Nat} {l : List Int} (h : Kd.C (Kd.int .u8) w A n l) (hn : n = l.length) :
  ∃ M o,(0 < l.length → A = some ⟨M,o,none⟩) ∧ ∀ (j : Nat) x,l[j]? = some x → M < w.heap.size ∧ w.cell? ⟨M,o + j,none⟩ = some (.int .u8 x):=by
 by_cases h0 : 0 < n
 ·obtain ⟨⟨bk,o,sp⟩,rfl,hc⟩:=C_int h h0
  have k0:=hc 0 _ (List.getElem?_eq_getElem (by omega))
  simp only [Addr.add,if_pos] at k0
  have hb : bk < w.heap.size ∧ sp = none:=by
   unfold World.cell? at k0
   simp only at k0
   split at k0
   ·rename_i hh
    refine ⟨(Array.getElem?_eq_some_iff.mp hh).1,?_⟩
    cases sp with
    | none => rfl
    | some v => simp at k0
   ·simp at k0
  obtain ⟨hb,rfl⟩:=hb
  exact ⟨bk,o,fun _ => rfl,fun j x hx => ⟨hb,by have:=hc j x hx;rwa [add_at3] at this⟩⟩
 ·have : l = []:=List.eq_nil_of_length_eq_zero (by omega)
  subst this
  exact ⟨0,0,fun h => absurd h (by simp),fun j x hx => by simp at hx⟩
def basic_Encode.f (l : List Int) : Option ByteArray:=if l.length ≤ 1000000 ∧ (∀ x ∈ l,0 ≤ x ∧ x < 256) then some ⟨(encL l (pieceN l.length)).toArray⟩ else none
set_option maxHeartbeats 8000000 in
set_option maxRecDepth 100000 in
theorem basic_Encode.calls (A0 : Option Addr) (c0 : Nat) (l0 : List Int) (r : ByteArray) (w : World) (hr0 : Kd.C (Kd.int .u8) w A0 l0.length l0) (hc0 : l0.length ≤ c0) (h : basic_Encode.f l0 = some r) :
  Calls Tryd.prog 42 #[.slice A0 l0.length c0] w fun e w' => e = .returned (.string r) ∧ Below w.heap.size w w':=by
 unfold basic_Encode.f at h
 split at h
 ·rename_i hh
  obtain ⟨hl,hb8⟩:=hh
  obtain rfl:=Option.some.inj h
  clear h
  have HR:=Lib.hid hr0
  clear hr0
  refine (callsIn_wide (n:=6)).1 ?_
  refine callsIn_of_wp_marks Tryd.func42 rfl trivial ?_ rfl
  simp only [Tryd.ntmps42,List.size_toArray,List.length_cons,List.length_nil,Nat.reduceAdd,Nat.reduceSub,Array.replicate_succ,Array.replicate_zero,List.push_toArray,List.append_toArray,List.nil_append,List.cons_append]
  gi_wp2_with (refine ⟨trivial,?_⟩;gi_at_call 84;refine (callsIn_wide.2 (pieces_calls A0 l0.length c0 _)).mono ?_;rintro e w1 ⟨rfl,rfl⟩)
  obtain ⟨M,o,hA,hcl⟩:=bytes_plain HR.out rfl
  obtain ⟨wB,hwB⟩ : ∃ x,((w.alloc (.cells #[.pointer none,.slice none 0 0] 112 (0,0))).alloc (.cells #[.slice A0 l0.length c0] 49 (0,0))).alloc (.cells #[.int .i64 3] 3 (0,0)) = x:=⟨_,rfl⟩
  have hsA : (w.alloc (.cells #[.pointer none,.slice none 0 0] 112 (0,0))).heap.size = w.heap.size + 1:=World.size_alloc _ _
  have hsB : ((w.alloc (.cells #[.pointer none,.slice none 0 0] 112 (0,0))).alloc (.cells #[.slice A0 l0.length c0] 49 (0,0))).heap.size = w.heap.size + 2:=by rw [World.size_alloc,hsA]
  have hsz : wB.heap.size = w.heap.size + 3:=by rw [← hwB,World.size_alloc,hsB]
  have hbl1 : Below (w.heap.size + 1) (w.alloc (.cells #[.pointer none,.slice none 0 0] 112 (0,0))) wB:=by
   rw [← hwB]
   exact ((Below.refl _ _).alloc (by omega) _).alloc (by omega) _
  have hbl0 : Below w.heap.size w wB:=((Below.refl _ w).alloc (Nat.le_refl _) _).trans (hbl1.mono (by omega))
  have hBb : wB.heap[w.heap.size + 1]? = some (.cells #[.slice A0 l0.length c0] 49 (0,0)):=by
   rw [← hwB,← hsA]
   exact (Below.heap_alloc _ _ _ (by rw [World.size_alloc];omega)).trans (heap_alloc_new _ _)
  have hBn : wB.heap[w.heap.size + 2]? = some (.cells #[.int .i64 3] 3 (0,0)):=by
   rw [← hwB,← hsB]
   exact heap_alloc_new _ _
  have hI0 : EncI w l0 0 wB:=by
   refine ⟨isBuilder_move (bld_new w _ rfl) (fun k o hk _ => (hbl1.block k ?_).trans hk),hbl0,by omega,⟨_,hBb⟩,_,hBn⟩
   have:=(Array.getElem?_eq_some_iff.mp hk).1
   omega
  change Code.wpIn _ _ _ (Code.rangeFunc _ _ _ _) _ _ (((w.alloc (.cells #[.pointer none,.slice none 0 0] 112 (0,0))).alloc (.cells #[.slice A0 l0.length c0] 49 (0,0))).alloc (.cells #[.int .i64 3] 3 (0,0)))
  rw [hwB]
  refine range_pieces (by omega) rfl (w.heap.size + 1) (w.heap.size + 2) M o l0.length c0 hc0 (by omega) (by omega) rfl A0 hA hBb hBn (EncI w l0) (EncI.own w l0 _ (by omega)) (fun i W v h => h.box v) hI0 (fun i => encFrame A0 l0.length c0 w.heap.size (pieceV M o l0.length i)) ?assign ?body ?done
  case assign =>
   intro lr i W K hK
   gi_wp2
   exact hK
  case body =>
   intro lr i W hI hi
   have HI:=Lib.hid hI
   clear hI
   obtain ⟨K,hK⟩ : ∃ K,min 3 (l0.length - 3 * i) = K:=⟨_,rfl⟩
   obtain ⟨p,hp⟩ : ∃ p,(l0.drop (3 * i)).take 3 = p:=⟨_,rfl⟩
   have hpl : p.length = K:=by rw [← hp,← hK];simp
   have hKK:=Lib.hid hK
   have HP:=Lib.hid hp
   have HPL:=Lib.hid hpl
   simp only [encFrame,pieceV,hK]
   have hp3 : ∃ x0 x1 x2 : Int,x0 = p.getD 0 0 ∧ x1 = p.getD 1 0 ∧ x2 = p.getD 2 0:=⟨_,_,_,rfl,rfl,rfl⟩
   obtain ⟨x0,x1,x2,hx0,hx1,hx2⟩:=hp3
   have hKb : 1 ≤ K ∧ K ≤ 3 ∧ 3 * i + K ≤ l0.length:=by unfold pieceN at hi;omega
   have hmem : ∀ j : Nat,0 ≤ p.getD j 0 ∧ p.getD j 0 < 256:=by
    intro j
    rw [List.getD_eq_getElem?_getD]
    cases hj : p[j]? with
    | none => simp
    | some x => exact hb8 x (List.mem_of_mem_drop (List.mem_of_mem_take (hp ▸ List.mem_of_getElem? hj)))
   have h0:=hmem 0
   have h1:=hmem 1
   have h2:=hmem 2
   rw [← hx0] at h0
   rw [← hx1] at h1
   rw [← hx2] at h2
   have hrow : ((#[.int .u8 0,.int .u8 0,.int .u8 0] : Array Value).toList.take 0 ++ (p.map (Value.int .u8) ++ (#[.int .u8 0,.int .u8 0,.int .u8 0] : Array Value).toList.drop (0 + (p.map (Value.int .u8)).length))).toArray = #[.int .u8 x0,.int .u8 x1,.int .u8 x2]:=by
    subst hx0 hx1 hx2
    match p,hpl with
    | [],h => simp at h;omega
    | [a],_ => simp
    | [a,b],_ => simp
    | [a,b,c],_ => simp
    | _ :: _ :: _ :: _ :: _,h => simp at h;omega
   have hsrc : ∀ j v,(p.map (Value.int .u8))[j]? = some v → (W.alloc (.cells #[.int .u8 0,.int .u8 0,.int .u8 0] 116 (0,0))).cell? ((⟨M,o + 3 * i,none⟩ : Addr).add j) = some v:=by
    intro j v hj
    rw [List.getElem?_map] at hj
    obtain ⟨x,hx,rfl⟩:=Option.map_eq_some_iff.1 hj
    rw [← hp,List.getElem?_take] at hx
    split at hx
    ·rw [List.getElem?_drop] at hx
     obtain ⟨hM,hc⟩:=hcl _ _ hx
     rw [add_at3,Nat.add_assoc]
     have:=HI.out.2.1.size
     rw [World.cell?_of_block (Below.heap_alloc _ _ _ (show M < W.heap.size by omega)),World.cell?_of_block (HI.out.2.1.block M hM)]
     exact hc
    ·cases hx
   have hml : (p.map (Value.int .u8)).length = K:=by simp [hpl]
   obtain ⟨W2,hW2⟩ : ∃ x,(W.alloc (.cells #[.int .u8 0,.int .u8 0,.int .u8 0] 116 (0,0))).setRow W.heap.size #[.int .u8 x0,.int .u8 x1,.int .u8 x2] = x:=⟨_,rfl⟩
   have hnew : (W.alloc (.cells #[.int .u8 0,.int .u8 0,.int .u8 0] 116 (0,0))).heap[W.heap.size]? = some (.cells #[.int .u8 0,.int .u8 0,.int .u8 0] 116 (0,0)):=heap_alloc_new _ _
   have hrow2 : W2.heap[W.heap.size]? = some (.cells #[.int .u8 x0,.int .u8 x1,.int .u8 x2] 116 (0,0)):=by
    rw [← hW2]
    exact setRow_heap _ _ _ _ _ _ hnew
   have hb2 : Below W.heap.size W W2:=by
    rw [← hW2]
    exact below_setRow ((Below.refl _ W).alloc (Nat.le_refl _) _) (Nat.le_refl _) _
   have HB2:=Lib.hid hb2
   have HNEW:=Lib.hid hnew
   have HROW:=Lib.hid hrow
   have HSRC:=Lib.hid hsrc
   have HML:=Lib.hid hml
   have HW2:=Lib.hid hW2
   have HMEM:=Lib.hid hmem
   have HX:=Lib.hid (And.intro hx0 (And.intro hx1 hx2))
   have c0' : W2.cell? ⟨W.heap.size,0,none⟩ = some (.int .u8 x0):=by rw [Lib.cell_of_heap hrow2];rfl
   have c1' : W2.cell? ⟨W.heap.size,1,none⟩ = some (.int .u8 x1):=by rw [Lib.cell_of_heap hrow2];rfl
   have c2' : W2.cell? ⟨W.heap.size,2,none⟩ = some (.int .u8 x2):=by rw [Lib.cell_of_heap hrow2];rfl
   clear hK hp hpl hb2 hnew hrow hsrc hml hW2 hmem hrow2 hx0 hx1 hx2
   gi_wp2_with (refine wpListIn_copy_own rfl (.tmp 13) (.tmp 14) 49 49 rfl 5 Tryd.underlying49 (by kernel_rfl) W.heap.size 0 3 3 ⟨M,o + 3 * i,none⟩ K K rfl rfl _ 116 HNEW.out (p.map (Value.int .u8)) (by rw [HML.out];show _ = min _ _;omega) HSRC.out (by rw [HML.out];simp;omega) (by intro v hv;obtain ⟨x,_,rfl⟩:=List.mem_map.1 hv;rfl) ?_;rw [HROW.out,HW2.out,HML.out])
   have hbx:=and3_u8 x0 h0.1 h0.2
   have hxb : x0 % 4 * 16 % 256 = x0 % 4 * 16:=by omega
   have hby:=join4_u8 (x0 % 4) (x1 / 16) (by omega) (by omega) (by omega) (by omega)
   have hbz:=join2_u8 (x1 % 16) (x2 / 64) (by omega) (by omega) (by omega) (by omega)
   rw [hbx,hxb,hby,hbz]
   obtain ⟨y0,hy0⟩ : ∃ y,x0 / 4 = y:=⟨_,rfl⟩
   obtain ⟨y1,hy1⟩ : ∃ y,x0 % 4 * 16 + x1 / 16 = y:=⟨_,rfl⟩
   obtain ⟨y2,hy2⟩ : ∃ y,x1 % 16 * 4 + x2 / 64 = y:=⟨_,rfl⟩
   obtain ⟨y3,hy3⟩ : ∃ y,x2 % 64 = y:=⟨_,rfl⟩
   simp only [hy0,hy1,hy2,hy3]
   have hfour : fourL p = [y0,y1,y2,y3]:=by
    obtain ⟨e0,e1,e2⟩:=HX.out
    unfold fourL
    rw [← e0,← e1,← e2,hy0,hy1,hy2,hy3]
   have hyb : ∀ j : Nat,j < 4 → 0 ≤ [y0,y1,y2,y3].getD j 0 ∧ [y0,y1,y2,y3].getD j 0 < 64:=by
    intro j hj
    rcases (show j = 0 ∨ j = 1 ∨ j = 2 ∨ j = 3 by omega) with rfl|rfl|rfl|rfl <;> simp <;> omega
   obtain ⟨W3,hW3⟩ : ∃ x,W2.alloc (.cells #[.int .u8 y0,.int .u8 y1,.int .u8 y2,.int .u8 y3] 118 (0,0)) = x:=⟨_,rfl⟩
   rw [hW3]
   have hb3 : Below W.heap.size W W3:=by
    rw [← hW3]
    exact HB2.out.alloc HB2.out.size _
   obtain ⟨hI1,hI2,hI3,⟨cB,hI4⟩,cN,hI5⟩:=HI.out
   have hI6 : EncJ w l0 i [] W W3:=by
    refine ⟨isBuilder_move (by rw [List.append_nil];exact hI1) (fun k o hk _ => (hb3.block k (Array.getElem?_eq_some_iff.mp hk).1).trans hk),hI2.trans (hb3.mono hI2.size),keeps_below hb3,hb3.block _ (by omega),hb3.block _ (by omega)⟩
   have HW3:=Lib.hid hW3
   have HB3:=Lib.hid hb3
   have HI6:=Lib.hid hI6
   have HC:=Lib.hid hI4
   have HD:=Lib.hid hI5
   have HFOUR:=Lib.hid hfour
   have HYB:=Lib.hid hyb
   clear hW3 hb3 hI6 hI1 hI2 hI3 hI4 hI5 hfour hyb hy0 hy1 hy2 hy3 hbx hxb hby hbz c0' c1' c2' HSRC HROW HW2 HNEW
   gi_loopw [40] (fun v wr => ∃ j : Nat,j ≤ 4 ∧ v = .int .i64 (j : Int) ∧ EncJ w l0 i ((encP p).take j) W wr)
    (fun v _ => match v with | .int _ x => (4 - x).toNat|_ => 0)
   case atStart => exact ⟨0,Nat.zero_le _,rfl,HI6.out⟩
   case round =>
    obtain ⟨j,hj,rfl,hJ⟩:=hrel
    have HJ:=Lib.hid hJ
    clear hJ
    by_cases hlt : j < 4
    ·have hd : decide ((j : Int) < 4) = true:=by simp;omega
     have hix:=getD_at y0 y1 y2 y3 j hlt
     obtain ⟨y,hy⟩ : ∃ y,[y0,y1,y2,y3].getD j 0 = y:=⟨_,rfl⟩
     rw [hy] at hix
     have hyy : 0 ≤ y ∧ y < 64:=by rw [← hy];exact HYB.out j hlt
     have hsg:=sign_at y hyy.1 hyy.2
     have htk : (encP p).take (j + 1) = (encP p).take j ++ [if K < j then 61 else signB y]:=by
      rw [List.take_add_one]
      congr 1
      unfold encP
      rw [List.getElem?_map,List.getElem?_range hlt,HFOUR.out,HPL.out]
      show [if K < j then 61 else signB ([y0,y1,y2,y3].getD j 0)] = _
      rw [hy]
     have hlen : 4 * i + ((encP p).take j).length + 1 ≤ 140737488355328:=by rw [List.length_take,encP_len];omega
     have HTK:=Lib.hid htk
     have HLEN:=Lib.hid hlen
     clear htk hlen hy
     by_cases hKj : K < j
     ·have hdK : decide ((K : Int) < (j : Int)) = true:=by simp;exact hKj
      have hw : ∀ n,CallsIn (Fence.wide.inRound lr) n Tryd.prog 85 #[.pointer (some ⟨w.heap.size,0,none⟩),.int .u8 61] wr fun e w' => (∃ y,e = .returned y) ∧ EncJ w l0 i ((encP p).take (j + 1)) W w':=by
       intro n
       rw [HTK.out,if_pos hKj]
       exact CallsIn.inRound lr (callsIn_wide.2 (encJ_byte HC.out HD.out HJ.out HLEN.out 61))
      gi_wp2_with (refine ⟨trivial,?_⟩;gi_at_call 85;refine (hw _).mono ?_;rintro e w4 ⟨⟨_,rfl⟩,hJ4⟩)
      exact ⟨⟨j + 1,hlt,by push_cast;rfl,hJ4⟩,by show (4 - ((j : Int) + 1)).toNat < (4 - (j : Int)).toNat;omega⟩
     ·have hdK : decide ((K : Int) < (j : Int)) = false:=by simp;omega
      have hw : ∀ n,CallsIn (Fence.wide.inRound lr) n Tryd.prog 85 #[.pointer (some ⟨w.heap.size,0,none⟩),.int .u8 ((signB y).toNat : Int)] wr fun e w' => (∃ y,e = .returned y) ∧ EncJ w l0 i ((encP p).take (j + 1)) W w':=by
       intro n
       rw [HTK.out,if_neg hKj]
       exact CallsIn.inRound lr (callsIn_wide.2 (encJ_byte HC.out HD.out HJ.out HLEN.out _))
      gi_wp2_with (refine ⟨trivial,?_⟩;gi_at_call 85;refine (hw _).mono ?_;rintro e w4 ⟨⟨_,rfl⟩,hJ4⟩)
      exact ⟨⟨j + 1,hlt,by push_cast;rfl,hJ4⟩,by show (4 - ((j : Int) + 1)).toNat < (4 - (j : Int)).toNat;omega⟩
    ·have hd : decide ((j : Int) < 4) = false:=by simp;omega
     obtain rfl : j = 4:=by omega
     gi_wp2
     obtain ⟨j1,j2,j3,j4,j5⟩:=HJ.out
     obtain ⟨_,_,i3,_,_⟩:=HI.out
     refine ⟨j3,j4,j5,?_,j2,Nat.lt_of_lt_of_le i3 j3.1,⟨_,j4.trans HC.out⟩,_,j5.trans HD.out⟩
     rw [encL_succ,HP.out]
     rw [List.take_of_length_le (by rw [encP_len];omega)] at j1
     exact j1
  case done =>
   intro W hI hD
   have HI:=Lib.hid hI
   have HD:=Lib.hid hD
   clear hI hD
   gi_wp2_with (refine ⟨trivial,?_⟩;gi_at_call 86;refine (callsIn_wide.2 (Tryd.Builder_String_any_k w.heap.size w.heap.size _ _ (Lib.IsBuilderF.of HI.out.1) (by have:=HI.out.2.1.size;omega))).mono ?_)
   rintro e w1 ⟨rfl,_,hb1,hk1⟩
   have HB1:=Lib.hid hb1
   have hD1 : w1.heap[wB.heap.size]? = some (.deferred (some [])):=hk1 _ _ HD.out (by intro e;have:=Option.some.inj e;omega) (fun c => by simp)
   have HD1:=Lib.hid hD1
   clear hb1 hk1 hD1
   gi_wp2
   refine ⟨by simp,.inl ⟨_,_,rfl,run_takeDeferred (show w1.heap[w.heap.size + 3]? = _ from hsz ▸ HD1.out),?_⟩⟩
   refine ⟨_,results_tmp rfl _ _ _,rfl,?_⟩
   exact (HI.out.2.1.trans (HB1.out)).grown (grownBy_putObj' _ (w.heap.size + 3) (.deferred none)) (HI.out.2.1.trans HB1.out).size (fun k e => by have:=Option.some.inj e;omega)
 ·exact absurd h (by simp)
end Go.Proofs.YtedfgkjimnjdpaaDoor.X
namespace Go.Proofs.YtedfgkjimnjdpaaDoor.X
open Go.RowKit Go.Proofs.YtedfgkjimnjdpaaDoorW.PrintWords Go.Proofs.YtedfgkjimnjdpaaDoorW.PrintLast Go.Proofs.YtedfgkjimnjdpaaDoorW.PrintMore
attribute [local go_sem] max2_int min2_int max_two min_two max_three min_three max_four min_four
set_option linter.unusedVariables false
set_option linter.unusedSimpArgs false
def ticket_Handle.l0 : Nat → List Int → Int → Int → Int → ByteArray → Int → Int → Option (ByteArray × Int)
 | 0,_,_,_,_,_,_,_ => none
 | k + 1,x16,x17,x18,x179000,x179001,x179002,x179003 => if x18 < x17 then (if 0 ≤ x18 then (if x18 < (x16.length : Int) then (if (rd x16 x18) < 0 then (some ((⟨#[]⟩ : ByteArray),2)) else (if (rd x16 x18) > 1099511627776 then (some ((⟨#[]⟩ : ByteArray),2)) else (ticket_Handle.l0 k x16 x17 (wrap64 (x18 + 1)) x179000 x179001 x179002 x179003))) else (none)) else (none)) else (if (x179001.size : Int) > 32 then (some ((⟨#[]⟩ : ByteArray),3)) else ((octet_Num.f k ([] : List Int) x179000).bind fun bt183 => ((octet_Text.f k bt183.1 x179001).bind fun bt187 => ((octet_Num.f k bt187.1 x179002).bind fun bt191 => ((octet_Num.f k bt191.1 x179003).bind fun bt195 => ((crc_Frame.f bt195.1).bind fun bt199 => ((basic_Encode.f bt199.1).bind fun t203 => (some (t203,bt199.2)))))))))
def ticket_Handle.f (k : Nat) (a0_0 : Int) (a0_1 : ByteArray) (a0_2 : Int) (a0_3 : Int) : Option (ByteArray × Int):=(some (([a0_0,a0_2,a0_3] : List Int) : List Int)).bind fun y179 => (ticket_Handle.l0 k y179 (y179.length : Int) 0 a0_0 a0_1 a0_2 a0_3)
set_option maxHeartbeats 8000000 in
set_option maxRecDepth 100000 in
theorem ticket_Handle.calls (k : Nat) (a0_0 : Int) (a0_1 : ByteArray) (a0_2 : Int) (a0_3 : Int) (r1 : ByteArray) (r2 : Int) (w : World) (hGCr : GlobCr w) (h : ticket_Handle.f k a0_0 a0_1 a0_2 a0_3 = some (r1,r2)) :
  Calls Tryd.prog 20 #[.agg #[.int .i64 a0_0,.string a0_1,.int .i64 a0_2,.int .i64 a0_3]] w fun e w' => e = .returned (.tuple #[.string r1,.int .i64 r2]) ∧ Below w.heap.size w w':=by
 have hu39:=Tryd.underlying39
 have HGCr:=Aside0.mk hGCr
 clear hGCr
 have HB:=Aside0.mk (Below.refl w.heap.size w)
 have H : ((some (([a0_0,a0_2,a0_3] : List Int) : List Int)).bind fun y179 => (ticket_Handle.l0 k y179 (y179.length : Int) 0 a0_0 a0_1 a0_2 a0_3)) = some (r1,r2):=h
 clear h
 obtain ⟨y179,hy179⟩ : ∃ y_ : List Int,y_ = (([a0_0,a0_2,a0_3] : List Int)):=⟨_,rfl⟩
 replace H : (ticket_Handle.l0 k y179 (y179.length : Int) 0 a0_0 a0_1 a0_2 a0_3) = some (r1,r2):=by first|(rw [hy179];with_reducible exact H)|(have H2_:=(Option.bind_some _ _).symm.trans H;rw [hy179];with_reducible exact H2_)|(have H2_:=(Option.bind_some _ _).symm.trans H;with_reducible exact H2_)|with_reducible exact H|(rw [hy179];exact H)|exact H
 have Ny179:=Aside0.mk hy179
 clear hy179
 have H':=Aside0.mk H
 clear H
 go_enter Tryd.func20,Tryd.ntmps20
 go_wp2_with (first|((with_reducible refine gate_dst (N:=1) rfl ?_);refine box_event ?hg (N:=1) ?hd (cs:=#[.int .i64 a0_0,.string a0_1,.int .i64 a0_2,.int .i64 a0_3]) (t:=39) ?hr ?_;(case hd => rfl);(case hg => rfl);(case hr => first|(go_simp;done)|(go_simp;rfl));intro gb178 hg w2 hbox hb;have n0_:=Aside0.mk (below_step (by repeat (first|(with_reducible first|exact HB.out|apply below_alloc|apply pw_below_drewN|apply below_drew1)|exact HB.out)) hb);have n1_:=Aside0.mk (hbox);have n2_:=Aside0.mk ((by rw [hg];exact (below_size (by repeat (first|(with_reducible first|exact HB.out|apply below_alloc|apply pw_below_drewN|apply below_drew1)|exact HB.out))) : w.heap.size ≤ gb178));have n3_:=Aside0.mk ((by rw [hg];exact (below_size (by repeat (first|(with_reducible first|exact HB.out|apply below_alloc|apply pw_below_drewN|apply below_drew1)|exact HB.out))) : w.heap.size ≤ gb178));clear HB;have HB:=n0_;have BK178:=n1_;have GW178:=n2_;have GE178:=n3_;clear n0_ n1_ n2_ n3_;clear hb hbox hg;have hcz3_0 : w2.cell? ⟨gb178,0,none⟩ = some (.int .i64 a0_0):=(blk_cell BK178.out 0).trans rfl;have hcz3_1 : w2.cell? ⟨gb178,1,none⟩ = some (.string a0_1):=(blk_cell BK178.out 1).trans rfl;have hcz3_2 : w2.cell? ⟨gb178,2,none⟩ = some (.int .i64 a0_2):=(blk_cell BK178.out 2).trans rfl;have hcz3_3 : w2.cell? ⟨gb178,3,none⟩ = some (.int .i64 a0_3):=(blk_cell BK178.out 3).trans rfl;have hfz3_0:=blk_frozen BK178.out 0;have hfz3_1:=blk_frozen BK178.out 1;have hfz3_2:=blk_frozen BK178.out 2;have hfz3_3:=blk_frozen BK178.out 3)|((with_reducible refine gate_dst (N:=16) rfl ?_);refine Kd.R_lit (Kd.int .i64) _ 3 ?hg (N:=16) ?hd (xs:=([a0_0,a0_2,a0_3] : List Int)) (inner:=[.int .i64 a0_0,.int .i64 a0_2,.int .i64 a0_3]) (ok:=fun _ => True) (okp:=fun _ => True) ?hr ?hp (fun _ hk => hk) trivial (Below.refl _ _) (Nat.le_refl _) (by simp) ?_;(case hd => rfl);(case hg => rfl);(case hr => first|(go_simp;done)|(go_simp;rfl));(case hp => exact (Reps.one (show Kd.M (Kd.int .i64) _ _ _ a0_0 [.int .i64 a0_0] from rfl) (Reps.one (show Kd.M (Kd.int .i64) _ _ _ a0_2 [.int .i64 a0_2] from rfl) (Reps.one (show Kd.M (Kd.int .i64) _ _ _ a0_3 [.int .i64 a0_3] from rfl) (Reps.none _ _)))));intro v180 w4 ho5 hb hg_ hnew_;clear hg_ hnew_;(first|rw [← Ny179.out] at ho5|(simp only [Int.reduceToNat] at ho5;rw [← Ny179.out] at ho5));have n0_:=Aside0.mk (Kd.R_lower ho5 (below_size (by repeat (first|(with_reducible first|exact HB.out|apply below_alloc|apply pw_below_drewN|apply below_drew1|refine below_set ?_ GE178.out)|exact HB.out))));have n1_:=Aside0.mk (blk_below (g:=gb178) (o:=.cells #[.int .i64 a0_0,.string a0_1,.int .i64 a0_2,.int .i64 a0_3] 39 (0,0)) (by (with_reducible repeat (first|refine blk_drewN ?_ _|refine blk_drew ?_|refine blk_alloc ?_ _));exact BK178.out) hb);have n2_:=Aside0.mk (below_step (by repeat (first|(with_reducible first|exact HB.out|apply below_alloc|apply pw_below_drewN|apply below_drew1|refine below_set ?_ GE178.out)|exact HB.out)) hb);clear BK178;clear HB;have HO181:=n0_;have BK178:=n1_;have HB:=n2_;clear n0_ n1_ n2_;clear hb ho5;obtain ⟨Ao6,co6,eo6⟩:=Kd.R_slice HO181.out;subst eo6))
 go_loopg [18] k (fun kq v18 w' => ∃ (x18_1 : Int),v18 = .int .i64 x18_1 ∧ Aside0 (ticket_Handle.l0 kq y179 (y179.length : Int) x18_1 a0_0 a0_1 a0_2 a0_3 = some (r1,r2)) ∧ Aside0 (kq ≤ k) ∧ Aside0 (Kd.R (Kd.int .i64) 3 w' w.heap.size (fun _ => True) (.slice Ao6 y179.length co6) y179) ∧ Aside0 (w'.heap[gb178]? = some (.cells #[.int .i64 a0_0,.string a0_1,.int .i64 a0_2,.int .i64 a0_3] 39 (0,0))) ∧ Aside0 (Below w.heap.size w w'))
 case atStart => exact ⟨(0),(by first|rfl|(simp;done)|(simp;decide +kernel)|(simp [*];done)),(by first|exact H'|(subst_vars;exact H')),⟨Nat.le_refl _⟩,⟨by (with_reducible repeat (first|apply Kd.R_alloc|apply Kd.R_drewN|apply Kd.R_drew));exact HO181.out⟩,⟨by (with_reducible repeat (first|refine blk_drewN ?_ _|refine blk_drew ?_|refine blk_alloc ?_ _));exact BK178.out⟩,⟨by repeat (first|(with_reducible first|exact HB.out|apply below_alloc|apply pw_below_drewN|apply below_drew1|refine below_set ?_ GE178.out)|exact HB.out)⟩⟩
 case round =>
  clear H'
  try clear c2
  try clear p2
  try clear hcz3_0
  try clear hcz3_1
  try clear hcz3_2
  try clear hcz3_3
  try clear hfz3_0
  try clear hfz3_1
  try clear hfz3_2
  try clear hfz3_3
  obtain ⟨x18_1,rfl,HA,HK1,HO_16,BK178,HB⟩:=hrel
  cases gk with
  | zero => exact absurd HA.out (by simp [ticket_Handle.l0])
  | succ k1 =>
   have H:=HA.out
   clear HA
   simp only [ticket_Handle.l0] at H
   by_cases c7 : x18_1 < (y179.length : Int)
   ·rw [if_pos c7] at H
    have c7b0 : decide (x18_1 < (y179.length : Int)) = true:=decide_eq_true c7
    clear c7
    by_cases c8 : 0 ≤ x18_1
    ·rw [if_pos c8] at H
     have c8b0 : decide (0 ≤ x18_1) = true:=decide_eq_true c8
     clear c8
     by_cases c9 : x18_1 < (y179.length : Int)
     ·rw [if_pos c9] at H
      have c9b0 : decide (x18_1 < (y179.length : Int)) = true:=decide_eq_true c9
      clear c9
      by_cases c10 : (rd y179 x18_1) < 0
      ·rw [if_pos c10] at H
       have c10b0 : decide ((rd y179 x18_1) < 0) = true:=decide_eq_true c10
       clear c10
       simp only [Option.some.injEq,Prod.mk.injEq] at H
       obtain ⟨rfl,rfl⟩:=H
       have p182 : 0 ≤ (x18_1 : Int):=of_decide_eq_true (by first|(with_reducible assumption)|assumption)
       have q182 : x18_1 < (y179.length : Int):=of_decide_eq_true (by first|(with_reducible assumption)|assumption)
       obtain ⟨ad182,e182,hx182_0⟩:=Kd.at_int (Kd.R_reads' HO_16.out).2.2 x18_1 p182 q182
       cases e182
       replace p182:=eq_true p182
       replace q182:=eq_true q182
       go_wp2
       go_ret2
       exact ⟨by first|rfl|(simp [errW_none,errW_some] <;> rfl)|(simp [*,errW_none,errW_some] <;> rfl),by repeat (first|(with_reducible first|exact HB.out|apply below_alloc|apply pw_below_drewN|apply below_drew1|refine below_set ?_ GE178.out)|exact HB.out)⟩
      ·rw [if_neg c10] at H
       have c10b0 : decide ((rd y179 x18_1) < 0) = false:=decide_eq_false c10
       clear c10
       by_cases c11 : (rd y179 x18_1) > 1099511627776
       ·rw [if_pos c11] at H
        have c11b0 : decide (1099511627776 < (rd y179 x18_1)) = true:=decide_eq_true c11
        clear c11
        simp only [Option.some.injEq,Prod.mk.injEq] at H
        obtain ⟨rfl,rfl⟩:=H
        have p182 : 0 ≤ (x18_1 : Int):=of_decide_eq_true (by first|(with_reducible assumption)|assumption)
        have q182 : x18_1 < (y179.length : Int):=of_decide_eq_true (by first|(with_reducible assumption)|assumption)
        obtain ⟨ad182,e182,hx182_0⟩:=Kd.at_int (Kd.R_reads' HO_16.out).2.2 x18_1 p182 q182
        cases e182
        replace p182:=eq_true p182
        replace q182:=eq_true q182
        go_wp2
        go_ret2
        exact ⟨by first|rfl|(simp [errW_none,errW_some] <;> rfl)|(simp [*,errW_none,errW_some] <;> rfl),by repeat (first|(with_reducible first|exact HB.out|apply below_alloc|apply pw_below_drewN|apply below_drew1|refine below_set ?_ GE178.out)|exact HB.out)⟩
       ·rw [if_neg c11] at H
        have c11b0 : decide (1099511627776 < (rd y179 x18_1)) = false:=decide_eq_false c11
        clear c11
        have H':=Aside0.mk H
        clear H
        have p182 : 0 ≤ (x18_1 : Int):=of_decide_eq_true (by first|(with_reducible assumption)|assumption)
        have q182 : x18_1 < (y179.length : Int):=of_decide_eq_true (by first|(with_reducible assumption)|assumption)
        obtain ⟨ad182,e182,hx182_0⟩:=Kd.at_int (Kd.R_reads' HO_16.out).2.2 x18_1 p182 q182
        cases e182
        replace p182:=eq_true p182
        replace q182:=eq_true q182
        go_wp2
        go_roundg k1
        case measure => have:=HK1.out;omega
        case rel => exact ⟨(wrap64 (x18_1 + 1)),(by first|rfl|(simp;done)|(simp;decide +kernel)|(simp [*];done)),(by first|exact H'|(subst_vars;exact H')),⟨by have:=HK1.out;omega⟩,⟨by (with_reducible repeat (first|apply Kd.R_alloc|apply Kd.R_drewN|apply Kd.R_drew));exact HO_16.out⟩,⟨by (with_reducible repeat (first|refine blk_drewN ?_ _|refine blk_drew ?_|refine blk_alloc ?_ _));exact BK178.out⟩,⟨by repeat (first|(with_reducible first|exact HB.out|apply below_alloc|apply pw_below_drewN|apply below_drew1|refine below_set ?_ GE178.out)|exact HB.out)⟩⟩
     ·rw [if_neg c9] at H
      exact absurd H (by simp)
    ·rw [if_neg c8] at H
     exact absurd H (by simp)
   ·rw [if_neg c7] at H
    have c7b0 : decide (x18_1 < (y179.length : Int)) = false:=decide_eq_false c7
    clear c7
    by_cases c12 : (a0_1.size : Int) > 32
    ·rw [if_pos c12] at H
     have c12b0 : decide (32 < (a0_1.size : Int)) = true:=decide_eq_true c12
     have c12b1 : decide (32 < a0_1.size) = true:=decide_eq_true (by omega)
     clear c12
     simp only [Option.some.injEq,Prod.mk.injEq] at H
     obtain ⟨rfl,rfl⟩:=H
     have hcz13_0 : wr.cell? ⟨gb178,0,none⟩ = some (.int .i64 a0_0):=(blk_cell BK178.out 0).trans rfl
     have hcz13_1 : wr.cell? ⟨gb178,1,none⟩ = some (.string a0_1):=(blk_cell BK178.out 1).trans rfl
     have hcz13_2 : wr.cell? ⟨gb178,2,none⟩ = some (.int .i64 a0_2):=(blk_cell BK178.out 2).trans rfl
     have hcz13_3 : wr.cell? ⟨gb178,3,none⟩ = some (.int .i64 a0_3):=(blk_cell BK178.out 3).trans rfl
     have hfz13_0:=blk_frozen BK178.out 0
     have hfz13_1:=blk_frozen BK178.out 1
     have hfz13_2:=blk_frozen BK178.out 2
     have hfz13_3:=blk_frozen BK178.out 3
     go_wp2
     go_ret2
     exact ⟨by first|rfl|(simp [errW_none,errW_some] <;> rfl)|(simp [*,errW_none,errW_some] <;> rfl),by repeat (first|(with_reducible first|exact HB.out|apply below_alloc|apply pw_below_drewN|apply below_drew1|refine below_set ?_ GE178.out)|exact HB.out)⟩
    ·rw [if_neg c12] at H
     have c12b0 : decide (32 < (a0_1.size : Int)) = false:=decide_eq_false c12
     have c12b1 : decide (32 < a0_1.size) = false:=decide_eq_false (by omega)
     clear c12
     replace H:=Option.bind_eq_some_iff.mp H
     obtain ⟨⟨t183,t184⟩,A140,H⟩:=H
     replace H : ((octet_Text.f k1 t183 a0_1).bind fun bt187 => ((octet_Num.f k1 bt187.1 a0_2).bind fun bt191 => ((octet_Num.f k1 bt191.1 a0_3).bind fun bt195 => ((crc_Frame.f bt195.1).bind fun bt199 => ((basic_Encode.f bt199.1).bind fun t203 => (some (t203,bt199.2))))))) = some (r1,r2):=H
     have A14:=Aside0.mk A140
     clear A140
     replace H:=Option.bind_eq_some_iff.mp H
     obtain ⟨⟨t187,t188⟩,A150,H⟩:=H
     replace H : ((octet_Num.f k1 t187 a0_2).bind fun bt191 => ((octet_Num.f k1 bt191.1 a0_3).bind fun bt195 => ((crc_Frame.f bt195.1).bind fun bt199 => ((basic_Encode.f bt199.1).bind fun t203 => (some (t203,bt199.2)))))) = some (r1,r2):=H
     have A15:=Aside0.mk A150
     clear A150
     replace H:=Option.bind_eq_some_iff.mp H
     obtain ⟨⟨t191,t192⟩,A160,H⟩:=H
     replace H : ((octet_Num.f k1 t191 a0_3).bind fun bt195 => ((crc_Frame.f bt195.1).bind fun bt199 => ((basic_Encode.f bt199.1).bind fun t203 => (some (t203,bt199.2))))) = some (r1,r2):=H
     have A16:=Aside0.mk A160
     clear A160
     replace H:=Option.bind_eq_some_iff.mp H
     obtain ⟨⟨t195,t196⟩,A170,H⟩:=H
     replace H : ((crc_Frame.f t195).bind fun bt199 => ((basic_Encode.f bt199.1).bind fun t203 => (some (t203,bt199.2)))) = some (r1,r2):=H
     have A17:=Aside0.mk A170
     clear A170
     replace H:=Option.bind_eq_some_iff.mp H
     obtain ⟨⟨t199,t202⟩,A180,H⟩:=H
     replace H : ((basic_Encode.f t199).bind fun t203 => (some (t203,t202))) = some (r1,r2):=H
     have A18:=Aside0.mk A180
     clear A180
     replace H:=Option.bind_eq_some_iff.mp H
     obtain ⟨t203,A190,H⟩:=H
     replace H : (some (t203,t202)) = some (r1,r2):=H
     have A19:=Aside0.mk A190
     clear A190
     simp only [Option.some.injEq,Prod.mk.injEq] at H
     obtain ⟨rfl,rfl⟩:=H
     have hcz20_0 : wr.cell? ⟨gb178,0,none⟩ = some (.int .i64 a0_0):=(blk_cell BK178.out 0).trans rfl
     have hcz20_1 : wr.cell? ⟨gb178,1,none⟩ = some (.string a0_1):=(blk_cell BK178.out 1).trans rfl
     have hcz20_2 : wr.cell? ⟨gb178,2,none⟩ = some (.int .i64 a0_2):=(blk_cell BK178.out 2).trans rfl
     have hcz20_3 : wr.cell? ⟨gb178,3,none⟩ = some (.int .i64 a0_3):=(blk_cell BK178.out 3).trans rfl
     have hfz20_0:=blk_frozen BK178.out 0
     have hfz20_1:=blk_frozen BK178.out 1
     have hfz20_2:=blk_frozen BK178.out 2
     have hfz20_3:=blk_frozen BK178.out 3
     go_wp2_with (first|((with_reducible refine gate_callee (f:=39) rfl ?_);refine goesL_ (some 36) rfl rfl Tryd.func39 (by kernel_rfl) rfl #[.slice none 0 0,.int .i64 a0_0] rfl (by (try simp only [List.map_toArray,List.map_cons,List.map_nil]);first|done|rfl|(simp only [List.length_drop,List.length_take];rfl)) ?_;(refine (octet_Num.calls k1 _ _ ([] : List Int) a0_0 t183 t184 _ ?side1 ?side2 A14.out).mono ?_);(case side1 => exact Kd.C_nil _ _);(case side2 => exact Nat.le_refl _);rintro e w21 ⟨v185,rfl,ho0,hb⟩;refine ⟨_,rfl,?_⟩;have n0_:=Aside0.mk (Kd.R_below (by (with_reducible repeat (first|apply Kd.R_alloc|apply Kd.R_drewN|apply Kd.R_drew));exact HO_16.out) hb);have n1_:=Aside0.mk (Kd.R_lower ho0 (below_size (by repeat (first|(with_reducible first|exact HB.out|apply below_alloc|apply pw_below_drewN|apply below_drew1|refine below_set ?_ GE178.out)|exact HB.out))));have n2_:=Aside0.mk (blk_below (g:=gb178) (o:=.cells #[.int .i64 a0_0,.string a0_1,.int .i64 a0_2,.int .i64 a0_3] 39 (0,0)) (by (with_reducible repeat (first|refine blk_drewN ?_ _|refine blk_drew ?_|refine blk_alloc ?_ _));exact BK178.out) hb);have n3_:=Aside0.mk (below_step (by repeat (first|(with_reducible first|exact HB.out|apply below_alloc|apply pw_below_drewN|apply below_drew1|refine below_set ?_ GE178.out)|exact HB.out)) hb);clear HO_16;clear BK178;clear HB;have HO_16:=n0_;have HO186:=n1_;have BK178:=n2_;have HB:=n3_;clear n0_ n1_ n2_ n3_;(try clear hb);(try clear hb2);(try clear hk);(try clear hi);(try clear ho0);have hcz22_0 : w21.cell? ⟨gb178,0,none⟩ = some (.int .i64 a0_0):=(blk_cell BK178.out 0).trans rfl;have hcz22_1 : w21.cell? ⟨gb178,1,none⟩ = some (.string a0_1):=(blk_cell BK178.out 1).trans rfl;have hcz22_2 : w21.cell? ⟨gb178,2,none⟩ = some (.int .i64 a0_2):=(blk_cell BK178.out 2).trans rfl;have hcz22_3 : w21.cell? ⟨gb178,3,none⟩ = some (.int .i64 a0_3):=(blk_cell BK178.out 3).trans rfl;have hfz22_0:=blk_frozen BK178.out 0;have hfz22_1:=blk_frozen BK178.out 1;have hfz22_2:=blk_frozen BK178.out 2;have hfz22_3:=blk_frozen BK178.out 3;obtain ⟨Ao23,co23,eo23⟩:=Kd.R_slice HO186.out;subst eo23)|((with_reducible refine gate_callee (f:=40) rfl ?_);refine goesL_ (some 43) rfl rfl Tryd.func40 (by kernel_rfl) rfl #[.slice Ao23 t183.length co23,.string a0_1] rfl (by (try simp only [List.map_toArray,List.map_cons,List.map_nil]);first|done|rfl|(simp only [List.length_drop,List.length_take];rfl)) ?_;(with_reducible refine (octet_Text.calls k1 _ _ t183 a0_1 t187 t188 _ ?side1 ?side2 A15.out).mono ?_);(case side1 => repeat (first|exact (Kd.R_reads' HO186.out).2.2|(with_reducible refine Kd.C_alloc ?_ _)|(with_reducible refine Kd.C_drewN ?_ _)|(with_reducible refine Kd.C_drew ?_)));(case side2 => exact (Kd.R_reads' HO186.out).2.1);rintro e w24 ⟨v189,rfl,ho0,hb⟩;refine ⟨_,rfl,?_⟩;have n0_:=Aside0.mk (Kd.R_below (by (with_reducible repeat (first|apply Kd.R_alloc|apply Kd.R_drewN|apply Kd.R_drew));exact HO_16.out) hb);have n1_:=Aside0.mk (Kd.R_elder' (by (with_reducible repeat (first|apply Kd.R_alloc|apply Kd.R_drewN|apply Kd.R_drew));exact HO186.out) (Kd.R_base ho0) hb);have n2_:=Aside0.mk (Kd.R_lower (Kd.R_new' ho0 (Kd.R_lt (by (with_reducible repeat (first|apply Kd.R_alloc|apply Kd.R_drewN|apply Kd.R_drew));exact HO186.out))) (below_size (by repeat (first|(with_reducible first|exact HB.out|apply below_alloc|apply pw_below_drewN|apply below_drew1|refine below_set ?_ GE178.out)|exact HB.out))));have n3_:=Aside0.mk (blk_below (g:=gb178) (o:=.cells #[.int .i64 a0_0,.string a0_1,.int .i64 a0_2,.int .i64 a0_3] 39 (0,0)) (by (with_reducible repeat (first|refine blk_drewN ?_ _|refine blk_drew ?_|refine blk_alloc ?_ _));exact BK178.out) hb);have n4_:=Aside0.mk (below_step (by repeat (first|(with_reducible first|exact HB.out|apply below_alloc|apply pw_below_drewN|apply below_drew1|refine below_set ?_ GE178.out)|exact HB.out)) hb);clear HO_16;clear HO186;clear BK178;clear HB;have HO_16:=n0_;have HO186:=n1_;have HO190:=n2_;have BK178:=n3_;have HB:=n4_;clear n0_ n1_ n2_ n3_ n4_;(try clear hb);(try clear hb2);(try clear hk);(try clear hi);(try clear ho0);have hcz25_0 : w24.cell? ⟨gb178,0,none⟩ = some (.int .i64 a0_0):=(blk_cell BK178.out 0).trans rfl;have hcz25_1 : w24.cell? ⟨gb178,1,none⟩ = some (.string a0_1):=(blk_cell BK178.out 1).trans rfl;have hcz25_2 : w24.cell? ⟨gb178,2,none⟩ = some (.int .i64 a0_2):=(blk_cell BK178.out 2).trans rfl;have hcz25_3 : w24.cell? ⟨gb178,3,none⟩ = some (.int .i64 a0_3):=(blk_cell BK178.out 3).trans rfl;have hfz25_0:=blk_frozen BK178.out 0;have hfz25_1:=blk_frozen BK178.out 1;have hfz25_2:=blk_frozen BK178.out 2;have hfz25_3:=blk_frozen BK178.out 3;obtain ⟨Ao26,co26,eo26⟩:=Kd.R_slice HO190.out;subst eo26)|((with_reducible refine gate_callee (f:=39) rfl ?_);refine goesL_ (some 50) rfl rfl Tryd.func39 (by kernel_rfl) rfl #[.slice Ao26 t187.length co26,.int .i64 a0_2] rfl (by (try simp only [List.map_toArray,List.map_cons,List.map_nil]);first|done|rfl|(simp only [List.length_drop,List.length_take];rfl)) ?_;(with_reducible refine (octet_Num.calls k1 _ _ t187 a0_2 t191 t192 _ ?side1 ?side2 A16.out).mono ?_);(case side1 => repeat (first|exact (Kd.R_reads' HO190.out).2.2|(with_reducible refine Kd.C_alloc ?_ _)|(with_reducible refine Kd.C_drewN ?_ _)|(with_reducible refine Kd.C_drew ?_)));(case side2 => exact (Kd.R_reads' HO190.out).2.1);rintro e w27 ⟨v193,rfl,ho0,hb⟩;refine ⟨_,rfl,?_⟩;have n0_:=Aside0.mk (Kd.R_below (by (with_reducible repeat (first|apply Kd.R_alloc|apply Kd.R_drewN|apply Kd.R_drew));exact HO_16.out) hb);have n1_:=Aside0.mk (Kd.R_elder' (by (with_reducible repeat (first|apply Kd.R_alloc|apply Kd.R_drewN|apply Kd.R_drew));exact HO186.out) (Kd.R_base ho0) hb);have n2_:=Aside0.mk (Kd.R_elder' (by (with_reducible repeat (first|apply Kd.R_alloc|apply Kd.R_drewN|apply Kd.R_drew));exact HO190.out) (Kd.R_base ho0) hb);have n3_:=Aside0.mk (Kd.R_lower (Kd.R_new' (Kd.R_new' ho0 (Kd.R_lt (by (with_reducible repeat (first|apply Kd.R_alloc|apply Kd.R_drewN|apply Kd.R_drew));exact HO186.out))) (Kd.R_lt (by (with_reducible repeat (first|apply Kd.R_alloc|apply Kd.R_drewN|apply Kd.R_drew));exact HO190.out))) (below_size (by repeat (first|(with_reducible first|exact HB.out|apply below_alloc|apply pw_below_drewN|apply below_drew1|refine below_set ?_ GE178.out)|exact HB.out))));have n4_:=Aside0.mk (blk_below (g:=gb178) (o:=.cells #[.int .i64 a0_0,.string a0_1,.int .i64 a0_2,.int .i64 a0_3] 39 (0,0)) (by (with_reducible repeat (first|refine blk_drewN ?_ _|refine blk_drew ?_|refine blk_alloc ?_ _));exact BK178.out) hb);have n5_:=Aside0.mk (below_step (by repeat (first|(with_reducible first|exact HB.out|apply below_alloc|apply pw_below_drewN|apply below_drew1|refine below_set ?_ GE178.out)|exact HB.out)) hb);clear HO_16;clear HO186;clear HO190;clear BK178;clear HB;have HO_16:=n0_;have HO186:=n1_;have HO190:=n2_;have HO194:=n3_;have BK178:=n4_;have HB:=n5_;clear n0_ n1_ n2_ n3_ n4_ n5_;(try clear hb);(try clear hb2);(try clear hk);(try clear hi);(try clear ho0);have hcz28_0 : w27.cell? ⟨gb178,0,none⟩ = some (.int .i64 a0_0):=(blk_cell BK178.out 0).trans rfl;have hcz28_1 : w27.cell? ⟨gb178,1,none⟩ = some (.string a0_1):=(blk_cell BK178.out 1).trans rfl;have hcz28_2 : w27.cell? ⟨gb178,2,none⟩ = some (.int .i64 a0_2):=(blk_cell BK178.out 2).trans rfl;have hcz28_3 : w27.cell? ⟨gb178,3,none⟩ = some (.int .i64 a0_3):=(blk_cell BK178.out 3).trans rfl;have hfz28_0:=blk_frozen BK178.out 0;have hfz28_1:=blk_frozen BK178.out 1;have hfz28_2:=blk_frozen BK178.out 2;have hfz28_3:=blk_frozen BK178.out 3;obtain ⟨Ao29,co29,eo29⟩:=Kd.R_slice HO194.out;subst eo29)|((with_reducible refine gate_callee (f:=39) rfl ?_);refine goesL_ (some 57) rfl rfl Tryd.func39 (by kernel_rfl) rfl #[.slice Ao29 t191.length co29,.int .i64 a0_3] rfl (by (try simp only [List.map_toArray,List.map_cons,List.map_nil]);first|done|rfl|(simp only [List.length_drop,List.length_take];rfl)) ?_;(with_reducible refine (octet_Num.calls k1 _ _ t191 a0_3 t195 t196 _ ?side1 ?side2 A17.out).mono ?_);(case side1 => repeat (first|exact (Kd.R_reads' HO194.out).2.2|(with_reducible refine Kd.C_alloc ?_ _)|(with_reducible refine Kd.C_drewN ?_ _)|(with_reducible refine Kd.C_drew ?_)));(case side2 => exact (Kd.R_reads' HO194.out).2.1);rintro e w30 ⟨v197,rfl,ho0,hb⟩;refine ⟨_,rfl,?_⟩;have n0_:=Aside0.mk (Kd.R_below (by (with_reducible repeat (first|apply Kd.R_alloc|apply Kd.R_drewN|apply Kd.R_drew));exact HO_16.out) hb);have n1_:=Aside0.mk (Kd.R_elder' (by (with_reducible repeat (first|apply Kd.R_alloc|apply Kd.R_drewN|apply Kd.R_drew));exact HO186.out) (Kd.R_base ho0) hb);have n2_:=Aside0.mk (Kd.R_elder' (by (with_reducible repeat (first|apply Kd.R_alloc|apply Kd.R_drewN|apply Kd.R_drew));exact HO190.out) (Kd.R_base ho0) hb);have n3_:=Aside0.mk (Kd.R_elder' (by (with_reducible repeat (first|apply Kd.R_alloc|apply Kd.R_drewN|apply Kd.R_drew));exact HO194.out) (Kd.R_base ho0) hb);have n4_:=Aside0.mk (Kd.R_lower (Kd.R_new' (Kd.R_new' (Kd.R_new' ho0 (Kd.R_lt (by (with_reducible repeat (first|apply Kd.R_alloc|apply Kd.R_drewN|apply Kd.R_drew));exact HO186.out))) (Kd.R_lt (by (with_reducible repeat (first|apply Kd.R_alloc|apply Kd.R_drewN|apply Kd.R_drew));exact HO190.out))) (Kd.R_lt (by (with_reducible repeat (first|apply Kd.R_alloc|apply Kd.R_drewN|apply Kd.R_drew));exact HO194.out))) (below_size (by repeat (first|(with_reducible first|exact HB.out|apply below_alloc|apply pw_below_drewN|apply below_drew1|refine below_set ?_ GE178.out)|exact HB.out))));have n5_:=Aside0.mk (blk_below (g:=gb178) (o:=.cells #[.int .i64 a0_0,.string a0_1,.int .i64 a0_2,.int .i64 a0_3] 39 (0,0)) (by (with_reducible repeat (first|refine blk_drewN ?_ _|refine blk_drew ?_|refine blk_alloc ?_ _));exact BK178.out) hb);have n6_:=Aside0.mk (below_step (by repeat (first|(with_reducible first|exact HB.out|apply below_alloc|apply pw_below_drewN|apply below_drew1|refine below_set ?_ GE178.out)|exact HB.out)) hb);clear HO_16;clear HO186;clear HO190;clear HO194;clear BK178;clear HB;have HO_16:=n0_;have HO186:=n1_;have HO190:=n2_;have HO194:=n3_;have HO198:=n4_;have BK178:=n5_;have HB:=n6_;clear n0_ n1_ n2_ n3_ n4_ n5_ n6_;(try clear hb);(try clear hb2);(try clear hk);(try clear hi);(try clear ho0);obtain ⟨Ao31,co31,eo31⟩:=Kd.R_slice HO198.out;subst eo31)|((with_reducible refine gate_callee (f:=41) rfl ?_);refine goesL_ (some 62) rfl rfl Tryd.func41 (by kernel_rfl) rfl #[.slice Ao31 t195.length co31] rfl (by (try simp only [List.map_toArray,List.map_cons,List.map_nil]);first|done|rfl|(simp only [List.length_drop,List.length_take];rfl)) ?_;(with_reducible refine (crc_Frame.calls (fun k_ => some k_ = (.slice Ao31 t195.length co31 : Value).ownBlock) _ _ t195 t199 t202 _ ?side2 ?side1 A18.out).mono ?_);(case side1 => exact Kd.R_V (Kd.R_tight rfl (Kd.R_types (Kd.R_apart' (HO198.out) (Kd.R_typed HO_16.out) (by decide)) BK178.out (by decide))));(case side2 => first|exact HGCr.out|exact GlobCr.below HGCr.out (by repeat (first|(with_reducible first|exact HB.out|apply below_alloc|apply pw_below_drewN|apply below_drew1|refine below_set ?_ GE178.out)|exact HB.out))|exact GlobCr.drawn HGCr.out (by repeat (first|exact Drawn0.refl _|apply Drawn0.step)));rintro e w32 ⟨v200,rfl,ho0,hb⟩;refine ⟨_,rfl,?_⟩;have n0_:=Aside0.mk (Kd.R_below (by (with_reducible repeat (first|apply Kd.R_alloc|apply Kd.R_drewN|apply Kd.R_drew));exact HO_16.out) hb);have n1_:=Aside0.mk (Kd.R_elder' (by (with_reducible repeat (first|apply Kd.R_alloc|apply Kd.R_drewN|apply Kd.R_drew));exact HO186.out) (Kd.R_base ho0) hb);have n2_:=Aside0.mk (Kd.R_elder' (by (with_reducible repeat (first|apply Kd.R_alloc|apply Kd.R_drewN|apply Kd.R_drew));exact HO190.out) (Kd.R_base ho0) hb);have n3_:=Aside0.mk (Kd.R_elder' (by (with_reducible repeat (first|apply Kd.R_alloc|apply Kd.R_drewN|apply Kd.R_drew));exact HO194.out) (Kd.R_base ho0) hb);have n4_:=Aside0.mk (Kd.R_elder' (by (with_reducible repeat (first|apply Kd.R_alloc|apply Kd.R_drewN|apply Kd.R_drew));exact HO198.out) (Kd.R_base ho0) hb);have n5_:=Aside0.mk (Kd.R_lower (Kd.R_new' (Kd.R_new' (Kd.R_new' (Kd.R_new' (Kd.R_mono (ok':=fun k_ => True) ho0 (fun _ hk_ => trivial)) (Kd.R_lt (by (with_reducible repeat (first|apply Kd.R_alloc|apply Kd.R_drewN|apply Kd.R_drew));exact HO186.out))) (Kd.R_lt (by (with_reducible repeat (first|apply Kd.R_alloc|apply Kd.R_drewN|apply Kd.R_drew));exact HO190.out))) (Kd.R_lt (by (with_reducible repeat (first|apply Kd.R_alloc|apply Kd.R_drewN|apply Kd.R_drew));exact HO194.out))) (Kd.R_lt (by (with_reducible repeat (first|apply Kd.R_alloc|apply Kd.R_drewN|apply Kd.R_drew));exact HO198.out))) (below_size (by repeat (first|(with_reducible first|exact HB.out|apply below_alloc|apply pw_below_drewN|apply below_drew1|refine below_set ?_ GE178.out)|exact HB.out))));have n6_:=Aside0.mk (blk_below (g:=gb178) (o:=.cells #[.int .i64 a0_0,.string a0_1,.int .i64 a0_2,.int .i64 a0_3] 39 (0,0)) (by (with_reducible repeat (first|refine blk_drewN ?_ _|refine blk_drew ?_|refine blk_alloc ?_ _));exact BK178.out) hb);have n7_:=Aside0.mk (below_step (by repeat (first|(with_reducible first|exact HB.out|apply below_alloc|apply pw_below_drewN|apply below_drew1|refine below_set ?_ GE178.out)|exact HB.out)) hb);clear HO_16;clear HO186;clear HO190;clear HO194;clear HO198;clear BK178;clear HB;have HO_16:=n0_;have HO186:=n1_;have HO190:=n2_;have HO194:=n3_;have HO198:=n4_;have HO201:=n5_;have BK178:=n6_;have HB:=n7_;clear n0_ n1_ n2_ n3_ n4_ n5_ n6_ n7_;(try clear hb);(try clear hb2);(try clear hk);(try clear hi);(try clear ho0);obtain ⟨Ao33,co33,eo33⟩:=Kd.R_slice HO201.out;subst eo33)|((with_reducible refine gate_callee (f:=42) rfl ?_);refine goesL_ (some 66) rfl rfl Tryd.func42 (by kernel_rfl) rfl #[.slice Ao33 t199.length co33] rfl (by (try simp only [List.map_toArray,List.map_cons,List.map_nil]);first|done|rfl|(simp only [List.length_drop,List.length_take];rfl)) ?_;(with_reducible refine (basic_Encode.calls _ _ t199 t203 _ ?side1 ?side2 A19.out).mono ?_);(case side1 => repeat (first|exact (Kd.R_reads' HO201.out).2.2|(with_reducible refine Kd.C_alloc ?_ _)|(with_reducible refine Kd.C_drewN ?_ _)|(with_reducible refine Kd.C_drew ?_)));(case side2 => exact (Kd.R_reads' HO201.out).2.1);rintro e w34 ⟨rfl,hb⟩;refine ⟨_,rfl,?_⟩;have n0_:=Aside0.mk (Kd.R_below (by (with_reducible repeat (first|apply Kd.R_alloc|apply Kd.R_drewN|apply Kd.R_drew));exact HO_16.out) hb);have n1_:=Aside0.mk (Kd.R_below (by (with_reducible repeat (first|apply Kd.R_alloc|apply Kd.R_drewN|apply Kd.R_drew));exact HO186.out) hb);have n2_:=Aside0.mk (Kd.R_below (by (with_reducible repeat (first|apply Kd.R_alloc|apply Kd.R_drewN|apply Kd.R_drew));exact HO190.out) hb);have n3_:=Aside0.mk (Kd.R_below (by (with_reducible repeat (first|apply Kd.R_alloc|apply Kd.R_drewN|apply Kd.R_drew));exact HO194.out) hb);have n4_:=Aside0.mk (Kd.R_below (by (with_reducible repeat (first|apply Kd.R_alloc|apply Kd.R_drewN|apply Kd.R_drew));exact HO198.out) hb);have n5_:=Aside0.mk (Kd.R_below (by (with_reducible repeat (first|apply Kd.R_alloc|apply Kd.R_drewN|apply Kd.R_drew));exact HO201.out) hb);have n6_:=Aside0.mk (blk_below (g:=gb178) (o:=.cells #[.int .i64 a0_0,.string a0_1,.int .i64 a0_2,.int .i64 a0_3] 39 (0,0)) (by (with_reducible repeat (first|refine blk_drewN ?_ _|refine blk_drew ?_|refine blk_alloc ?_ _));exact BK178.out) hb);have n7_:=Aside0.mk (below_step (by repeat (first|(with_reducible first|exact HB.out|apply below_alloc|apply pw_below_drewN|apply below_drew1|refine below_set ?_ GE178.out)|exact HB.out)) hb);clear HO_16;clear HO186;clear HO190;clear HO194;clear HO198;clear HO201;clear BK178;clear HB;have HO_16:=n0_;have HO186:=n1_;have HO190:=n2_;have HO194:=n3_;have HO198:=n4_;have HO201:=n5_;have BK178:=n6_;have HB:=n7_;clear n0_ n1_ n2_ n3_ n4_ n5_ n6_ n7_;(try clear hb);(try clear hb2);(try clear hk);(try clear hi)))
     go_ret2
     exact ⟨by first|rfl|(simp [errW_none,errW_some] <;> rfl)|(simp [*,errW_none,errW_some] <;> rfl),by repeat (first|(with_reducible first|exact HB.out|apply below_alloc|apply pw_below_drewN|apply below_drew1|refine below_set ?_ GE178.out)|exact HB.out)⟩
end Go.Proofs.YtedfgkjimnjdpaaDoor.X
namespace Go.Proofs.YtedfgkjimnjdpaaDoor.X
open Go.RowKit Go.Proofs.YtedfgkjimnjdpaaDoorW.PrintWords Go.Proofs.YtedfgkjimnjdpaaDoorW.PrintLast Go.Proofs.YtedfgkjimnjdpaaDoorW.PrintMore
attribute [local go_sem] max2_int min2_int max_two min_two max_three min_three max_four min_four
set_option linter.unusedVariables false
set_option linter.unusedSimpArgs false
def racewayref27_num.f (a0 : Int) : Option (Bool):=if a0 ≥ 0 then (some (decide (a0 ≤ 1099511627776))) else (some false)
set_option maxHeartbeats 8000000 in
set_option maxRecDepth 100000 in
theorem racewayref27_num.calls (a0 : Int) (r : Bool) (w : World) (h : racewayref27_num.f a0 = some r) :
  Calls Tryd.prog 43 #[.int .i64 a0] w fun e w' => e = .returned (.bool r) ∧ Drawn0 w w':=by
 have H : (if a0 ≥ 0 then (some (decide (a0 ≤ 1099511627776))) else (some false)) = some r:=h
 clear h
 by_cases c2 : a0 ≥ 0
 ·rw [if_pos c2] at H
  have c2b0 : decide (0 ≤ a0) = true:=decide_eq_true c2
  clear c2
  obtain rfl:=Option.some.inj H
  go_enter Tryd.func43,Tryd.ntmps43
  go_wp2
  go_ret
  exact ⟨by first|rfl|(simp;done)|(simp;decide +kernel)|(simp [*];done),by repeat (first|exact Drawn0.refl _|apply Drawn0.step)⟩
 ·rw [if_neg c2] at H
  have c2b0 : decide (0 ≤ a0) = false:=decide_eq_false c2
  clear c2
  obtain rfl:=Option.some.inj H
  go_enter Tryd.func43,Tryd.ntmps43
  go_wp2
  go_ret
  exact ⟨by first|rfl|(simp;done)|(simp;decide +kernel)|(simp [*];done),by repeat (first|exact Drawn0.refl _|apply Drawn0.step)⟩
end Go.Proofs.YtedfgkjimnjdpaaDoor.X
namespace Go.Proofs.YtedfgkjimnjdpaaDoor.X
open Go.RowKit Go.Proofs.YtedfgkjimnjdpaaDoorW.PrintWords Go.Proofs.YtedfgkjimnjdpaaDoorW.PrintLast Go.Proofs.YtedfgkjimnjdpaaDoorW.PrintMore
attribute [local go_sem] max2_int min2_int max_two min_two max_three min_three max_four min_four
set_option linter.unusedVariables false
set_option linter.unusedSimpArgs false
mutual
def racewayref01_Num.j0 : Nat → List Int → Int → Bool → Option (List Int × Int)
 | 0,_,_,_ => none
 | k + 1,x0,x1,x12 => if x12 = true then (some (([] : List Int),2)) else ((some (([] : List Int) : List Int)).bind fun y204 => (if y204.length + x0.length < 140737488355328 then (racewayref01_Num.l0 k x1 (y204 ++ x0)) else (none)))
def racewayref01_Num.l0 : Nat → Int → List Int → Option (List Int × Int)
 | 0,_,_ => none
 | k + 1,x1,x6 => if x1 ≥ 128 then (if x6.length < 140737488355328 then (racewayref01_Num.l0 k (wrap64 (Int.tdiv x1 128)) (x6 ++ [(wrap64 ((Int.tmod x1 128) + 128)) % 256])) else (none)) else (if x6.length < 140737488355328 then (some ((x6 ++ [(x1) % 256]),0)) else (none))
end
def racewayref01_Num.f (k : Nat) (l0 : List Int) (a1 : Int) : Option (List Int × Int):=if a1 < 0 then (racewayref01_Num.j0 k l0 a1 true) else (racewayref01_Num.j0 k l0 a1 (decide (a1 > 4611686018427387904)))
set_option maxHeartbeats 8000000 in
set_option maxRecDepth 100000 in
theorem racewayref01_Num.calls (k : Nat) (A0 : Option Addr) (c0 : Nat) (l0 : List Int) (a1 : Int) (r1 : List Int) (r2 : Int) (w : World) (hr0 : Kd.C (Kd.int .u8) w A0 l0.length l0) (hc0 : l0.length ≤ c0) (h : racewayref01_Num.f k l0 a1 = some (r1,r2)) :
  Calls Tryd.prog 44 #[.slice A0 l0.length c0,.int .i64 a1] w fun e w' => ∃ v0_ : Value,e = .returned (.tuple #[v0_,.int .i64 r2]) ∧ Kd.R (Kd.int .u8) 5 w' w.heap.size (fun _ => True) v0_ r1 ∧ Below w.heap.size w w':=by
 have HR0:=Aside0.mk hr0
 have HC0:=Aside0.mk hc0
 clear hr0 hc0
 have HB:=Aside0.mk (Below.refl w.heap.size w)
 have H : (if a1 < 0 then (racewayref01_Num.j0 k l0 a1 true) else (racewayref01_Num.j0 k l0 a1 (decide (a1 > 4611686018427387904)))) = some (r1,r2):=h
 clear h
 have HC3:=Aside0.mk H
 clear H
 go_enter Tryd.func44,Tryd.ntmps44
 go_upto_region 1 with (fail)
 go_cut [12] (fun v12 wc => ∃ (kq : Nat) (x12_2 : Bool),v12 = .bool x12_2 ∧ Aside0 (racewayref01_Num.j0 kq l0 a1 x12_2 = some (r1,r2)) ∧ Aside0 (kq ≤ k) ∧ Aside0 (Below w.heap.size w wc))
 case first =>
  have H:=HC3.out
  clear HC3
  by_cases c4 : a1 < 0
  ·rw [if_pos c4] at H
   have c4b0 : decide (a1 < 0) = true:=decide_eq_true c4
   clear c4
   (first|rw [c4b0]|(simp only [i64_w,i32_w];rw [c4b0])|skip)
   have H':=Aside0.mk H
   clear H
   go_wp2
   go_meet
   case rel => exact ⟨_,(true),(by first|rfl|(simp;done)|(simp;decide +kernel)|(simp [*];done)),(by first|exact H'|(subst_vars;exact H')),⟨by first|omega|exact Nat.le_refl _⟩,⟨by repeat (first|(with_reducible first|exact HB.out|apply below_alloc|apply pw_below_drewN|apply below_drew1)|exact HB.out)⟩⟩
  ·rw [if_neg c4] at H
   have c4b0 : decide (a1 < 0) = false:=decide_eq_false c4
   clear c4
   (first|rw [c4b0]|(simp only [i64_w,i32_w];rw [c4b0])|skip)
   have H':=Aside0.mk H
   clear H
   go_wp2
   go_meet
   case rel => exact ⟨_,(decide (a1 > 4611686018427387904)),(by first|rfl|(simp;done)|(simp;decide +kernel)|(simp [*];done)),(by first|exact H'|(subst_vars;exact H')),⟨by first|omega|exact Nat.le_refl _⟩,⟨by repeat (first|(with_reducible first|exact HB.out|apply below_alloc|apply pw_below_drewN|apply below_drew1)|exact HB.out)⟩⟩
 case rest =>
  clear HC3
  try clear p2
  try clear c4
  try clear c4b0
  obtain ⟨kq,x12_2,rfl,HA,HJ2,HB⟩:=hcut
  cases kq with
  | zero => exact absurd HA.out (by simp [racewayref01_Num.j0])
  | succ kj2 =>
   have H:=HA.out
   clear HA
   simp only [racewayref01_Num.j0] at H
   by_cases c5 : x12_2 = true
   ·subst c5
    have H1 : (some (([] : List Int),2)) = some (r1,r2):=by rw [if_pos rfl] at H;exact H
    clear H
    have H:=H1
    clear H1
    simp only [Option.some.injEq,Prod.mk.injEq] at H
    obtain ⟨rfl,rfl⟩:=H
    go_wp2
    go_ret2
    exact ⟨_,by first|rfl|(simp [errW_none,errW_some] <;> rfl)|(simp [*,errW_none,errW_some] <;> rfl),by first|exact Kd.R_nil _ _ _ _ _|exact Kd.N_nil _ _ _ _ _|exact Kd.V_nil _ _ _ _ _|exact Kd.Q_nil _ _ _ _ _|exact Kd.S_nil _ _ _ _ _,by repeat (first|(with_reducible first|exact HB.out|apply below_alloc|apply pw_below_drewN|apply below_drew1)|exact HB.out)⟩
   ·replace c5:=Bool.eq_false_iff.mpr c5
    subst c5
    have H1 : ((some (([] : List Int) : List Int)).bind fun y204 => (if y204.length + l0.length < 140737488355328 then (racewayref01_Num.l0 kj2 a1 (y204 ++ l0)) else (none))) = some (r1,r2):=by rw [if_neg (show ¬ (false = true) by decide)] at H;exact H
    clear H
    have H:=H1
    clear H1
    obtain ⟨y204,hy204⟩ : ∃ y_ : List Int,y_ = (([] : List Int)):=⟨_,rfl⟩
    replace H : (if y204.length + l0.length < 140737488355328 then (racewayref01_Num.l0 kj2 a1 (y204 ++ l0)) else (none)) = some (r1,r2):=by first|(rw [hy204];with_reducible exact H)|(have H2_:=(Option.bind_some _ _).symm.trans H;rw [hy204];with_reducible exact H2_)|(have H2_:=(Option.bind_some _ _).symm.trans H;with_reducible exact H2_)|with_reducible exact H|(rw [hy204];exact H)|exact H
    have Ny204:=Aside0.mk hy204
    clear hy204
    by_cases c6 : y204.length + l0.length < 140737488355328
    ·rw [if_pos c6] at H
     have LMc6:=Aside0.mk c6
     clear c6
     obtain ⟨y207,hy207⟩ : ∃ y_ : List Int,y_ = (y204 ++ l0):=⟨_,rfl⟩
     replace H : (racewayref01_Num.l0 kj2 a1 y207) = some (r1,r2):=by first|(rw [hy207];with_reducible exact H)|(have H2_:=(Option.bind_some _ _).symm.trans H;rw [hy207];with_reducible exact H2_)|(have H2_:=(Option.bind_some _ _).symm.trans H;with_reducible exact H2_)|with_reducible exact H|(rw [hy207];exact H)|exact H
     have Ny207:=Aside0.mk hy207
     clear hy207
     have H':=Aside0.mk H
     clear H
     go_wp2_with (first|((with_reducible refine gate_dst (N:=13) rfl ?_);refine Kd.R_lit (Kd.int .u8) _ 5 ?hg (N:=13) ?hd (xs:=([] : List Int)) (inner:=[]) (ok:=fun _ => True) (okp:=fun _ => True) ?hr ?hp (fun _ hk => hk) trivial (Below.refl _ _) (Nat.le_refl _) (by simp) ?_;(case hd => rfl);(case hg => rfl);(case hr => first|(go_simp;done)|(go_simp;rfl));(case hp => exact (Reps.none _ _));intro v205 w7 ho8 hb hg_ hnew_;clear hg_ hnew_;(first|rw [← Ny204.out] at ho8|(simp only [Int.reduceToNat] at ho8;rw [← Ny204.out] at ho8));have n0_:=Aside0.mk (Kd.R_lower ho8 (below_size (by repeat (first|(with_reducible first|exact HB.out|apply below_alloc|apply pw_below_drewN|apply below_drew1)|exact HB.out))));have n1_:=Aside0.mk (below_step (by repeat (first|(with_reducible first|exact HB.out|apply below_alloc|apply pw_below_drewN|apply below_drew1)|exact HB.out)) hb);clear HB;have HO206:=n0_;have HB:=n1_;clear n0_ n1_;clear hb ho8)|((with_reducible refine gate_builtin (b:=.append) (xs:=#[.tmp 13,.tmp 14]) rfl ?_);at_builtin;refine Kd.R_append_rows (Kd.int .u8) (w0:=w) w.heap.size rfl (.tmp 13) (.tmp 14) 49 5 (.int .u8 0) 1 rfl Tryd.underlying49 info5 rfl (by decide) (by omega) v205 y204 l0 _ _ _ (fun _ => True) (fun _ => False) rfl rfl ?aO ?aR (fun _ _ h => h) (fun _ h => h.elim) ?aF ?aB ?aS ?aL ?_;(case aR => repeat (first|exact (Kd.C_below HR0.out HB.out)|(with_reducible refine Kd.C_alloc ?_ _)|(with_reducible refine Kd.C_drewN ?_ _)|(with_reducible refine Kd.C_drew ?_)));(case aB => exact (by repeat (first|(with_reducible first|exact HB.out|apply below_alloc|apply pw_below_drewN|apply below_drew1)|exact HB.out)));(case aF => exact (fun _ _ => trivial));(case aO => exact (by (with_reducible repeat (first|apply Kd.R_alloc|apply Kd.R_drewN|apply Kd.R_drew));exact HO206.out));(case aS => exact (below_size (by repeat (first|(with_reducible first|exact HB.out|apply below_alloc|apply pw_below_drewN|apply below_drew1)|exact HB.out))));(case aL => have:=LMc6.out;omega);intro v208 w9 ho hb hg hat;rw [← Ny207.out] at ho;have n0_:=Aside0.mk (hb);have n1_:=Aside0.mk (ho);clear HB;clear HO206;have HB:=n0_;have HO209:=n1_;clear n0_ n1_;clear ho hb hg hat))
     go_loopg [1,6] kj2 (fun kq v1 v6 w' => ∃ (x1_2 : Int) (x6_2 : List Int),v1 = .int .i64 x1_2 ∧ Aside0 (racewayref01_Num.l0 kq x1_2 x6_2 = some (r1,r2)) ∧ Aside0 (kq ≤ kj2) ∧ Aside0 (Kd.R (Kd.int .u8) 5 w' w.heap.size (fun _ => True) v6 x6_2) ∧ Aside0 (Below w.heap.size w w'))
     case atStart => exact ⟨(a1),(y207),(by first|rfl|(simp;done)|(simp;decide +kernel)|(simp [*];done)),(by first|exact H'|(subst_vars;exact H')),⟨Nat.le_refl _⟩,⟨by (with_reducible repeat (first|apply Kd.R_alloc|apply Kd.R_drewN|apply Kd.R_drew));exact HO209.out⟩,⟨by repeat (first|(with_reducible first|exact HB.out|apply below_alloc|apply pw_below_drewN|apply below_drew1)|exact HB.out)⟩⟩
     case round =>
      clear H'
      try clear p2
      try clear c4
      try clear c4b0
      try clear c5
      try clear c6
      try clear p2
      obtain ⟨x1_2,x6_2,rfl,HA,HK2,HO_6,HB⟩:=hrel
      cases gk with
      | zero => exact absurd HA.out (by simp [racewayref01_Num.l0])
      | succ k2 =>
       have H:=HA.out
       clear HA
       simp only [racewayref01_Num.l0] at H
       by_cases c10 : x1_2 ≥ 128
       ·rw [if_pos c10] at H
        have c10b0 : decide (128 ≤ x1_2) = true:=decide_eq_true c10
        clear c10
        by_cases c11 : x6_2.length < 140737488355328
        ·rw [if_pos c11] at H
         have LMc11:=Aside0.mk c11
         clear c11
         obtain ⟨y210,hy210⟩ : ∃ y_ : List Int,y_ = (x6_2 ++ [(wrap64 ((Int.tmod x1_2 128) + 128)) % 256]):=⟨_,rfl⟩
         replace H : (racewayref01_Num.l0 k2 (wrap64 (Int.tdiv x1_2 128)) y210) = some (r1,r2):=by first|(rw [hy210];with_reducible exact H)|(have H2_:=(Option.bind_some _ _).symm.trans H;rw [hy210];with_reducible exact H2_)|(have H2_:=(Option.bind_some _ _).symm.trans H;with_reducible exact H2_)|with_reducible exact H|(rw [hy210];exact H)|exact H
         have Ny210:=Aside0.mk hy210
         clear hy210
         have H':=Aside0.mk H
         clear H
         go_wp2_with (first|((with_reducible refine gate_builtin (b:=.append) (xs:=#[.tmp 18,.tmp 23]) rfl ?_);at_builtin;refine Kd.R_append (Kd.int .u8) (w0:=w) w.heap.size rfl (.tmp 18) (.tmp 23) 49 5 (.int .u8 0) 1 rfl Tryd.underlying49 info5 rfl (by decide) (by omega) u6 x6_2 ((wrap64 ((Int.tmod x1_2 128) + 128)) % 256) [.int .u8 ((wrap64 ((Int.tmod x1_2 128) + 128)) % 256)] (fun _ => True) (fun _ => False) rfl rfl ?aP (fun _ hk => hk.elim) ?aF ?aO ?aB ?aS ?aL ?_;(case aP => exact rfl);(case aB => exact (by repeat (first|(with_reducible first|exact HB.out|apply below_alloc|apply pw_below_drewN|apply below_drew1)|exact HB.out)));(case aF => exact (fun _ _ => trivial));(case aO => exact (by (with_reducible repeat (first|apply Kd.R_alloc|apply Kd.R_drewN|apply Kd.R_drew));exact HO_6.out));(case aS => exact (below_size (by repeat (first|(with_reducible first|exact HB.out|apply below_alloc|apply pw_below_drewN|apply below_drew1)|exact HB.out))));(case aL => have:=LMc11.out;omega);intro v211 w12 ho hb hg hat;rw [← Ny210.out] at ho;have n0_:=Aside0.mk (hb);have n1_:=Aside0.mk (ho);clear HB;clear HO_6;have HB:=n0_;have HO212:=n1_;clear n0_ n1_;clear ho hb hg hat))
         go_roundg k2
         case measure => have:=HJ2.out;have:=HK2.out;omega
         case rel => exact ⟨(wrap64 (Int.tdiv x1_2 128)),(y210),(by first|rfl|(simp;done)|(simp;decide +kernel)|(simp [*];done)),(by first|exact H'|(subst_vars;exact H')),⟨by have:=HJ2.out;have:=HK2.out;omega⟩,⟨by (with_reducible repeat (first|apply Kd.R_alloc|apply Kd.R_drewN|apply Kd.R_drew));exact HO212.out⟩,⟨by repeat (first|(with_reducible first|exact HB.out|apply below_alloc|apply pw_below_drewN|apply below_drew1)|exact HB.out)⟩⟩
        ·rw [if_neg c11] at H
         exact absurd H (by simp)
       ·rw [if_neg c10] at H
        have c10b0 : decide (128 ≤ x1_2) = false:=decide_eq_false c10
        clear c10
        by_cases c13 : x6_2.length < 140737488355328
        ·rw [if_pos c13] at H
         have LMc13:=Aside0.mk c13
         clear c13
         obtain ⟨y213,hy213⟩ : ∃ y_ : List Int,y_ = (x6_2 ++ [(x1_2) % 256]):=⟨_,rfl⟩
         replace H : (some (y213,0)) = some (r1,r2):=by first|(rw [hy213];with_reducible exact H)|(have H2_:=(Option.bind_some _ _).symm.trans H;rw [hy213];with_reducible exact H2_)|(have H2_:=(Option.bind_some _ _).symm.trans H;with_reducible exact H2_)|with_reducible exact H|(rw [hy213];exact H)|exact H
         have Ny213:=Aside0.mk hy213
         clear hy213
         simp only [Option.some.injEq,Prod.mk.injEq] at H
         obtain ⟨rfl,rfl⟩:=H
         go_wp2_with (first|((with_reducible refine gate_builtin (b:=.append) (xs:=#[.tmp 27,.tmp 30]) rfl ?_);at_builtin;refine Kd.R_append (Kd.int .u8) (w0:=w) w.heap.size rfl (.tmp 27) (.tmp 30) 49 5 (.int .u8 0) 1 rfl Tryd.underlying49 info5 rfl (by decide) (by omega) u6 x6_2 ((x1_2) % 256) [.int .u8 ((x1_2) % 256)] (fun _ => True) (fun _ => False) rfl rfl ?aP (fun _ hk => hk.elim) ?aF ?aO ?aB ?aS ?aL ?_;(case aP => exact rfl);(case aB => exact (by repeat (first|(with_reducible first|exact HB.out|apply below_alloc|apply pw_below_drewN|apply below_drew1)|exact HB.out)));(case aF => exact (fun _ _ => trivial));(case aO => exact (by (with_reducible repeat (first|apply Kd.R_alloc|apply Kd.R_drewN|apply Kd.R_drew));exact HO_6.out));(case aS => exact (below_size (by repeat (first|(with_reducible first|exact HB.out|apply below_alloc|apply pw_below_drewN|apply below_drew1)|exact HB.out))));(case aL => have:=LMc13.out;omega);intro v214 w14 ho hb hg hat;rw [← Ny213.out] at ho;have n0_:=Aside0.mk (hb);have n1_:=Aside0.mk (ho);clear HB;clear HO_6;have HB:=n0_;have HO215:=n1_;clear n0_ n1_;clear ho hb hg hat))
         go_ret2
         exact ⟨_,by first|rfl|(simp [errW_none,errW_some] <;> rfl)|(simp [*,errW_none,errW_some] <;> rfl),by (with_reducible repeat (first|apply Kd.R_alloc|apply Kd.R_drewN|apply Kd.R_drew));exact HO215.out,by repeat (first|(with_reducible first|exact HB.out|apply below_alloc|apply pw_below_drewN|apply below_drew1)|exact HB.out)⟩
        ·rw [if_neg c13] at H
         exact absurd H (by simp)
    ·rw [if_neg c6] at H
     exact absurd H (by simp)
end Go.Proofs.YtedfgkjimnjdpaaDoor.X
namespace Go.Proofs.YtedfgkjimnjdpaaDoor.X
open Go.RowKit Go.Proofs.YtedfgkjimnjdpaaDoorW.PrintWords Go.Proofs.YtedfgkjimnjdpaaDoorW.PrintLast Go.Proofs.YtedfgkjimnjdpaaDoorW.PrintMore
attribute [local go_sem] max2_int min2_int max_two min_two max_three min_three max_four min_four
set_option linter.unusedVariables false
set_option linter.unusedSimpArgs false
def racewayref01_Text.f (k : Nat) (l0 : List Int) (a1 : ByteArray) : Option (List Int × Int):=if (a1.size : Int) > 4096 then (some (([] : List Int),3)) else ((racewayref01_Num.f k l0 (a1.size : Int)).bind fun bt216 => (if bt216.1.length + a1.size < 140737488355328 then (some ((bt216.1 ++ bytesOf a1),0)) else (none)))
set_option maxHeartbeats 8000000 in
set_option maxRecDepth 100000 in
theorem racewayref01_Text.calls (k : Nat) (A0 : Option Addr) (c0 : Nat) (l0 : List Int) (a1 : ByteArray) (r1 : List Int) (r2 : Int) (w : World) (hr0 : Kd.C (Kd.int .u8) w A0 l0.length l0) (hc0 : l0.length ≤ c0) (h : racewayref01_Text.f k l0 a1 = some (r1,r2)) :
  Calls Tryd.prog 45 #[.slice A0 l0.length c0,.string a1] w fun e w' => ∃ v0_ : Value,e = .returned (.tuple #[v0_,.int .i64 r2]) ∧ Kd.R (Kd.int .u8) 5 w' w.heap.size (fun _ => True) v0_ r1 ∧ Below w.heap.size w w':=by
 have HR0:=Aside0.mk hr0
 have HC0:=Aside0.mk hc0
 clear hr0 hc0
 have HB:=Aside0.mk (Below.refl w.heap.size w)
 have H : (if (a1.size : Int) > 4096 then (some (([] : List Int),3)) else ((racewayref01_Num.f k l0 (a1.size : Int)).bind fun bt216 => (if bt216.1.length + a1.size < 140737488355328 then (some ((bt216.1 ++ bytesOf a1),0)) else (none)))) = some (r1,r2):=h
 clear h
 by_cases c3 : (a1.size : Int) > 4096
 ·rw [if_pos c3] at H
  have c3b0 : decide (4096 < (a1.size : Int)) = true:=decide_eq_true c3
  have c3b1 : decide (4096 < a1.size) = true:=decide_eq_true (by omega)
  clear c3
  simp only [Option.some.injEq,Prod.mk.injEq] at H
  obtain ⟨rfl,rfl⟩:=H
  go_enter Tryd.func45,Tryd.ntmps45
  go_wp2
  go_ret2
  exact ⟨_,by first|rfl|(simp [errW_none,errW_some] <;> rfl)|(simp [*,errW_none,errW_some] <;> rfl),by first|exact Kd.R_nil _ _ _ _ _|exact Kd.N_nil _ _ _ _ _|exact Kd.V_nil _ _ _ _ _|exact Kd.Q_nil _ _ _ _ _|exact Kd.S_nil _ _ _ _ _,by repeat (first|(with_reducible first|exact HB.out|apply below_alloc|apply pw_below_drewN|apply below_drew1)|exact HB.out)⟩
 ·rw [if_neg c3] at H
  have c3b0 : decide (4096 < (a1.size : Int)) = false:=decide_eq_false c3
  have c3b1 : decide (4096 < a1.size) = false:=decide_eq_false (by omega)
  clear c3
  replace H:=Option.bind_eq_some_iff.mp H
  obtain ⟨⟨t216,t217⟩,A40,H⟩:=H
  replace H : (if t216.length + a1.size < 140737488355328 then (some ((t216 ++ bytesOf a1),0)) else (none)) = some (r1,r2):=H
  have A4:=Aside0.mk A40
  clear A40
  by_cases c5 : t216.length + a1.size < 140737488355328
  ·rw [if_pos c5] at H
   have LMc5:=Aside0.mk c5
   clear c5
   obtain ⟨y220,hy220⟩ : ∃ y_ : List Int,y_ = (t216 ++ bytesOf a1):=⟨_,rfl⟩
   replace H : (some (y220,0)) = some (r1,r2):=by first|(rw [hy220];with_reducible exact H)|(have H2_:=(Option.bind_some _ _).symm.trans H;rw [hy220];with_reducible exact H2_)|(have H2_:=(Option.bind_some _ _).symm.trans H;with_reducible exact H2_)|with_reducible exact H|(rw [hy220];exact H)|exact H
   have Ny220:=Aside0.mk hy220
   clear hy220
   simp only [Option.some.injEq,Prod.mk.injEq] at H
   obtain ⟨rfl,rfl⟩:=H
   go_enter Tryd.func45,Tryd.ntmps45
   go_wp2_with (first|((with_reducible refine gate_callee (f:=44) rfl ?_);refine goesL_ (some 15) rfl rfl Tryd.func44 (by kernel_rfl) rfl #[.slice A0 l0.length c0,.int .i64 (a1.size : Int)] rfl (by (try simp only [List.map_toArray,List.map_cons,List.map_nil]);first|done|rfl|(simp only [List.length_drop,List.length_take];rfl)) ?_;(with_reducible refine (racewayref01_Num.calls k _ _ l0 (a1.size : Int) t216 t217 _ ?side1 ?side2 A4.out).mono ?_);(case side1 => repeat (first|exact HR0.out|(with_reducible refine Kd.C_alloc ?_ _)|(with_reducible refine Kd.C_drewN ?_ _)|(with_reducible refine Kd.C_drew ?_)));(case side2 => exact HC0.out);rintro e w6 ⟨v218,rfl,ho0,hb⟩;refine ⟨_,rfl,?_⟩;have n0_:=Aside0.mk (Kd.R_lower ho0 (below_size (by repeat (first|(with_reducible first|exact HB.out|apply below_alloc|apply pw_below_drewN|apply below_drew1)|exact HB.out))));have n1_:=Aside0.mk (below_step (by repeat (first|(with_reducible first|exact HB.out|apply below_alloc|apply pw_below_drewN|apply below_drew1)|exact HB.out)) hb);clear HB;have HO219:=n0_;have HB:=n1_;clear n0_ n1_;(try clear hb);(try clear hb2);(try clear hk);(try clear hi);(try clear ho0))|(at_builtin;refine print_append_str (w0:=w) w.heap.size rfl (.tmp 18) _ 49 9 5 rfl Tryd.underlying49 Tryd.underlying9 info5 v218 t216 a1 rfl rfl ?aO ?aB ?aS ?aL ?_;(case aB => exact (by repeat (first|(with_reducible first|exact HB.out|apply below_alloc|apply pw_below_drewN|apply below_drew1)|exact HB.out)));(case aO => exact (Kd.own_of_R (by (with_reducible repeat (first|apply Kd.R_alloc|apply Kd.R_drewN|apply Kd.R_drew));exact HO219.out)));(case aS => exact (below_size (by repeat (first|(with_reducible first|exact HB.out|apply below_alloc|apply pw_below_drewN|apply below_drew1)|exact HB.out))));(case aL => have:=LMc5.out;omega);intro v221 w7 ho0 hb hg;have ho:=Kd.R_of_own (h1:=fun _ => rfl) (ok:=fun _ => True) ho0 (fun _ _ => trivial);clear ho0;have hat:=True.intro;rw [← Ny220.out] at ho;change Kd.R (Kd.int .u8) 5 w7 w.heap.size (fun _ => True) v221 y220 at ho;have n0_:=Aside0.mk (hb);have n1_:=Aside0.mk (ho);clear HB;clear HO219;have HB:=n0_;have HO222:=n1_;clear n0_ n1_;clear ho hb hg hat))
   go_ret2
   exact ⟨_,by first|rfl|(simp [errW_none,errW_some] <;> rfl)|(simp [*,errW_none,errW_some] <;> rfl),by (with_reducible repeat (first|apply Kd.R_alloc|apply Kd.R_drewN|apply Kd.R_drew));exact HO222.out,by repeat (first|(with_reducible first|exact HB.out|apply below_alloc|apply pw_below_drewN|apply below_drew1)|exact HB.out)⟩
  ·rw [if_neg c5] at H
   exact absurd H (by simp)
end Go.Proofs.YtedfgkjimnjdpaaDoor.X
namespace Go.Proofs.YtedfgkjimnjdpaaDoor.X
open Go.RowKit Go.Proofs.YtedfgkjimnjdpaaDoorW.PrintWords Go.Proofs.YtedfgkjimnjdpaaDoorW.PrintLast Go.Proofs.YtedfgkjimnjdpaaDoorW.PrintMore
attribute [local go_sem] max2_int min2_int max_two min_two max_three min_three max_four min_four
set_option linter.unusedVariables false
set_option linter.unusedSimpArgs false
def racewayref02_put.l0 : Nat → List Int → Int → Int → Option (List Int)
 | 0,_,_,_ => none
 | k + 1,x0,x1,x5 => if x5 < 4 then (if x0.length < 140737488355328 then (racewayref02_put.l0 k (x0 ++ [(Int.tmod x1 256) % 256]) ((Int.tdiv x1 256) % 4294967296) (wrap64 (x5 + 1))) else (none)) else (some x0)
def racewayref02_put.f (k : Nat) (l0 : List Int) (a1 : Int) : Option (List Int):=racewayref02_put.l0 k l0 a1 0
set_option maxHeartbeats 8000000 in
set_option maxRecDepth 100000 in
theorem racewayref02_put.calls (k : Nat) (P0_ : Nat → Prop) (u9000_ : Value) (l0 : List Int) (a1 : Int) (r : List Int) (w0 w : World) (hB : Below w0.heap.size w0 w) (ho0 : Kd.R (Kd.int .u8) 5 w w0.heap.size P0_ u9000_ l0) (h : racewayref02_put.f k l0 a1 = some r) :
  Calls Tryd.prog 87 #[u9000_,.int .u32 a1] w fun e w' => ∃ v0_ : Value,e = .returned (v0_) ∧ Kd.R (Kd.int .u8) 5 w' w0.heap.size (fun k_ => (P0_ k_ ∨ w.heap.size ≤ k_)) v0_ r ∧ Below w0.heap.size w0 w' ∧ Kept w w' (fun k_ => P0_ k_):=by
 have HO0:=Aside0.mk (show Kd.R (Kd.int .u8) 5 w w0.heap.size (fun k_ => (P0_ k_ ∨ w.heap.size ≤ k_)) u9000_ l0 from Kd.R_mono ho0 (fun k_ hk => (.inl hk)))
 have HK:=Aside0.mk (Kept.refl w (fun k_ => P0_ k_))
 have HW0:=Aside0.mk hB.size
 have HB:=Aside0.mk hB
 clear hB
 have H : (racewayref02_put.l0 k l0 a1 0) = some r:=h
 clear h
 have H':=Aside0.mk H
 clear H
 go_enter Tryd.func87,Tryd.ntmps87
 go_wp2
 go_loopg [0,1,5] k (fun kq v0 v1 v5 w' => ∃ (x0_1 : List Int) (x1_1 : Int) (x5_1 : Int),v1 = .int .u32 x1_1 ∧ v5 = .int .i64 x5_1 ∧ Aside0 (racewayref02_put.l0 kq x0_1 x1_1 x5_1 = some r) ∧ Aside0 (kq ≤ k) ∧ Aside0 (Kd.R (Kd.int .u8) 5 w' w0.heap.size (fun k_ => (P0_ k_ ∨ w.heap.size ≤ k_)) v0 x0_1) ∧ Aside0 (Kept w w' (fun k_ => P0_ k_)) ∧ Aside0 (Below w0.heap.size w0 w'))
 case atStart => exact ⟨(l0),(a1),(0),(by first|rfl|(simp;done)|(simp;decide +kernel)|(simp [*];done)),(by first|rfl|(simp;done)|(simp;decide +kernel)|(simp [*];done)),(by first|exact H'|(subst_vars;exact H')),⟨Nat.le_refl _⟩,⟨by (with_reducible repeat (first|apply Kd.R_alloc|apply Kd.R_drewN|apply Kd.R_drew));exact HO0.out⟩,⟨by repeat (first|(with_reducible first|exact HK.out|apply Kept.alloc|apply Kept.drewN|apply Kept.drew)|exact HK.out)⟩,⟨by repeat (first|(with_reducible first|exact HB.out|apply below_alloc|apply pw_below_drewN|apply below_drew1)|exact HB.out)⟩⟩
 case round =>
  clear H'
  try clear p2
  obtain ⟨x0_1,x1_1,x5_1,rfl,rfl,HA,HK1,HO_0,HK,HB⟩:=hrel
  cases gk with
  | zero => exact absurd HA.out (by simp [racewayref02_put.l0])
  | succ k1 =>
   have H:=HA.out
   clear HA
   simp only [racewayref02_put.l0] at H
   by_cases c3 : x5_1 < 4
   ·rw [if_pos c3] at H
    have c3b0 : decide (x5_1 < 4) = true:=decide_eq_true c3
    clear c3
    by_cases c4 : x0_1.length < 140737488355328
    ·rw [if_pos c4] at H
     have LMc4:=Aside0.mk c4
     clear c4
     obtain ⟨y223,hy223⟩ : ∃ y_ : List Int,y_ = (x0_1 ++ [(Int.tmod x1_1 256) % 256]):=⟨_,rfl⟩
     replace H : (racewayref02_put.l0 k1 y223 ((Int.tdiv x1_1 256) % 4294967296) (wrap64 (x5_1 + 1))) = some r:=by first|(rw [hy223];with_reducible exact H)|(have H2_:=(Option.bind_some _ _).symm.trans H;rw [hy223];with_reducible exact H2_)|(have H2_:=(Option.bind_some _ _).symm.trans H;with_reducible exact H2_)|with_reducible exact H|(rw [hy223];exact H)|exact H
     have Ny223:=Aside0.mk hy223
     clear hy223
     have H':=Aside0.mk H
     clear H
     go_wp2_with (first|((with_reducible refine gate_builtin (b:=.append) (xs:=#[.tmp 10,.tmp 14]) rfl ?_);at_builtin;refine Kd.R_append (Kd.int .u8) (w0:=w0) w0.heap.size rfl (.tmp 10) (.tmp 14) 49 5 (.int .u8 0) 1 rfl Tryd.underlying49 info5 rfl (by decide) (by omega) u0 x0_1 ((Int.tmod x1_1 256) % 256) [.int .u8 ((Int.tmod x1_1 256) % 256)] (fun k_ => (P0_ k_ ∨ w.heap.size ≤ k_)) (fun _ => False) rfl rfl ?aP (fun _ hk => hk.elim) ?aF ?aO ?aB ?aS ?aL ?_;(case aP => exact rfl);(case aB => exact (by repeat (first|(with_reducible first|exact HB.out|apply below_alloc|apply pw_below_drewN|apply below_drew1)|exact HB.out)));(case aF => exact (fun k_ hk => (.inr (Nat.le_trans (by first|exact HK.out.1|exact (show Kept w _ (fun k_ => P0_ k_) from by repeat (first|(with_reducible first|exact HK.out|apply Kept.alloc|apply Kept.drewN|apply Kept.drew)|exact HK.out)).1) hk))));(case aO => exact (by (with_reducible repeat (first|apply Kd.R_alloc|apply Kd.R_drewN|apply Kd.R_drew));exact HO_0.out));(case aS => exact (below_size (by repeat (first|(with_reducible first|exact HB.out|apply below_alloc|apply pw_below_drewN|apply below_drew1)|exact HB.out))));(case aL => have:=LMc4.out;omega);intro v224 w5 ho hb hg hat;rw [← Ny223.out] at ho;have n0_:=Aside0.mk (hb);have n1_:=Aside0.mk (Kept.of_grown (S:=(fun k_ => P0_ k_)) hg (by repeat (first|(with_reducible first|exact HK.out|apply Kept.alloc|apply Kept.drewN|apply Kept.drew)|exact HK.out)) (fun k_ e_ => (HO_0.out.1 k_ e_)));have n2_:=Aside0.mk (ho);clear HB;clear HK;clear HO_0;have HB:=n0_;have HK:=n1_;have HO225:=n2_;clear n0_ n1_ n2_;clear ho hb hg hat))
     go_roundg k1
     case measure => have:=HK1.out;omega
     case rel => exact ⟨(y223),((Int.tdiv x1_1 256) % 4294967296),(wrap64 (x5_1 + 1)),(by first|rfl|(simp;done)|(simp;decide +kernel)|(simp [*];done)),(by first|rfl|(simp;done)|(simp;decide +kernel)|(simp [*];done)),(by first|exact H'|(subst_vars;exact H')),⟨by have:=HK1.out;omega⟩,⟨by (with_reducible repeat (first|apply Kd.R_alloc|apply Kd.R_drewN|apply Kd.R_drew));exact HO225.out⟩,⟨by repeat (first|(with_reducible first|exact HK.out|apply Kept.alloc|apply Kept.drewN|apply Kept.drew)|exact HK.out)⟩,⟨by repeat (first|(with_reducible first|exact HB.out|apply below_alloc|apply pw_below_drewN|apply below_drew1)|exact HB.out)⟩⟩
    ·rw [if_neg c4] at H
     exact absurd H (by simp)
   ·rw [if_neg c3] at H
    have c3b0 : decide (x5_1 < 4) = false:=decide_eq_false c3
    clear c3
    obtain rfl:=Option.some.inj H
    go_wp2
    go_ret
    exact ⟨_,by first|rfl|(simp [errW_none,errW_some] <;> rfl)|(simp [*,errW_none,errW_some] <;> rfl),by (with_reducible repeat (first|apply Kd.R_alloc|apply Kd.R_drewN|apply Kd.R_drew));exact HO_0.out,by repeat (first|(with_reducible first|exact HB.out|apply below_alloc|apply pw_below_drewN|apply below_drew1)|exact HB.out),by repeat (first|(with_reducible first|exact HK.out|apply Kept.alloc|apply Kept.drewN|apply Kept.drew)|exact HK.out)⟩
end Go.Proofs.YtedfgkjimnjdpaaDoor.X
namespace Go.Proofs.YtedfgkjimnjdpaaDoor.X
open Go.RowKit Go.Proofs.YtedfgkjimnjdpaaDoorW.PrintWords Go.Proofs.YtedfgkjimnjdpaaDoorW.PrintLast Go.Proofs.YtedfgkjimnjdpaaDoorW.PrintMore
attribute [local go_sem] max2_int min2_int max_two min_two max_three min_three max_four min_four
set_option linter.unusedVariables false
set_option linter.unusedSimpArgs false
mutual
def racewayref02_Sum.l0 : Nat → List Int → Int → Int → Option (Int)
 | 0,_,_,_ => none
 | k + 1,x0,x3,x4 => if x4 < (x0.length : Int) then (racewayref02_Sum.l1 k x0 x3 x4 0) else (some (Go.bits .xor .u32 x3 4294967295))
def racewayref02_Sum.l1 : Nat → List Int → Int → Int → Int → Option (Int)
 | 0,_,_,_,_ => none
 | k + 1,x0,x3,x4,x5 => if x5 < 8 then (if 0 ≤ x4 then (if x4 < (x0.length : Int) then (if 0 ≤ x5 then (if (Go.bits .and .u32 (Go.bits .xor .u32 x3 (shr .u32 ((rd x0 x4) % 4294967296) x5)) 1) = 1 then (racewayref02_Sum.l1 k x0 (Go.bits .xor .u32 (x3 / 2) 3988292384) x4 (wrap64 (x5 + 1))) else (racewayref02_Sum.l1 k x0 (x3 / 2) x4 (wrap64 (x5 + 1)))) else (none)) else (none)) else (none)) else (racewayref02_Sum.l0 k x0 x3 (wrap64 (x4 + 1)))
end
def racewayref02_Sum.f (k : Nat) (l0 : List Int) : Option (Int):=racewayref02_Sum.l0 k l0 4294967295 0
set_option maxHeartbeats 8000000 in
set_option maxRecDepth 100000 in
theorem racewayref02_Sum.calls (k : Nat) (A0 : Option Addr) (c0 : Nat) (l0 : List Int) (r : Int) (w : World) (hr0 : Kd.C (Kd.int .u8) w A0 l0.length l0) (hc0 : l0.length ≤ c0) (h : racewayref02_Sum.f k l0 = some r) :
  Calls Tryd.prog 88 #[.slice A0 l0.length c0] w fun e w' => e = .returned (.int .u32 r) ∧ Drawn0 w w':=by
 have HR0:=Aside0.mk hr0
 have HC0:=Aside0.mk hc0
 clear hr0 hc0
 have H : (racewayref02_Sum.l0 k l0 4294967295 0) = some r:=h
 clear h
 have H':=Aside0.mk H
 clear H
 go_enter Tryd.func88,Tryd.ntmps88
 go_wp2
 go_loopg [3,4] k (fun kq v3 v4 w' => ∃ (x3_1 : Int) (x4_1 : Int),v3 = .int .u32 x3_1 ∧ v4 = .int .i64 x4_1 ∧ Aside0 (racewayref02_Sum.l0 kq l0 x3_1 x4_1 = some r) ∧ Aside0 (kq ≤ k) ∧ Drawn0 w w')
 case atStart => exact ⟨(4294967295),(0),(by first|rfl|(simp;done)|(simp;decide +kernel)|(simp [*];done)),(by first|rfl|(simp;done)|(simp;decide +kernel)|(simp [*];done)),(by first|exact H'|(subst_vars;exact H')),⟨Nat.le_refl _⟩,by repeat (first|exact Drawn0.refl _|apply Drawn0.step)⟩
 case round =>
  clear H'
  obtain ⟨x3_1,x4_1,rfl,rfl,HA,HK1,⟨m1,rfl⟩⟩:=hrel
  cases gk with
  | zero => exact absurd HA.out (by simp [racewayref02_Sum.l0])
  | succ k1 =>
   have H:=HA.out
   clear HA
   simp only [racewayref02_Sum.l0] at H
   by_cases c2 : x4_1 < (l0.length : Int)
   ·rw [if_pos c2] at H
    have c2b0 : decide (x4_1 < (l0.length : Int)) = true:=decide_eq_true c2
    clear c2
    have H':=Aside0.mk H
    clear H
    go_wp2
    go_loopg [3,5] k1 (fun kq v3 v5 w' => ∃ (x3_2 : Int) (x5_2 : Int),v3 = .int .u32 x3_2 ∧ v5 = .int .i64 x5_2 ∧ Aside0 (racewayref02_Sum.l1 kq l0 x3_2 x4_1 x5_2 = some r) ∧ Aside0 (kq ≤ k1) ∧ Drawn0 w w')
    case atStart => exact ⟨(x3_1),(0),(by first|rfl|(simp;done)|(simp;decide +kernel)|(simp [*];done)),(by first|rfl|(simp;done)|(simp;decide +kernel)|(simp [*];done)),(by first|exact H'|(subst_vars;exact H')),⟨Nat.le_refl _⟩,by repeat (first|exact Drawn0.refl _|apply Drawn0.step)⟩
    case round =>
     clear H'
     try clear c2
     try clear c2b0
     try clear p2
     obtain ⟨x3_2,x5_2,rfl,rfl,HA,HK2,⟨m2,rfl⟩⟩:=hrel
     cases gk with
     | zero => exact absurd HA.out (by simp [racewayref02_Sum.l1])
     | succ k2 =>
      have H:=HA.out
      clear HA
      simp only [racewayref02_Sum.l1] at H
      by_cases c3 : x5_2 < 8
      ·rw [if_pos c3] at H
       have c3b0 : decide (x5_2 < 8) = true:=decide_eq_true c3
       clear c3
       by_cases c4 : 0 ≤ x4_1
       ·rw [if_pos c4] at H
        have c4b0 : decide (0 ≤ x4_1) = true:=decide_eq_true c4
        clear c4
        by_cases c5 : x4_1 < (l0.length : Int)
        ·rw [if_pos c5] at H
         have c5b0 : decide (x4_1 < (l0.length : Int)) = true:=decide_eq_true c5
         clear c5
         by_cases c6 : 0 ≤ x5_2
         ·rw [if_pos c6] at H
          have c6b0:=eq_true c6
          have c6b1 : decide (0 ≤ x5_2) = true:=decide_eq_true c6
          clear c6
          obtain ⟨ji7,hji7⟩ : ∃ j_ : Int,(shr .u32 ((rd l0 x4_1) % 4294967296) x5_2) = j_:=⟨_,rfl⟩
          replace H : (if (Go.bits .and .u32 (Go.bits .xor .u32 x3_2 (ji7)) 1) = 1 then (racewayref02_Sum.l1 k2 l0 (Go.bits .xor .u32 (x3_2 / 2) 3988292384) x4_1 (wrap64 (x5_2 + 1))) else (racewayref02_Sum.l1 k2 l0 (x3_2 / 2) x4_1 (wrap64 (x5_2 + 1)))) = some r:=by first|(rw [hji7] at H;exact H)|(simp only [hji7] at H ⊢;exact H)
          have hji7_ : (((rd l0 x4_1) % 4294967296) / 2 ^ min x5_2.toNat 32) = ji7:=hji7
          have hji7z : x5_2 ≤ 32 → (((rd l0 x4_1) % 4294967296) / 2 ^ x5_2.toNat) = ji7:=shr_small hji7
          by_cases c8 : (Go.bits .and .u32 (Go.bits .xor .u32 x3_2 (ji7)) 1) = 1
          ·rw [if_pos c8] at H
           have c8b0 : ((Go.bits .and .u32 (Go.bits .xor .u32 x3_2 (ji7)) 1) == 1) = true:=beq_iff_eq.mpr c8
           have c8b1 : ((Go.bits .and .u32 (Go.bits .xor .u32 x3_2 (ji7)) 1) != 1) = false:=bne_eq_false_iff_eq.mpr c8
           clear c8
           have H':=Aside0.mk H
           clear H
           have p226 : 0 ≤ (x4_1 : Int):=of_decide_eq_true (by first|(with_reducible assumption)|assumption)
           have q226 : x4_1 < (l0.length : Int):=of_decide_eq_true (by first|(with_reducible assumption)|assumption)
           obtain ⟨ad226,e226,hx226_0⟩:=Kd.at_int HR0.out x4_1 p226 q226
           cases e226
           replace p226:=eq_true p226
           replace q226:=eq_true q226
           go_wp2
           go_roundg k2
           case measure => have:=HK1.out;have:=HK2.out;omega
           case rel => exact ⟨(Go.bits .xor .u32 (x3_2 / 2) 3988292384),(wrap64 (x5_2 + 1)),(by first|rfl|(simp;done)|(simp;decide +kernel)|(simp [*];done)),(by first|rfl|(simp;done)|(simp;decide +kernel)|(simp [*];done)),(by first|exact H'|(subst_vars;exact H')),⟨by have:=HK1.out;have:=HK2.out;omega⟩,by repeat (first|exact Drawn0.refl _|apply Drawn0.step)⟩
          ·rw [if_neg c8] at H
           have c8b0 : ((Go.bits .and .u32 (Go.bits .xor .u32 x3_2 (ji7)) 1) == 1) = false:=beq_eq_false_iff_ne.mpr c8
           have c8b1 : ((Go.bits .and .u32 (Go.bits .xor .u32 x3_2 (ji7)) 1) != 1) = true:=bne_iff_ne.mpr c8
           have H':=Aside0.mk H
           clear H
           have p226 : 0 ≤ (x4_1 : Int):=of_decide_eq_true (by first|(with_reducible assumption)|assumption)
           have q226 : x4_1 < (l0.length : Int):=of_decide_eq_true (by first|(with_reducible assumption)|assumption)
           obtain ⟨ad226,e226,hx226_0⟩:=Kd.at_int HR0.out x4_1 p226 q226
           cases e226
           replace p226:=eq_true p226
           replace q226:=eq_true q226
           go_wp2
           go_roundg k2
           case measure => have:=HK1.out;have:=HK2.out;omega
           case rel => exact ⟨(x3_2 / 2),(wrap64 (x5_2 + 1)),(by first|rfl|(simp;done)|(simp;decide +kernel)|(simp [*];done)),(by first|rfl|(simp;done)|(simp;decide +kernel)|(simp [*];done)),(by first|exact H'|(subst_vars;exact H')),⟨by have:=HK1.out;have:=HK2.out;omega⟩,by repeat (first|exact Drawn0.refl _|apply Drawn0.step)⟩
         ·rw [if_neg c6] at H
          exact absurd H (by simp)
        ·rw [if_neg c5] at H
         exact absurd H (by simp)
       ·rw [if_neg c4] at H
        exact absurd H (by simp)
      ·rw [if_neg c3] at H
       have c3b0 : decide (x5_2 < 8) = false:=decide_eq_false c3
       clear c3
       have H':=Aside0.mk H
       clear H
       go_wp2
       go_roundg k2
       case measure => have:=HK1.out;have:=HK2.out;omega
       case rel => exact ⟨(x3_2),(wrap64 (x4_1 + 1)),(by first|rfl|(simp;done)|(simp;decide +kernel)|(simp [*];done)),(by first|rfl|(simp;done)|(simp;decide +kernel)|(simp [*];done)),(by first|exact H'|(subst_vars;exact H')),⟨by have:=HK1.out;have:=HK2.out;omega⟩,by repeat (first|exact Drawn0.refl _|apply Drawn0.step)⟩
   ·rw [if_neg c2] at H
    have c2b0 : decide (x4_1 < (l0.length : Int)) = false:=decide_eq_false c2
    clear c2
    obtain rfl:=Option.some.inj H
    go_wp2
    go_ret
    exact ⟨by first|rfl|(simp;done)|(simp;decide +kernel)|(simp [*];done),by repeat (first|exact Drawn0.refl _|apply Drawn0.step)⟩
end Go.Proofs.YtedfgkjimnjdpaaDoor.X
namespace Go.Proofs.YtedfgkjimnjdpaaDoor.X
open Go.RowKit Go.Proofs.YtedfgkjimnjdpaaDoorW.PrintWords Go.Proofs.YtedfgkjimnjdpaaDoorW.PrintLast Go.Proofs.YtedfgkjimnjdpaaDoorW.PrintMore
attribute [local go_sem] max2_int min2_int max_two min_two max_three min_three max_four min_four
set_option linter.unusedVariables false
set_option linter.unusedSimpArgs false
def racewayref02_Frame.f (k : Nat) (l0 : List Int) : Option (List Int × Int):=if (l0.length : Int) > 65536 then (some (([] : List Int),3)) else ((racewayref02_put.f k ([] : List Int) (((l0.length : Int)) % 4294967296)).bind fun t227 => ((racewayref02_Sum.f k t227).bind fun t230 => ((racewayref02_put.f k t227 t230).bind fun t231 => ((racewayref02_Sum.f k l0).bind fun t234 => ((racewayref02_put.f k t231 t234).bind fun t235 => (if t235.length + l0.length < 140737488355328 then (some ((t235 ++ l0),0)) else (none)))))))
set_option maxHeartbeats 8000000 in
set_option maxRecDepth 100000 in
theorem racewayref02_Frame.calls (k : Nat) (A0 : Option Addr) (c0 : Nat) (l0 : List Int) (r1 : List Int) (r2 : Int) (w : World) (hr0 : Kd.C (Kd.int .u8) w A0 l0.length l0) (hc0 : l0.length ≤ c0) (h : racewayref02_Frame.f k l0 = some (r1,r2)) :
  Calls Tryd.prog 46 #[.slice A0 l0.length c0] w fun e w' => ∃ v0_ : Value,e = .returned (.tuple #[v0_,.int .i64 r2]) ∧ Kd.R (Kd.int .u8) 5 w' w.heap.size (fun _ => True) v0_ r1 ∧ Below w.heap.size w w':=by
 have HR0:=Aside0.mk hr0
 have HC0:=Aside0.mk hc0
 clear hr0 hc0
 have HB:=Aside0.mk (Below.refl w.heap.size w)
 have H : (if (l0.length : Int) > 65536 then (some (([] : List Int),3)) else ((racewayref02_put.f k ([] : List Int) (((l0.length : Int)) % 4294967296)).bind fun t227 => ((racewayref02_Sum.f k t227).bind fun t230 => ((racewayref02_put.f k t227 t230).bind fun t231 => ((racewayref02_Sum.f k l0).bind fun t234 => ((racewayref02_put.f k t231 t234).bind fun t235 => (if t235.length + l0.length < 140737488355328 then (some ((t235 ++ l0),0)) else (none)))))))) = some (r1,r2):=h
 clear h
 by_cases c2 : (l0.length : Int) > 65536
 ·rw [if_pos c2] at H
  have c2b0 : decide (65536 < (l0.length : Int)) = true:=decide_eq_true c2
  have c2b1 : decide (65536 < l0.length) = true:=decide_eq_true (by omega)
  clear c2
  simp only [Option.some.injEq,Prod.mk.injEq] at H
  obtain ⟨rfl,rfl⟩:=H
  go_enter Tryd.func46,Tryd.ntmps46
  go_wp2
  go_ret2
  exact ⟨_,by first|rfl|(simp [errW_none,errW_some] <;> rfl)|(simp [*,errW_none,errW_some] <;> rfl),by first|exact Kd.R_nil _ _ _ _ _|exact Kd.N_nil _ _ _ _ _|exact Kd.V_nil _ _ _ _ _|exact Kd.Q_nil _ _ _ _ _|exact Kd.S_nil _ _ _ _ _,by repeat (first|(with_reducible first|exact HB.out|apply below_alloc|apply pw_below_drewN|apply below_drew1)|exact HB.out)⟩
 ·rw [if_neg c2] at H
  have c2b0 : decide (65536 < (l0.length : Int)) = false:=decide_eq_false c2
  have c2b1 : decide (65536 < l0.length) = false:=decide_eq_false (by omega)
  clear c2
  replace H:=Option.bind_eq_some_iff.mp H
  obtain ⟨t227,A30,H⟩:=H
  replace H : ((racewayref02_Sum.f k t227).bind fun t230 => ((racewayref02_put.f k t227 t230).bind fun t231 => ((racewayref02_Sum.f k l0).bind fun t234 => ((racewayref02_put.f k t231 t234).bind fun t235 => (if t235.length + l0.length < 140737488355328 then (some ((t235 ++ l0),0)) else (none)))))) = some (r1,r2):=H
  have A3:=Aside0.mk A30
  clear A30
  replace H:=Option.bind_eq_some_iff.mp H
  obtain ⟨t230,A40,H⟩:=H
  replace H : ((racewayref02_put.f k t227 t230).bind fun t231 => ((racewayref02_Sum.f k l0).bind fun t234 => ((racewayref02_put.f k t231 t234).bind fun t235 => (if t235.length + l0.length < 140737488355328 then (some ((t235 ++ l0),0)) else (none))))) = some (r1,r2):=H
  have A4:=Aside0.mk A40
  clear A40
  replace H:=Option.bind_eq_some_iff.mp H
  obtain ⟨t231,A50,H⟩:=H
  replace H : ((racewayref02_Sum.f k l0).bind fun t234 => ((racewayref02_put.f k t231 t234).bind fun t235 => (if t235.length + l0.length < 140737488355328 then (some ((t235 ++ l0),0)) else (none)))) = some (r1,r2):=H
  have A5:=Aside0.mk A50
  clear A50
  replace H:=Option.bind_eq_some_iff.mp H
  obtain ⟨t234,A60,H⟩:=H
  replace H : ((racewayref02_put.f k t231 t234).bind fun t235 => (if t235.length + l0.length < 140737488355328 then (some ((t235 ++ l0),0)) else (none))) = some (r1,r2):=H
  have A6:=Aside0.mk A60
  clear A60
  replace H:=Option.bind_eq_some_iff.mp H
  obtain ⟨t235,A70,H⟩:=H
  replace H : (if t235.length + l0.length < 140737488355328 then (some ((t235 ++ l0),0)) else (none)) = some (r1,r2):=H
  have A7:=Aside0.mk A70
  clear A70
  by_cases c8 : t235.length + l0.length < 140737488355328
  ·rw [if_pos c8] at H
   have LMc8:=Aside0.mk c8
   clear c8
   obtain ⟨y238,hy238⟩ : ∃ y_ : List Int,y_ = (t235 ++ l0):=⟨_,rfl⟩
   replace H : (some (y238,0)) = some (r1,r2):=by first|(rw [hy238];with_reducible exact H)|(have H2_:=(Option.bind_some _ _).symm.trans H;rw [hy238];with_reducible exact H2_)|(have H2_:=(Option.bind_some _ _).symm.trans H;with_reducible exact H2_)|with_reducible exact H|(rw [hy238];exact H)|exact H
   have Ny238:=Aside0.mk hy238
   clear hy238
   simp only [Option.some.injEq,Prod.mk.injEq] at H
   obtain ⟨rfl,rfl⟩:=H
   go_enter Tryd.func46,Tryd.ntmps46
   go_wp2_with (first|((with_reducible refine gate_callee (f:=87) rfl ?_);refine goesL_ (some 11) rfl rfl Tryd.func87 (by kernel_rfl) rfl #[.slice none 0 0,.int .u32 (((l0.length : Int)) % 4294967296)] rfl (by (try simp only [List.map_toArray,List.map_cons,List.map_nil]);first|done|rfl|(simp only [List.length_drop,List.length_take];rfl)) ?_;(refine (racewayref02_put.calls k (fun k_ => some k_ = (.slice none 0 0 : Value).ownBlock) (.slice none 0 0) ([] : List Int) (((l0.length : Int)) % 4294967296) t227 w _ ?side1 ?side2 A3.out).mono ?_);(case side1 => repeat (first|(with_reducible first|exact HB.out|apply below_alloc|apply pw_below_drewN|apply below_drew1)|exact HB.out));(case side2 => exact Kd.R_nil _ _ _ _ _);rintro e w9 ⟨v228,rfl,ho0,hb,hkp⟩;refine ⟨_,rfl,?_⟩;have n0_:=Aside0.mk (Kd.R_mono (ok':=fun k_ => True) ho0 (fun k_ hk_ => trivial));have n1_:=Aside0.mk (hb);clear HB;have HO229:=n0_;have HB:=n1_;clear n0_ n1_;(try clear hb);(try clear hkp);(try clear ho0);obtain ⟨Ao10,co10,eo10⟩:=Kd.R_slice HO229.out;subst eo10)|((with_reducible refine gate_callee (f:=88) rfl ?_);refine goesL_ (some 14) rfl rfl Tryd.func88 (by kernel_rfl) rfl #[.slice Ao10 t227.length co10] rfl (by (try simp only [List.map_toArray,List.map_cons,List.map_nil]);first|done|rfl|(simp only [List.length_drop,List.length_take];rfl)) ?_;(with_reducible refine (racewayref02_Sum.calls k _ _ t227 t230 _ ?side1 ?side2 A4.out).mono ?_);(case side1 => repeat (first|exact (Kd.R_reads' HO229.out).2.2|(with_reducible refine Kd.C_alloc ?_ _)|(with_reducible refine Kd.C_drewN ?_ _)|(with_reducible refine Kd.C_drew ?_)));(case side2 => exact (Kd.R_reads' HO229.out).2.1);rintro e w' ⟨rfl,⟨nd,rfl⟩⟩;refine ⟨_,rfl,?_⟩)|((with_reducible refine gate_callee (f:=87) rfl ?_);refine goesL_ (some 15) rfl rfl Tryd.func87 (by kernel_rfl) rfl #[.slice Ao10 t227.length co10,.int .u32 t230] rfl (by (try simp only [List.map_toArray,List.map_cons,List.map_nil]);first|done|rfl|(simp only [List.length_drop,List.length_take];rfl)) ?_;(with_reducible refine (racewayref02_put.calls k (fun k_ => some k_ = (.slice Ao10 t227.length co10 : Value).ownBlock) (.slice Ao10 t227.length co10) t227 t230 t231 w _ ?side1 ?side2 A5.out).mono ?_);(case side1 => repeat (first|(with_reducible first|exact HB.out|apply below_alloc|apply pw_below_drewN|apply below_drew1)|exact HB.out));(case side2 => exact Kd.R_tight rfl HO229.out);rintro e w11 ⟨v232,rfl,ho0,hb,hkp⟩;refine ⟨_,rfl,?_⟩;have n0_:=Aside0.mk (Kd.R_mono (ok':=fun k_ => True) ho0 (fun k_ hk_ => trivial));have n1_:=Aside0.mk (hb);clear HB;clear HO229;have HO233:=n0_;have HB:=n1_;clear n0_ n1_;(try clear hb);(try clear hkp);(try clear ho0))|((with_reducible refine gate_callee (f:=88) rfl ?_);refine goesL_ (some 18) rfl rfl Tryd.func88 (by kernel_rfl) rfl #[.slice A0 l0.length c0] rfl (by (try simp only [List.map_toArray,List.map_cons,List.map_nil]);first|done|rfl|(simp only [List.length_drop,List.length_take];rfl)) ?_;(with_reducible refine (racewayref02_Sum.calls k _ _ l0 t234 _ ?side1 ?side2 A6.out).mono ?_);(case side1 => repeat (first|exact (Kd.C_below HR0.out HB.out)|(with_reducible refine Kd.C_alloc ?_ _)|(with_reducible refine Kd.C_drewN ?_ _)|(with_reducible refine Kd.C_drew ?_)));(case side2 => exact HC0.out);rintro e w' ⟨rfl,⟨nd,rfl⟩⟩;refine ⟨_,rfl,?_⟩;obtain ⟨Ao12,co12,eo12⟩:=Kd.R_slice HO233.out;subst eo12)|((with_reducible refine gate_callee (f:=87) rfl ?_);refine goesL_ (some 19) rfl rfl Tryd.func87 (by kernel_rfl) rfl #[.slice Ao12 t231.length co12,.int .u32 t234] rfl (by (try simp only [List.map_toArray,List.map_cons,List.map_nil]);first|done|rfl|(simp only [List.length_drop,List.length_take];rfl)) ?_;(with_reducible refine (racewayref02_put.calls k (fun k_ => some k_ = (.slice Ao12 t231.length co12 : Value).ownBlock) (.slice Ao12 t231.length co12) t231 t234 t235 w _ ?side1 ?side2 A7.out).mono ?_);(case side1 => repeat (first|(with_reducible first|exact HB.out|apply below_alloc|apply pw_below_drewN|apply below_drew1)|exact HB.out));(case side2 => exact Kd.R_tight rfl HO233.out);rintro e w13 ⟨v236,rfl,ho0,hb,hkp⟩;refine ⟨_,rfl,?_⟩;have n0_:=Aside0.mk (Kd.R_mono (ok':=fun k_ => True) ho0 (fun k_ hk_ => trivial));have n1_:=Aside0.mk (hb);clear HB;clear HO233;have HO237:=n0_;have HB:=n1_;clear n0_ n1_;(try clear hb);(try clear hkp);(try clear ho0))|((with_reducible refine gate_builtin (b:=.append) (xs:=#[.tmp 20,.tmp 21]) rfl ?_);at_builtin;refine Kd.R_append_rows (Kd.int .u8) (w0:=w) w.heap.size rfl (.tmp 20) (.tmp 21) 49 5 (.int .u8 0) 1 rfl Tryd.underlying49 info5 rfl (by decide) (by omega) v236 t235 l0 _ _ _ (fun _ => True) (fun _ => False) rfl rfl ?aO ?aR (fun _ _ h => h) (fun _ h => h.elim) ?aF ?aB ?aS ?aL ?_;(case aR => repeat (first|exact (Kd.C_below HR0.out HB.out)|(with_reducible refine Kd.C_alloc ?_ _)|(with_reducible refine Kd.C_drewN ?_ _)|(with_reducible refine Kd.C_drew ?_)));(case aB => exact (by repeat (first|(with_reducible first|exact HB.out|apply below_alloc|apply pw_below_drewN|apply below_drew1)|exact HB.out)));(case aF => exact (fun _ _ => trivial));(case aO => exact (by (with_reducible repeat (first|apply Kd.R_alloc|apply Kd.R_drewN|apply Kd.R_drew));exact HO237.out));(case aS => exact (below_size (by repeat (first|(with_reducible first|exact HB.out|apply below_alloc|apply pw_below_drewN|apply below_drew1)|exact HB.out))));(case aL => have:=LMc8.out;omega);intro v239 w14 ho hb hg hat;rw [← Ny238.out] at ho;have n0_:=Aside0.mk (hb);have n1_:=Aside0.mk (ho);clear HB;clear HO237;have HB:=n0_;have HO240:=n1_;clear n0_ n1_;clear ho hb hg hat))
   go_ret2
   exact ⟨_,by first|rfl|(simp [errW_none,errW_some] <;> rfl)|(simp [*,errW_none,errW_some] <;> rfl),by (with_reducible repeat (first|apply Kd.R_alloc|apply Kd.R_drewN|apply Kd.R_drew));exact HO240.out,by repeat (first|(with_reducible first|exact HB.out|apply below_alloc|apply pw_below_drewN|apply below_drew1)|exact HB.out)⟩
  ·rw [if_neg c8] at H
   exact absurd H (by simp)
end Go.Proofs.YtedfgkjimnjdpaaDoor.X
namespace Go.Proofs.YtedfgkjimnjdpaaDoor.X
open Go.RowKit Go.Proofs.YtedfgkjimnjdpaaDoorW.PrintWords Go.Proofs.YtedfgkjimnjdpaaDoorW.PrintLast Go.Proofs.YtedfgkjimnjdpaaDoorW.PrintMore
attribute [local go_sem] max2_int min2_int max_two min_two max_three min_three max_four min_four
set_option linter.unusedVariables false
set_option linter.unusedSimpArgs false
mutual
def racewayref22_Encode.l0 : Nat → List Int → List Int → Int → Option (ByteArray)
 | 0,_,_,_ => none
 | k + 1,x0,x3,x4 => if x4 < (x0.length : Int) then (racewayref22_Encode.l1 k x0 x3 x4 128) else (racewayref22_Encode.l2 k x3)
def racewayref22_Encode.l1 : Nat → List Int → List Int → Int → Int → Option (ByteArray)
 | 0,_,_,_,_ => none
 | k + 1,x0,x3,x4,x5 => if x5 > 0 then (if 0 ≤ x4 then (if x4 < (x0.length : Int) then (if x5 = 0 then (none) else (if x3.length < 17592186044416 then (racewayref22_Encode.l1 k x0 (x3 ++ [Int.tmod (wrap64 (Int.tdiv (wrap64 (rd x0 x4)) x5)) 2]) x4 (wrap64 (Int.tdiv x5 2))) else (none))) else (none)) else (none)) else (racewayref22_Encode.l0 k x0 x3 (wrap64 (x4 + 1)))
def racewayref22_Encode.l2 : Nat → List Int → Option (ByteArray)
 | 0,_ => none
 | k + 1,x3 => if ((x3.length : Int) % 6) = 0 then (racewayref22_Encode.l3 k x3 (⟨#[]⟩ : ByteArray) 0) else (if x3.length < 17592186044416 then (racewayref22_Encode.l2 k (x3 ++ [0])) else (none))
def racewayref22_Encode.l3 : Nat → List Int → ByteArray → Int → Option (ByteArray)
 | 0,_,_,_ => none
 | k + 1,x3,x6,x7 => if x7 < (x3.length : Int) then (racewayref22_Encode.l4 k x3 x6 x7 0 0) else (racewayref22_Encode.l5 k x6)
def racewayref22_Encode.l4 : Nat → List Int → ByteArray → Int → Int → Int → Option (ByteArray)
 | 0,_,_,_,_,_ => none
 | k + 1,x3,x6,x7,x8,x9 => if x9 < 6 then (if 0 ≤ (wrap64 (x7 + x9)) then (if (wrap64 (x7 + x9)) < (x3.length : Int) then (racewayref22_Encode.l4 k x3 x6 x7 (wrap64 ((wrap64 (2 * x8)) + (rd x3 (wrap64 (x7 + x9))))) (wrap64 (x9 + 1))) else (none)) else (none)) else (if 0 ≤ x8 then (if x8 ≤ (wrap64 (x8 + 1)) then (if (wrap64 (x8 + 1)) ≤ 64 then (if x6.size + ((⟨#[65,66,67,68,69,70,71,72,73,74,75,76,77,78,79,80,81,82,83,84,85,86,87,88,89,90,97,98,99,100,101,102,103,104,105,106,107,108,109,110,111,112,113,114,115,116,117,118,119,120,121,122,48,49,50,51,52,53,54,55,56,57,43,47]⟩ : ByteArray).extract (x8 : Int).toNat ((wrap64 (x8 + 1)) : Int).toNat).size ≤ 9223372036854775807 then (racewayref22_Encode.l3 k x3 (x6 ++ ((⟨#[65,66,67,68,69,70,71,72,73,74,75,76,77,78,79,80,81,82,83,84,85,86,87,88,89,90,97,98,99,100,101,102,103,104,105,106,107,108,109,110,111,112,113,114,115,116,117,118,119,120,121,122,48,49,50,51,52,53,54,55,56,57,43,47]⟩ : ByteArray).extract (x8 : Int).toNat ((wrap64 (x8 + 1)) : Int).toNat)) (wrap64 (x7 + 6))) else (none)) else (none)) else (none)) else (none))
def racewayref22_Encode.l5 : Nat → ByteArray → Option (ByteArray)
 | 0,_ => none
 | k + 1,x6 => if ((x6.size : Int) % 4) = 0 then (some x6) else (if x6.size + 1 ≤ 9223372036854775807 then (racewayref22_Encode.l5 k (x6 ++ (⟨#[61]⟩ : ByteArray))) else (none))
end
def racewayref22_Encode.f (k : Nat) (l0 : List Int) : Option (ByteArray):=racewayref22_Encode.l0 k l0 ([] : List Int) 0
set_option maxHeartbeats 8000000 in
set_option maxRecDepth 100000 in
theorem racewayref22_Encode.calls (k : Nat) (A0 : Option Addr) (c0 : Nat) (l0 : List Int) (r : ByteArray) (w : World) (hr0 : Kd.C (Kd.int .u8) w A0 l0.length l0) (hc0 : l0.length ≤ c0) (h : racewayref22_Encode.f k l0 = some r) :
  Calls Tryd.prog 47 #[.slice A0 l0.length c0] w fun e w' => e = .returned (.string r) ∧ Below w.heap.size w w':=by
 have HR0:=Aside0.mk hr0
 have HC0:=Aside0.mk hc0
 clear hr0 hc0
 have HB:=Aside0.mk (Below.refl w.heap.size w)
 have H : (racewayref22_Encode.l0 k l0 ([] : List Int) 0) = some r:=h
 clear h
 have H':=Aside0.mk H
 clear H
 go_enter Tryd.func47,Tryd.ntmps47
 go_wp2
 go_loopg [3,4] k (fun kq v3 v4 w' => ∃ (x3_1 : List Int) (x4_1 : Int),v4 = .int .i64 x4_1 ∧ Aside0 (racewayref22_Encode.l0 kq l0 x3_1 x4_1 = some r) ∧ Aside0 (kq ≤ k) ∧ Aside0 (Kd.R (Kd.int .i64) 3 w' w.heap.size (fun _ => True) v3 x3_1) ∧ Aside0 (Below w.heap.size w w'))
 case atStart => exact ⟨(([] : List Int)),(0),(by first|rfl|(simp;done)|(simp;decide +kernel)|(simp [*];done)),(by first|exact H'|(subst_vars;exact H')),⟨Nat.le_refl _⟩,⟨by first|exact Kd.R_nil _ _ _ _ _|exact Kd.N_nil _ _ _ _ _|exact Kd.V_nil _ _ _ _ _|exact Kd.Q_nil _ _ _ _ _|exact Kd.S_nil _ _ _ _ _⟩,⟨by repeat (first|(with_reducible first|exact HB.out|apply below_alloc|apply pw_below_drewN|apply below_drew1)|exact HB.out)⟩⟩
 case round =>
  clear H'
  obtain ⟨x3_1,x4_1,rfl,HA,HK1,HO_3,HB⟩:=hrel
  cases gk with
  | zero => exact absurd HA.out (by simp [racewayref22_Encode.l0])
  | succ k1 =>
   have H:=HA.out
   clear HA
   simp only [racewayref22_Encode.l0] at H
   by_cases c2 : x4_1 < (l0.length : Int)
   ·rw [if_pos c2] at H
    have c2b0 : decide (x4_1 < (l0.length : Int)) = true:=decide_eq_true c2
    clear c2
    have H':=Aside0.mk H
    clear H
    go_wp2
    go_loopg [3,5] k1 (fun kq v3 v5 w' => ∃ (x3_2 : List Int) (x5_2 : Int),v5 = .int .i64 x5_2 ∧ Aside0 (racewayref22_Encode.l1 kq l0 x3_2 x4_1 x5_2 = some r) ∧ Aside0 (kq ≤ k1) ∧ Aside0 (Kd.R (Kd.int .i64) 3 w' w.heap.size (fun _ => True) v3 x3_2) ∧ Aside0 (Below w.heap.size w w'))
    case atStart => exact ⟨(x3_1),(128),(by first|rfl|(simp;done)|(simp;decide +kernel)|(simp [*];done)),(by first|exact H'|(subst_vars;exact H')),⟨Nat.le_refl _⟩,⟨by (with_reducible repeat (first|apply Kd.R_alloc|apply Kd.R_drewN|apply Kd.R_drew));exact HO_3.out⟩,⟨by repeat (first|(with_reducible first|exact HB.out|apply below_alloc|apply pw_below_drewN|apply below_drew1)|exact HB.out)⟩⟩
    case round =>
     clear H'
     try clear c2
     try clear c2b0
     try clear p2
     obtain ⟨x3_2,x5_2,rfl,HA,HK2,HO_3,HB⟩:=hrel
     cases gk with
     | zero => exact absurd HA.out (by simp [racewayref22_Encode.l1])
     | succ k2 =>
      have H:=HA.out
      clear HA
      simp only [racewayref22_Encode.l1] at H
      by_cases c3 : x5_2 > 0
      ·rw [if_pos c3] at H
       have c3b0 : decide (0 < x5_2) = true:=decide_eq_true c3
       clear c3
       by_cases c4 : 0 ≤ x4_1
       ·rw [if_pos c4] at H
        have c4b0 : decide (0 ≤ x4_1) = true:=decide_eq_true c4
        clear c4
        by_cases c5 : x4_1 < (l0.length : Int)
        ·rw [if_pos c5] at H
         have c5b0 : decide (x4_1 < (l0.length : Int)) = true:=decide_eq_true c5
         clear c5
         by_cases c6 : x5_2 = 0
         ·rw [if_pos c6] at H
          exact absurd H (by simp)
         ·rw [if_neg c6] at H
          have c6b0 : (x5_2 == 0) = false:=beq_eq_false_iff_ne.mpr c6
          have c6b1 : (x5_2 != 0) = true:=bne_iff_ne.mpr c6
          by_cases c7 : x3_2.length < 17592186044416
          ·rw [if_pos c7] at H
           have LMc7:=Aside0.mk c7
           clear c7
           obtain ⟨y242,hy242⟩ : ∃ y_ : List Int,y_ = (x3_2 ++ [Int.tmod (wrap64 (Int.tdiv (wrap64 (rd l0 x4_1)) x5_2)) 2]):=⟨_,rfl⟩
           replace H : (racewayref22_Encode.l1 k2 l0 y242 x4_1 (wrap64 (Int.tdiv x5_2 2))) = some r:=by first|(rw [hy242];with_reducible exact H)|(have H2_:=(Option.bind_some _ _).symm.trans H;rw [hy242];with_reducible exact H2_)|(have H2_:=(Option.bind_some _ _).symm.trans H;with_reducible exact H2_)|with_reducible exact H|(rw [hy242];exact H)|exact H
           have Ny242:=Aside0.mk hy242
           clear hy242
           have H':=Aside0.mk H
           clear H
           have p241 : 0 ≤ (x4_1 : Int):=of_decide_eq_true (by first|(with_reducible assumption)|assumption)
           have q241 : x4_1 < (l0.length : Int):=of_decide_eq_true (by first|(with_reducible assumption)|assumption)
           obtain ⟨ad241,e241,hx241_0⟩:=Kd.at_int HR0.out x4_1 p241 q241
           cases e241
           replace hx241_0:=(HB.out.cell (World.block_lt_of_cell? w _ hx241_0)).trans hx241_0
           replace p241:=eq_true p241
           replace q241:=eq_true q241
           go_wp2_with (first|((with_reducible refine gate_builtin (b:=.append) (xs:=#[.tmp 20,.tmp 29]) rfl ?_);at_builtin;refine Kd.R_append (Kd.int .i64) (w0:=w) w.heap.size rfl (.tmp 20) (.tmp 29) 62 3 (.int .i64 0) 8 rfl Tryd.underlying62 info3 rfl (by decide) (by omega) u3 x3_2 (Int.tmod (wrap64 (Int.tdiv (wrap64 (rd l0 x4_1)) x5_2)) 2) [.int .i64 (Int.tmod (wrap64 (Int.tdiv (wrap64 (rd l0 x4_1)) x5_2)) 2)] (fun _ => True) (fun _ => False) rfl rfl ?aP (fun _ hk => hk.elim) ?aF ?aO ?aB ?aS ?aL ?_;(case aP => exact rfl);(case aB => exact (by repeat (first|(with_reducible first|exact HB.out|apply below_alloc|apply pw_below_drewN|apply below_drew1)|exact HB.out)));(case aF => exact (fun _ _ => trivial));(case aO => exact (by (with_reducible repeat (first|apply Kd.R_alloc|apply Kd.R_drewN|apply Kd.R_drew));exact HO_3.out));(case aS => exact (below_size (by repeat (first|(with_reducible first|exact HB.out|apply below_alloc|apply pw_below_drewN|apply below_drew1)|exact HB.out))));(case aL => have:=LMc7.out;omega);intro v243 w8 ho hb hg hat;rw [← Ny242.out] at ho;have n0_:=Aside0.mk (hb);have n1_:=Aside0.mk (ho);clear HB;clear HO_3;have HB:=n0_;have HO244:=n1_;clear n0_ n1_;clear ho hb hg hat))
           go_roundg k2
           case measure => have:=HK1.out;have:=HK2.out;omega
           case rel => exact ⟨(y242),(wrap64 (Int.tdiv x5_2 2)),(by first|rfl|(simp;done)|(simp;decide +kernel)|(simp [*];done)),(by first|exact H'|(subst_vars;exact H')),⟨by have:=HK1.out;have:=HK2.out;omega⟩,⟨by (with_reducible repeat (first|apply Kd.R_alloc|apply Kd.R_drewN|apply Kd.R_drew));exact HO244.out⟩,⟨by repeat (first|(with_reducible first|exact HB.out|apply below_alloc|apply pw_below_drewN|apply below_drew1)|exact HB.out)⟩⟩
          ·rw [if_neg c7] at H
           exact absurd H (by simp)
        ·rw [if_neg c5] at H
         exact absurd H (by simp)
       ·rw [if_neg c4] at H
        exact absurd H (by simp)
      ·rw [if_neg c3] at H
       have c3b0 : decide (0 < x5_2) = false:=decide_eq_false c3
       clear c3
       have H':=Aside0.mk H
       clear H
       go_wp2
       go_roundg k2
       case measure => have:=HK1.out;have:=HK2.out;omega
       case rel => exact ⟨(x3_2),(wrap64 (x4_1 + 1)),(by first|rfl|(simp;done)|(simp;decide +kernel)|(simp [*];done)),(by first|exact H'|(subst_vars;exact H')),⟨by have:=HK1.out;have:=HK2.out;omega⟩,⟨by (with_reducible repeat (first|apply Kd.R_alloc|apply Kd.R_drewN|apply Kd.R_drew));exact HO_3.out⟩,⟨by repeat (first|(with_reducible first|exact HB.out|apply below_alloc|apply pw_below_drewN|apply below_drew1)|exact HB.out)⟩⟩
   ·rw [if_neg c2] at H
    have c2b0 : decide (x4_1 < (l0.length : Int)) = false:=decide_eq_false c2
    clear c2
    have H':=Aside0.mk H
    clear H
    go_wp2
    go_loopg [3] k1 (fun kq v3 w' => ∃ (x3_2 : List Int),Aside0 (racewayref22_Encode.l2 kq x3_2 = some r) ∧ Aside0 (kq ≤ k1) ∧ Aside0 (Kd.R (Kd.int .i64) 3 w' w.heap.size (fun _ => True) v3 x3_2) ∧ Aside0 (Below w.heap.size w w'))
    case atStart => exact ⟨(x3_1),(by first|exact H'|(subst_vars;exact H')),⟨Nat.le_refl _⟩,⟨by (with_reducible repeat (first|apply Kd.R_alloc|apply Kd.R_drewN|apply Kd.R_drew));exact HO_3.out⟩,⟨by repeat (first|(with_reducible first|exact HB.out|apply below_alloc|apply pw_below_drewN|apply below_drew1)|exact HB.out)⟩⟩
    case round =>
     clear H'
     try clear c2
     try clear c2b0
     try clear p2
     try clear q2
     try clear hx2
     try clear c3
     try clear c3b0
     try clear c4
     try clear c4b0
     try clear c5
     try clear c5b0
     try clear c6
     try clear c6b0
     try clear c6b1
     try clear p6
     try clear c7
     try clear hx241_0
     try clear p2
     try clear p241
     try clear q241
     obtain ⟨x3_2,HA,HK2,HO_3,HB⟩:=hrel
     cases gk with
     | zero => exact absurd HA.out (by simp [racewayref22_Encode.l2])
     | succ k2 =>
      have H:=HA.out
      clear HA
      simp only [racewayref22_Encode.l2] at H
      by_cases c9 : ((x3_2.length : Int) % 6) = 0
      ·rw [if_pos c9] at H
       have c9b0 : (((x3_2.length : Int) % 6) == 0) = true:=beq_iff_eq.mpr c9
       have c9b1 : (((x3_2.length : Int) % 6) != 0) = false:=bne_eq_false_iff_eq.mpr c9
       clear c9
       have H':=Aside0.mk H
       clear H
       obtain ⟨Ao10,co10,eo10⟩:=Kd.R_slice HO_3.out
       subst eo10
       go_wp2
       go_loopg [6,7] k2 (fun kq v6 v7 w' => ∃ (x6_3 : ByteArray) (x7_3 : Int),v6 = .string x6_3 ∧ v7 = .int .i64 x7_3 ∧ Aside0 (racewayref22_Encode.l3 kq x3_2 x6_3 x7_3 = some r) ∧ Aside0 (kq ≤ k2) ∧ Aside0 (Kd.R (Kd.int .i64) 3 w' w.heap.size (fun _ => True) (.slice Ao10 x3_2.length co10) x3_2) ∧ Aside0 (Below w.heap.size w w'))
       case atStart => exact ⟨((⟨#[]⟩ : ByteArray)),(0),(by first|rfl|(simp;done)|(simp;decide +kernel)|(simp [*];done)),(by first|rfl|(simp;done)|(simp;decide +kernel)|(simp [*];done)),(by first|exact H'|(subst_vars;exact H')),⟨Nat.le_refl _⟩,⟨by (with_reducible repeat (first|apply Kd.R_alloc|apply Kd.R_drewN|apply Kd.R_drew));exact HO_3.out⟩,⟨by repeat (first|(with_reducible first|exact HB.out|apply below_alloc|apply pw_below_drewN|apply below_drew1)|exact HB.out)⟩⟩
       case round =>
        clear H'
        try clear c2
        try clear c2b0
        try clear p2
        try clear q2
        try clear hx2
        try clear c3
        try clear c3b0
        try clear c4
        try clear c4b0
        try clear c5
        try clear c5b0
        try clear c6
        try clear c6b0
        try clear c6b1
        try clear p6
        try clear c7
        try clear c9
        try clear c9b0
        try clear c9b1
        try clear hx241_0
        try clear p2
        try clear p241
        try clear p6
        try clear q2
        try clear q241
        obtain ⟨x6_3,x7_3,rfl,rfl,HA,HK3,HO_3,HB⟩:=hrel
        cases gk with
        | zero => exact absurd HA.out (by simp [racewayref22_Encode.l3])
        | succ k3 =>
         have H:=HA.out
         clear HA
         simp only [racewayref22_Encode.l3] at H
         by_cases c11 : x7_3 < (x3_2.length : Int)
         ·rw [if_pos c11] at H
          have c11b0 : decide (x7_3 < (x3_2.length : Int)) = true:=decide_eq_true c11
          clear c11
          have H':=Aside0.mk H
          clear H
          go_wp2
          go_loopg [8,9] k3 (fun kq v8 v9 w' => ∃ (x8_4 : Int) (x9_4 : Int),v8 = .int .i64 x8_4 ∧ v9 = .int .i64 x9_4 ∧ Aside0 (racewayref22_Encode.l4 kq x3_2 x6_3 x7_3 x8_4 x9_4 = some r) ∧ Aside0 (kq ≤ k3) ∧ Aside0 (Kd.R (Kd.int .i64) 3 w' w.heap.size (fun _ => True) (.slice Ao10 x3_2.length co10) x3_2) ∧ Aside0 (Below w.heap.size w w'))
          case atStart => exact ⟨(0),(0),(by first|rfl|(simp;done)|(simp;decide +kernel)|(simp [*];done)),(by first|rfl|(simp;done)|(simp;decide +kernel)|(simp [*];done)),(by first|exact H'|(subst_vars;exact H')),⟨Nat.le_refl _⟩,⟨by (with_reducible repeat (first|apply Kd.R_alloc|apply Kd.R_drewN|apply Kd.R_drew));exact HO_3.out⟩,⟨by repeat (first|(with_reducible first|exact HB.out|apply below_alloc|apply pw_below_drewN|apply below_drew1)|exact HB.out)⟩⟩
          case round =>
           clear H'
           try clear c1
           try clear c2
           try clear c2b0
           try clear p2
           try clear q2
           try clear hx2
           try clear c3
           try clear c3b0
           try clear c4
           try clear c4b0
           try clear c5
           try clear c5b0
           try clear c6
           try clear c6b0
           try clear c6b1
           try clear p6
           try clear c7
           try clear c9
           try clear c9b0
           try clear c9b1
           try clear c11
           try clear c11b0
           try clear hx241_0
           try clear p2
           try clear p241
           try clear p6
           try clear q2
           try clear q241
           obtain ⟨x8_4,x9_4,rfl,rfl,HA,HK4,HO_3,HB⟩:=hrel
           cases gk with
           | zero => exact absurd HA.out (by simp [racewayref22_Encode.l4])
           | succ k4 =>
            have H:=HA.out
            clear HA
            simp only [racewayref22_Encode.l4] at H
            by_cases c12 : x9_4 < 6
            ·rw [if_pos c12] at H
             have c12b0 : decide (x9_4 < 6) = true:=decide_eq_true c12
             clear c12
             obtain ⟨ji13,hji13⟩ : ∃ j_ : Int,(wrap64 (x7_3 + x9_4)) = j_:=⟨_,rfl⟩
             replace H : (if 0 ≤ (ji13) then (if (ji13) < (x3_2.length : Int) then (racewayref22_Encode.l4 k4 x3_2 x6_3 x7_3 (wrap64 ((wrap64 (2 * x8_4)) + (rd x3_2 (ji13)))) (wrap64 (x9_4 + 1))) else (none)) else (none)) = some r:=by first|(rw [hji13] at H;exact H)|(simp only [hji13] at H ⊢;exact H)
             have hji13w : (IntKind.i64.wrap (x7_3 + x9_4)) = ji13:=(i64_w _).trans hji13
             by_cases c14 : 0 ≤ (ji13)
             ·rw [if_pos c14] at H
              have c14b0 : decide (0 ≤ (ji13)) = true:=decide_eq_true c14
              clear c14
              by_cases c15 : (ji13) < (x3_2.length : Int)
              ·rw [if_pos c15] at H
               have c15b0 : decide ((ji13) < (x3_2.length : Int)) = true:=decide_eq_true c15
               clear c15
               have H':=Aside0.mk H
               clear H
               have p248 : 0 ≤ ((ji13) : Int):=of_decide_eq_true (by first|(with_reducible assumption)|assumption)
               have q248 : (ji13) < (x3_2.length : Int):=of_decide_eq_true (by first|(with_reducible assumption)|assumption)
               obtain ⟨ad248,e248,hx248_0⟩:=Kd.at_int (Kd.R_reads' HO_3.out).2.2 (ji13) p248 q248
               cases e248
               replace p248:=eq_true p248
               replace q248:=eq_true q248
               go_wp2
               go_roundg k4
               case measure => have:=HK1.out;have:=HK2.out;have:=HK3.out;have:=HK4.out;omega
               case rel => exact ⟨(wrap64 ((wrap64 (2 * x8_4)) + (rd x3_2 (ji13)))),(wrap64 (x9_4 + 1)),(by first|rfl|(simp;done)|(simp only [← hji13] <;> (first|rfl|simp))|(simp [*];done)),(by first|rfl|(simp;done)|(simp;decide +kernel)|(simp [*];done)),(by first|exact H'|(subst_vars;exact H')),⟨by have:=HK1.out;have:=HK2.out;have:=HK3.out;have:=HK4.out;omega⟩,⟨by (with_reducible repeat (first|apply Kd.R_alloc|apply Kd.R_drewN|apply Kd.R_drew));exact HO_3.out⟩,⟨by repeat (first|(with_reducible first|exact HB.out|apply below_alloc|apply pw_below_drewN|apply below_drew1)|exact HB.out)⟩⟩
              ·rw [if_neg c15] at H
               exact absurd H (by simp)
             ·rw [if_neg c14] at H
              exact absurd H (by simp)
            ·rw [if_neg c12] at H
             have c12b0 : decide (x9_4 < 6) = false:=decide_eq_false c12
             clear c12
             by_cases c16 : 0 ≤ x8_4
             ·rw [if_pos c16] at H
              have c16b0:=eq_true c16
              have c16b1 : decide (0 ≤ x8_4) = true:=decide_eq_true c16
              clear c16
              by_cases c17 : x8_4 ≤ (wrap64 (x8_4 + 1))
              ·rw [if_pos c17] at H
               have c17b0:=eq_true c17
               have c17b1 : decide (x8_4 ≤ (wrap64 (x8_4 + 1))) = true:=decide_eq_true c17
               by_cases c18 : (wrap64 (x8_4 + 1)) ≤ 64
               ·rw [if_pos c18] at H
                have c18b0:=eq_true c18
                have c18b1 : decide ((wrap64 (x8_4 + 1)) ≤ 64) = true:=decide_eq_true c18
                by_cases c19 : x6_3.size + ((⟨#[65,66,67,68,69,70,71,72,73,74,75,76,77,78,79,80,81,82,83,84,85,86,87,88,89,90,97,98,99,100,101,102,103,104,105,106,107,108,109,110,111,112,113,114,115,116,117,118,119,120,121,122,48,49,50,51,52,53,54,55,56,57,43,47]⟩ : ByteArray).extract (x8_4 : Int).toNat ((wrap64 (x8_4 + 1)) : Int).toNat).size ≤ 9223372036854775807
                ·rw [if_pos c19] at H
                 have c19b0:=eq_true c19
                 have c19b1 : decide (x6_3.size + ((⟨#[65,66,67,68,69,70,71,72,73,74,75,76,77,78,79,80,81,82,83,84,85,86,87,88,89,90,97,98,99,100,101,102,103,104,105,106,107,108,109,110,111,112,113,114,115,116,117,118,119,120,121,122,48,49,50,51,52,53,54,55,56,57,43,47]⟩ : ByteArray).extract (x8_4 : Int).toNat ((wrap64 (x8_4 + 1)) : Int).toNat).size ≤ 9223372036854775807) = true:=decide_eq_true c19
                 try have c19b2 : (9223372036854775807 < x6_3.size + ((⟨#[65,66,67,68,69,70,71,72,73,74,75,76,77,78,79,80,81,82,83,84,85,86,87,88,89,90,97,98,99,100,101,102,103,104,105,106,107,108,109,110,111,112,113,114,115,116,117,118,119,120,121,122,48,49,50,51,52,53,54,55,56,57,43,47]⟩ : ByteArray).extract (x8_4 : Int).toNat ((wrap64 (x8_4 + 1)) : Int).toNat).size) = False:=eq_false (Nat.not_lt.2 c19)
                 have g_sum19 : (9223372036854775807 < x6_3.size + ((wrap64 (x8_4 + 1)).toNat - x8_4.toNat)) = False:=eq_false (by have h_:=c19;have b_:=c18;simp only [ByteArray.size_extract,show (⟨#[65,66,67,68,69,70,71,72,73,74,75,76,77,78,79,80,81,82,83,84,85,86,87,88,89,90,97,98,99,100,101,102,103,104,105,106,107,108,109,110,111,112,113,114,115,116,117,118,119,120,121,122,48,49,50,51,52,53,54,55,56,57,43,47]⟩ : ByteArray).size = 64 from rfl] at h_;omega)
                 have H':=Aside0.mk H
                 clear H
                 go_wp2
                 go_roundg k4
                 case measure => have:=HK1.out;have:=HK2.out;have:=HK3.out;have:=HK4.out;omega
                 case rel => exact ⟨(x6_3 ++ ((⟨#[65,66,67,68,69,70,71,72,73,74,75,76,77,78,79,80,81,82,83,84,85,86,87,88,89,90,97,98,99,100,101,102,103,104,105,106,107,108,109,110,111,112,113,114,115,116,117,118,119,120,121,122,48,49,50,51,52,53,54,55,56,57,43,47]⟩ : ByteArray).extract (x8_4 : Int).toNat ((wrap64 (x8_4 + 1)) : Int).toNat)),(wrap64 (x7_3 + 6)),(by first|rfl|(simp;done)|(simp;decide +kernel)|(simp [*];done)),(by first|rfl|(simp;done)|(simp;decide +kernel)|(simp [*];done)),(by first|exact H'|(subst_vars;exact H')),⟨by have:=HK1.out;have:=HK2.out;have:=HK3.out;have:=HK4.out;omega⟩,⟨by (with_reducible repeat (first|apply Kd.R_alloc|apply Kd.R_drewN|apply Kd.R_drew));exact HO_3.out⟩,⟨by repeat (first|(with_reducible first|exact HB.out|apply below_alloc|apply pw_below_drewN|apply below_drew1)|exact HB.out)⟩⟩
                ·rw [if_neg c19] at H
                 exact absurd H (by simp)
               ·rw [if_neg c18] at H
                exact absurd H (by simp)
              ·rw [if_neg c17] at H
               exact absurd H (by simp)
             ·rw [if_neg c16] at H
              exact absurd H (by simp)
         ·rw [if_neg c11] at H
          have c11b0 : decide (x7_3 < (x3_2.length : Int)) = false:=decide_eq_false c11
          clear c11
          have H':=Aside0.mk H
          clear H
          go_wp2
          go_loopg [6] k3 (fun kq v6 w' => ∃ (x6_4 : ByteArray),v6 = .string x6_4 ∧ Aside0 (racewayref22_Encode.l5 kq x6_4 = some r) ∧ Aside0 (kq ≤ k3) ∧ Aside0 (Below w.heap.size w w'))
          case atStart => exact ⟨(x6_3),(by first|rfl|(simp;done)|(simp;decide +kernel)|(simp [*];done)),(by first|exact H'|(subst_vars;exact H')),⟨Nat.le_refl _⟩,⟨by repeat (first|(with_reducible first|exact HB.out|apply below_alloc|apply pw_below_drewN|apply below_drew1)|exact HB.out)⟩⟩
          case round =>
           clear H'
           try clear c1
           try clear c2
           try clear c2b0
           try clear p2
           try clear q2
           try clear hx2
           try clear c3
           try clear c3b0
           try clear c4
           try clear c4b0
           try clear c5
           try clear c5b0
           try clear c6
           try clear c6b0
           try clear c6b1
           try clear p6
           try clear c7
           try clear c9
           try clear c9b0
           try clear c9b1
           try clear c11
           try clear c11b0
           try clear c12
           try clear c12b0
           try clear c14
           try clear c14b0
           try clear c15
           try clear c15b0
           try clear c16
           try clear c16b0
           try clear c16b1
           try clear c17
           try clear c17b0
           try clear c17b1
           try clear c18
           try clear c18b0
           try clear c18b1
           try clear c19
           try clear c19b0
           try clear c19b1
           try clear c19b2
           try clear hx241_0
           try clear hx248_0
           try clear p2
           try clear p241
           try clear p248
           try clear p6
           try clear q2
           try clear q241
           try clear q248
           obtain ⟨x6_4,rfl,HA,HK4,HB⟩:=hrel
           cases gk with
           | zero => exact absurd HA.out (by simp [racewayref22_Encode.l5])
           | succ k4 =>
            have H:=HA.out
            clear HA
            simp only [racewayref22_Encode.l5] at H
            by_cases c20 : ((x6_4.size : Int) % 4) = 0
            ·rw [if_pos c20] at H
             have c20b0 : (((x6_4.size : Int) % 4) == 0) = true:=beq_iff_eq.mpr c20
             have c20b1 : (((x6_4.size : Int) % 4) != 0) = false:=bne_eq_false_iff_eq.mpr c20
             clear c20
             obtain rfl:=Option.some.inj H
             go_wp2
             go_ret
             exact ⟨by first|rfl|(simp [errW_none,errW_some] <;> rfl)|(simp [*,errW_none,errW_some] <;> rfl),by repeat (first|(with_reducible first|exact HB.out|apply below_alloc|apply pw_below_drewN|apply below_drew1)|exact HB.out)⟩
            ·rw [if_neg c20] at H
             have c20b0 : (((x6_4.size : Int) % 4) == 0) = false:=beq_eq_false_iff_ne.mpr c20
             have c20b1 : (((x6_4.size : Int) % 4) != 0) = true:=bne_iff_ne.mpr c20
             by_cases c21 : x6_4.size + 1 ≤ 9223372036854775807
             ·rw [if_pos c21] at H
              have c21b0:=eq_true c21
              have c21b1 : decide (x6_4.size + 1 ≤ 9223372036854775807) = true:=decide_eq_true c21
              try have c21b2 : (9223372036854775807 < x6_4.size + 1) = False:=eq_false (Nat.not_lt.2 c21)
              have H':=Aside0.mk H
              clear H
              go_wp2
              go_roundg k4
              case measure => have:=HK1.out;have:=HK2.out;have:=HK3.out;have:=HK4.out;omega
              case rel => exact ⟨(x6_4 ++ (⟨#[61]⟩ : ByteArray)),(by first|rfl|(simp;done)|(simp;decide +kernel)|(simp [*];done)),(by first|exact H'|(subst_vars;exact H')),⟨by have:=HK1.out;have:=HK2.out;have:=HK3.out;have:=HK4.out;omega⟩,⟨by repeat (first|(with_reducible first|exact HB.out|apply below_alloc|apply pw_below_drewN|apply below_drew1)|exact HB.out)⟩⟩
             ·rw [if_neg c21] at H
              exact absurd H (by simp)
      ·rw [if_neg c9] at H
       have c9b0 : (((x3_2.length : Int) % 6) == 0) = false:=beq_eq_false_iff_ne.mpr c9
       have c9b1 : (((x3_2.length : Int) % 6) != 0) = true:=bne_iff_ne.mpr c9
       by_cases c22 : x3_2.length < 17592186044416
       ·rw [if_pos c22] at H
        have LMc22:=Aside0.mk c22
        clear c22
        obtain ⟨y245,hy245⟩ : ∃ y_ : List Int,y_ = (x3_2 ++ [0]):=⟨_,rfl⟩
        replace H : (racewayref22_Encode.l2 k2 y245) = some r:=by first|(rw [hy245];with_reducible exact H)|(have H2_:=(Option.bind_some _ _).symm.trans H;rw [hy245];with_reducible exact H2_)|(have H2_:=(Option.bind_some _ _).symm.trans H;with_reducible exact H2_)|with_reducible exact H|(rw [hy245];exact H)|exact H
        have Ny245:=Aside0.mk hy245
        clear hy245
        have H':=Aside0.mk H
        clear H
        obtain ⟨Ao23,co23,eo23⟩:=Kd.R_slice HO_3.out
        subst eo23
        go_wp2_with (first|((with_reducible refine gate_builtin (b:=.append) (xs:=#[.tmp 35,.tmp 36]) rfl ?_);at_builtin;refine Kd.R_append (Kd.int .i64) (w0:=w) w.heap.size rfl (.tmp 35) (.tmp 36) 62 3 (.int .i64 0) 8 rfl Tryd.underlying62 info3 rfl (by decide) (by omega) (.slice Ao23 x3_2.length co23) x3_2 0 [.int .i64 0] (fun _ => True) (fun _ => False) rfl rfl ?aP (fun _ hk => hk.elim) ?aF ?aO ?aB ?aS ?aL ?_;(case aP => exact rfl);(case aB => exact (by repeat (first|(with_reducible first|exact HB.out|apply below_alloc|apply pw_below_drewN|apply below_drew1)|exact HB.out)));(case aF => exact (fun _ _ => trivial));(case aO => exact (by (with_reducible repeat (first|apply Kd.R_alloc|apply Kd.R_drewN|apply Kd.R_drew));exact HO_3.out));(case aS => exact (below_size (by repeat (first|(with_reducible first|exact HB.out|apply below_alloc|apply pw_below_drewN|apply below_drew1)|exact HB.out))));(case aL => have:=LMc22.out;omega);intro v246 w24 ho hb hg hat;rw [← Ny245.out] at ho;have n0_:=Aside0.mk (hb);have n1_:=Aside0.mk (ho);clear HB;clear HO_3;have HB:=n0_;have HO247:=n1_;clear n0_ n1_;clear ho hb hg hat))
        go_roundg k2
        case measure => have:=HK1.out;have:=HK2.out;omega
        case rel => exact ⟨(y245),(by first|exact H'|(subst_vars;exact H')),⟨by have:=HK1.out;have:=HK2.out;omega⟩,⟨by (with_reducible repeat (first|apply Kd.R_alloc|apply Kd.R_drewN|apply Kd.R_drew));exact HO247.out⟩,⟨by repeat (first|(with_reducible first|exact HB.out|apply below_alloc|apply pw_below_drewN|apply below_drew1)|exact HB.out)⟩⟩
       ·rw [if_neg c22] at H
        exact absurd H (by simp)
end Go.Proofs.YtedfgkjimnjdpaaDoor.X
namespace Go.Proofs.YtedfgkjimnjdpaaDoor.X
open Go.RowKit Go.Proofs.YtedfgkjimnjdpaaDoorW.PrintWords Go.Proofs.YtedfgkjimnjdpaaDoorW.PrintLast Go.Proofs.YtedfgkjimnjdpaaDoorW.PrintMore
attribute [local go_sem] max2_int min2_int max_two min_two max_three min_three max_four min_four
set_option linter.unusedVariables false
set_option linter.unusedSimpArgs false
def racewayref27_Handle.j0 : Nat → Bool → Int → ByteArray → Int → Int → Option (ByteArray × Int)
 | 0,_,_,_,_,_ => none
 | k + 1,x23,x250000,x250001,x250002,x250003 => if x23 = true then (some ((⟨#[]⟩ : ByteArray),2)) else (if (x250001.size : Int) > 32 then (some ((⟨#[]⟩ : ByteArray),3)) else ((racewayref01_Num.f k ([] : List Int) x250000).bind fun bt253 => ((racewayref01_Text.f k bt253.1 x250001).bind fun bt257 => ((racewayref01_Num.f k bt257.1 x250002).bind fun bt261 => ((racewayref01_Num.f k bt261.1 x250003).bind fun bt265 => ((racewayref02_Frame.f k bt265.1).bind fun bt269 => ((racewayref22_Encode.f k bt269.1).bind fun t273 => (some (t273,0)))))))))
def racewayref27_Handle.f (k : Nat) (a0_0 : Int) (a0_1 : ByteArray) (a0_2 : Int) (a0_3 : Int) : Option (ByteArray × Int):=(racewayref27_num.f a0_0).bind fun t250 => (if t250 = true then ((racewayref27_num.f a0_2).bind fun t251 => (if t251 = true then ((racewayref27_num.f a0_3).bind fun t252 => (racewayref27_Handle.j0 k (!t252) a0_0 a0_1 a0_2 a0_3)) else (racewayref27_Handle.j0 k true a0_0 a0_1 a0_2 a0_3))) else (racewayref27_Handle.j0 k true a0_0 a0_1 a0_2 a0_3))
set_option maxHeartbeats 8000000 in
set_option maxRecDepth 100000 in
theorem racewayref27_Handle.calls (k : Nat) (a0_0 : Int) (a0_1 : ByteArray) (a0_2 : Int) (a0_3 : Int) (r1 : ByteArray) (r2 : Int) (w : World) (h : racewayref27_Handle.f k a0_0 a0_1 a0_2 a0_3 = some (r1,r2)) :
  Calls Tryd.prog 21 #[.agg #[.int .i64 a0_0,.string a0_1,.int .i64 a0_2,.int .i64 a0_3]] w fun e w' => e = .returned (.tuple #[.string r1,.int .i64 r2]) ∧ Below w.heap.size w w':=by
 have hu39:=Tryd.underlying39
 have HB:=Aside0.mk (Below.refl w.heap.size w)
 have H : ((racewayref27_num.f a0_0).bind fun t250 => (if t250 = true then ((racewayref27_num.f a0_2).bind fun t251 => (if t251 = true then ((racewayref27_num.f a0_3).bind fun t252 => (racewayref27_Handle.j0 k (!t252) a0_0 a0_1 a0_2 a0_3)) else (racewayref27_Handle.j0 k true a0_0 a0_1 a0_2 a0_3))) else (racewayref27_Handle.j0 k true a0_0 a0_1 a0_2 a0_3))) = some (r1,r2):=h
 clear h
 have HC2:=Aside0.mk H
 clear H
 go_enter Tryd.func21,Tryd.ntmps21
 go_upto_region 1 with (first|((with_reducible refine gate_dst (N:=1) rfl ?_);refine box_event ?hg (N:=1) ?hd (cs:=#[.int .i64 a0_0,.string a0_1,.int .i64 a0_2,.int .i64 a0_3]) (t:=39) ?hr ?_;(case hd => rfl);(case hg => rfl);(case hr => first|(go_simp;done)|(go_simp;rfl));intro gb249 hg w3 hbox hb;have n0_:=Aside0.mk (below_step (by repeat (first|(with_reducible first|exact HB.out|apply below_alloc|apply pw_below_drewN|apply below_drew1)|exact HB.out)) hb);have n1_:=Aside0.mk (hbox);have n2_:=Aside0.mk ((by rw [hg];exact (below_size (by repeat (first|(with_reducible first|exact HB.out|apply below_alloc|apply pw_below_drewN|apply below_drew1)|exact HB.out))) : w.heap.size ≤ gb249));have n3_:=Aside0.mk ((by rw [hg];exact (below_size (by repeat (first|(with_reducible first|exact HB.out|apply below_alloc|apply pw_below_drewN|apply below_drew1)|exact HB.out))) : w.heap.size ≤ gb249));clear HB;have HB:=n0_;have BK249:=n1_;have GW249:=n2_;have GE249:=n3_;clear n0_ n1_ n2_ n3_;clear hb hbox hg))
 (try simp only [Act.put,List.setIfInBounds_toArray,List.set_cons_zero,List.set_cons_succ])
 go_cut [23] (fun v23 wc => ∃ (kq : Nat) (x23_1 : Bool),v23 = .bool x23_1 ∧ Aside0 (racewayref27_Handle.j0 kq x23_1 a0_0 a0_1 a0_2 a0_3 = some (r1,r2)) ∧ Aside0 (kq ≤ k) ∧ Aside0 (wc.heap[gb249]? = some (.cells #[.int .i64 a0_0,.string a0_1,.int .i64 a0_2,.int .i64 a0_3] 39 (0,0))) ∧ Aside0 (Below w.heap.size w wc))
 case first =>
  have H:=HC2.out
  clear HC2
  replace H:=Option.bind_eq_some_iff.mp H
  obtain ⟨t250,A40,H⟩:=H
  replace H : (if t250 = true then ((racewayref27_num.f a0_2).bind fun t251 => (if t251 = true then ((racewayref27_num.f a0_3).bind fun t252 => (racewayref27_Handle.j0 k (!t252) a0_0 a0_1 a0_2 a0_3)) else (racewayref27_Handle.j0 k true a0_0 a0_1 a0_2 a0_3))) else (racewayref27_Handle.j0 k true a0_0 a0_1 a0_2 a0_3)) = some (r1,r2):=H
  have A4:=Aside0.mk A40
  clear A40
  by_cases c5 : t250 = true
  ·subst c5
   have H1 : ((racewayref27_num.f a0_2).bind fun t251 => (if t251 = true then ((racewayref27_num.f a0_3).bind fun t252 => (racewayref27_Handle.j0 k (!t252) a0_0 a0_1 a0_2 a0_3)) else (racewayref27_Handle.j0 k true a0_0 a0_1 a0_2 a0_3))) = some (r1,r2):=by rw [if_pos rfl] at H;exact H
   clear H
   have H:=H1
   clear H1
   replace H:=Option.bind_eq_some_iff.mp H
   obtain ⟨t251,A60,H⟩:=H
   replace H : (if t251 = true then ((racewayref27_num.f a0_3).bind fun t252 => (racewayref27_Handle.j0 k (!t252) a0_0 a0_1 a0_2 a0_3)) else (racewayref27_Handle.j0 k true a0_0 a0_1 a0_2 a0_3)) = some (r1,r2):=H
   have A6:=Aside0.mk A60
   clear A60
   by_cases c7 : t251 = true
   ·subst c7
    have H1 : ((racewayref27_num.f a0_3).bind fun t252 => (racewayref27_Handle.j0 k (!t252) a0_0 a0_1 a0_2 a0_3)) = some (r1,r2):=by rw [if_pos rfl] at H;exact H
    clear H
    have H:=H1
    clear H1
    replace H:=Option.bind_eq_some_iff.mp H
    obtain ⟨t252,A80,H⟩:=H
    replace H : (racewayref27_Handle.j0 k (!t252) a0_0 a0_1 a0_2 a0_3) = some (r1,r2):=H
    have A8:=Aside0.mk A80
    clear A80
    have H':=Aside0.mk H
    clear H
    have hcz9_0 : w3.cell? ⟨gb249,0,none⟩ = some (.int .i64 a0_0):=(blk_cell BK249.out 0).trans rfl
    have hcz9_1 : w3.cell? ⟨gb249,1,none⟩ = some (.string a0_1):=(blk_cell BK249.out 1).trans rfl
    have hcz9_2 : w3.cell? ⟨gb249,2,none⟩ = some (.int .i64 a0_2):=(blk_cell BK249.out 2).trans rfl
    have hcz9_3 : w3.cell? ⟨gb249,3,none⟩ = some (.int .i64 a0_3):=(blk_cell BK249.out 3).trans rfl
    have hfz9_0:=blk_frozen BK249.out 0
    have hfz9_1:=blk_frozen BK249.out 1
    have hfz9_2:=blk_frozen BK249.out 2
    have hfz9_3:=blk_frozen BK249.out 3
    go_wp2_with (first|((with_reducible refine gate_callee (f:=43) rfl ?_);refine goesL_ (some 10) rfl rfl Tryd.func43 (by kernel_rfl) rfl #[.int .i64 a0_0] rfl (by (try simp only [List.map_toArray,List.map_cons,List.map_nil]);first|done|rfl|(simp only [List.length_drop,List.length_take];rfl)) ?_;(with_reducible refine (racewayref27_num.calls a0_0 true _ A4.out).mono ?_);rintro e w' ⟨rfl,⟨nd,rfl⟩⟩;refine ⟨_,rfl,?_⟩)|(go_at_call 43;(with_reducible refine (racewayref27_num.calls a0_2 true _ A6.out).mono ?_);rintro e w' ⟨rfl,⟨nd,rfl⟩⟩)|(go_at_call 43;(with_reducible refine (racewayref27_num.calls a0_3 t252 _ A8.out).mono ?_);rintro e w' ⟨rfl,⟨nd,rfl⟩⟩))
    go_meet
    case rel => exact ⟨_,(!t252),(by first|rfl|(simp;done)|(simp;decide +kernel)|(simp [*];done)),(by first|exact H'|(subst_vars;exact H')),⟨by first|omega|exact Nat.le_refl _⟩,⟨by (with_reducible repeat (first|refine blk_drewN ?_ _|refine blk_drew ?_|refine blk_alloc ?_ _));exact BK249.out⟩,⟨by repeat (first|(with_reducible first|exact HB.out|apply below_alloc|apply pw_below_drewN|apply below_drew1|refine below_set ?_ GE249.out)|exact HB.out)⟩⟩
   ·replace c7:=Bool.eq_false_iff.mpr c7
    subst c7
    have H1 : (racewayref27_Handle.j0 k true a0_0 a0_1 a0_2 a0_3) = some (r1,r2):=by rw [if_neg (show ¬ (false = true) by decide)] at H;exact H
    clear H
    have H:=H1
    clear H1
    have H':=Aside0.mk H
    clear H
    have hcz10_0 : w3.cell? ⟨gb249,0,none⟩ = some (.int .i64 a0_0):=(blk_cell BK249.out 0).trans rfl
    have hcz10_1 : w3.cell? ⟨gb249,1,none⟩ = some (.string a0_1):=(blk_cell BK249.out 1).trans rfl
    have hcz10_2 : w3.cell? ⟨gb249,2,none⟩ = some (.int .i64 a0_2):=(blk_cell BK249.out 2).trans rfl
    have hcz10_3 : w3.cell? ⟨gb249,3,none⟩ = some (.int .i64 a0_3):=(blk_cell BK249.out 3).trans rfl
    have hfz10_0:=blk_frozen BK249.out 0
    have hfz10_1:=blk_frozen BK249.out 1
    have hfz10_2:=blk_frozen BK249.out 2
    have hfz10_3:=blk_frozen BK249.out 3
    go_wp2_with (first|((with_reducible refine gate_callee (f:=43) rfl ?_);refine goesL_ (some 10) rfl rfl Tryd.func43 (by kernel_rfl) rfl #[.int .i64 a0_0] rfl (by (try simp only [List.map_toArray,List.map_cons,List.map_nil]);first|done|rfl|(simp only [List.length_drop,List.length_take];rfl)) ?_;(with_reducible refine (racewayref27_num.calls a0_0 true _ A4.out).mono ?_);rintro e w' ⟨rfl,⟨nd,rfl⟩⟩;refine ⟨_,rfl,?_⟩)|(go_at_call 43;(with_reducible refine (racewayref27_num.calls a0_2 false _ A6.out).mono ?_);rintro e w' ⟨rfl,⟨nd,rfl⟩⟩))
    go_meet
    case rel => exact ⟨_,(true),(by first|rfl|(simp;done)|(simp;decide +kernel)|(simp [*];done)),(by first|exact H'|(subst_vars;exact H')),⟨by first|omega|exact Nat.le_refl _⟩,⟨by (with_reducible repeat (first|refine blk_drewN ?_ _|refine blk_drew ?_|refine blk_alloc ?_ _));exact BK249.out⟩,⟨by repeat (first|(with_reducible first|exact HB.out|apply below_alloc|apply pw_below_drewN|apply below_drew1|refine below_set ?_ GE249.out)|exact HB.out)⟩⟩
  ·replace c5:=Bool.eq_false_iff.mpr c5
   subst c5
   have H1 : (racewayref27_Handle.j0 k true a0_0 a0_1 a0_2 a0_3) = some (r1,r2):=by rw [if_neg (show ¬ (false = true) by decide)] at H;exact H
   clear H
   have H:=H1
   clear H1
   have H':=Aside0.mk H
   clear H
   have hcz11_0 : w3.cell? ⟨gb249,0,none⟩ = some (.int .i64 a0_0):=(blk_cell BK249.out 0).trans rfl
   have hcz11_1 : w3.cell? ⟨gb249,1,none⟩ = some (.string a0_1):=(blk_cell BK249.out 1).trans rfl
   have hcz11_2 : w3.cell? ⟨gb249,2,none⟩ = some (.int .i64 a0_2):=(blk_cell BK249.out 2).trans rfl
   have hcz11_3 : w3.cell? ⟨gb249,3,none⟩ = some (.int .i64 a0_3):=(blk_cell BK249.out 3).trans rfl
   have hfz11_0:=blk_frozen BK249.out 0
   have hfz11_1:=blk_frozen BK249.out 1
   have hfz11_2:=blk_frozen BK249.out 2
   have hfz11_3:=blk_frozen BK249.out 3
   go_wp2_with (first|((with_reducible refine gate_callee (f:=43) rfl ?_);refine goesL_ (some 10) rfl rfl Tryd.func43 (by kernel_rfl) rfl #[.int .i64 a0_0] rfl (by (try simp only [List.map_toArray,List.map_cons,List.map_nil]);first|done|rfl|(simp only [List.length_drop,List.length_take];rfl)) ?_;(with_reducible refine (racewayref27_num.calls a0_0 false _ A4.out).mono ?_);rintro e w' ⟨rfl,⟨nd,rfl⟩⟩;refine ⟨_,rfl,?_⟩))
   go_meet
   case rel => exact ⟨_,(true),(by first|rfl|(simp;done)|(simp;decide +kernel)|(simp [*];done)),(by first|exact H'|(subst_vars;exact H')),⟨by first|omega|exact Nat.le_refl _⟩,⟨by (with_reducible repeat (first|refine blk_drewN ?_ _|refine blk_drew ?_|refine blk_alloc ?_ _));exact BK249.out⟩,⟨by repeat (first|(with_reducible first|exact HB.out|apply below_alloc|apply pw_below_drewN|apply below_drew1|refine below_set ?_ GE249.out)|exact HB.out)⟩⟩
 case rest =>
  clear HC2
  try clear c2
  try clear p2
  try clear c4
  try clear c5
  try clear c7
  try clear hcz10_0
  try clear hcz10_1
  try clear hcz10_2
  try clear hcz10_3
  try clear hcz11_0
  try clear hcz11_1
  try clear hcz11_2
  try clear hcz11_3
  try clear hcz9_0
  try clear hcz9_1
  try clear hcz9_2
  try clear hcz9_3
  try clear hfz10_0
  try clear hfz10_1
  try clear hfz10_2
  try clear hfz10_3
  try clear hfz11_0
  try clear hfz11_1
  try clear hfz11_2
  try clear hfz11_3
  try clear hfz9_0
  try clear hfz9_1
  try clear hfz9_2
  try clear hfz9_3
  obtain ⟨kq,x23_1,rfl,HA,HJ1,BK249,HB⟩:=hcut
  cases kq with
  | zero => exact absurd HA.out (by simp [racewayref27_Handle.j0])
  | succ kj1 =>
   have H:=HA.out
   clear HA
   simp only [racewayref27_Handle.j0] at H
   by_cases c12 : x23_1 = true
   ·subst c12
    have H1 : (some ((⟨#[]⟩ : ByteArray),2)) = some (r1,r2):=by rw [if_pos rfl] at H;exact H
    clear H
    have H:=H1
    clear H1
    simp only [Option.some.injEq,Prod.mk.injEq] at H
    obtain ⟨rfl,rfl⟩:=H
    go_wp2
    go_ret2
    exact ⟨by first|rfl|(simp [errW_none,errW_some] <;> rfl)|(simp [*,errW_none,errW_some] <;> rfl),by repeat (first|(with_reducible first|exact HB.out|apply below_alloc|apply pw_below_drewN|apply below_drew1|refine below_set ?_ GE249.out)|exact HB.out)⟩
   ·replace c12:=Bool.eq_false_iff.mpr c12
    subst c12
    have H1 : (if (a0_1.size : Int) > 32 then (some ((⟨#[]⟩ : ByteArray),3)) else ((racewayref01_Num.f kj1 ([] : List Int) a0_0).bind fun bt253 => ((racewayref01_Text.f kj1 bt253.1 a0_1).bind fun bt257 => ((racewayref01_Num.f kj1 bt257.1 a0_2).bind fun bt261 => ((racewayref01_Num.f kj1 bt261.1 a0_3).bind fun bt265 => ((racewayref02_Frame.f kj1 bt265.1).bind fun bt269 => ((racewayref22_Encode.f kj1 bt269.1).bind fun t273 => (some (t273,0))))))))) = some (r1,r2):=by rw [if_neg (show ¬ (false = true) by decide)] at H;exact H
    clear H
    have H:=H1
    clear H1
    by_cases c13 : (a0_1.size : Int) > 32
    ·rw [if_pos c13] at H
     have c13b0 : decide (32 < (a0_1.size : Int)) = true:=decide_eq_true c13
     have c13b1 : decide (32 < a0_1.size) = true:=decide_eq_true (by omega)
     clear c13
     simp only [Option.some.injEq,Prod.mk.injEq] at H
     obtain ⟨rfl,rfl⟩:=H
     have hcz14_0 : wc.cell? ⟨gb249,0,none⟩ = some (.int .i64 a0_0):=(blk_cell BK249.out 0).trans rfl
     have hcz14_1 : wc.cell? ⟨gb249,1,none⟩ = some (.string a0_1):=(blk_cell BK249.out 1).trans rfl
     have hcz14_2 : wc.cell? ⟨gb249,2,none⟩ = some (.int .i64 a0_2):=(blk_cell BK249.out 2).trans rfl
     have hcz14_3 : wc.cell? ⟨gb249,3,none⟩ = some (.int .i64 a0_3):=(blk_cell BK249.out 3).trans rfl
     have hfz14_0:=blk_frozen BK249.out 0
     have hfz14_1:=blk_frozen BK249.out 1
     have hfz14_2:=blk_frozen BK249.out 2
     have hfz14_3:=blk_frozen BK249.out 3
     go_wp2
     go_ret2
     exact ⟨by first|rfl|(simp [errW_none,errW_some] <;> rfl)|(simp [*,errW_none,errW_some] <;> rfl),by repeat (first|(with_reducible first|exact HB.out|apply below_alloc|apply pw_below_drewN|apply below_drew1|refine below_set ?_ GE249.out)|exact HB.out)⟩
    ·rw [if_neg c13] at H
     have c13b0 : decide (32 < (a0_1.size : Int)) = false:=decide_eq_false c13
     have c13b1 : decide (32 < a0_1.size) = false:=decide_eq_false (by omega)
     clear c13
     replace H:=Option.bind_eq_some_iff.mp H
     obtain ⟨⟨t253,t254⟩,A150,H⟩:=H
     replace H : ((racewayref01_Text.f kj1 t253 a0_1).bind fun bt257 => ((racewayref01_Num.f kj1 bt257.1 a0_2).bind fun bt261 => ((racewayref01_Num.f kj1 bt261.1 a0_3).bind fun bt265 => ((racewayref02_Frame.f kj1 bt265.1).bind fun bt269 => ((racewayref22_Encode.f kj1 bt269.1).bind fun t273 => (some (t273,0))))))) = some (r1,r2):=H
     have A15:=Aside0.mk A150
     clear A150
     replace H:=Option.bind_eq_some_iff.mp H
     obtain ⟨⟨t257,t258⟩,A160,H⟩:=H
     replace H : ((racewayref01_Num.f kj1 t257 a0_2).bind fun bt261 => ((racewayref01_Num.f kj1 bt261.1 a0_3).bind fun bt265 => ((racewayref02_Frame.f kj1 bt265.1).bind fun bt269 => ((racewayref22_Encode.f kj1 bt269.1).bind fun t273 => (some (t273,0)))))) = some (r1,r2):=H
     have A16:=Aside0.mk A160
     clear A160
     replace H:=Option.bind_eq_some_iff.mp H
     obtain ⟨⟨t261,t262⟩,A170,H⟩:=H
     replace H : ((racewayref01_Num.f kj1 t261 a0_3).bind fun bt265 => ((racewayref02_Frame.f kj1 bt265.1).bind fun bt269 => ((racewayref22_Encode.f kj1 bt269.1).bind fun t273 => (some (t273,0))))) = some (r1,r2):=H
     have A17:=Aside0.mk A170
     clear A170
     replace H:=Option.bind_eq_some_iff.mp H
     obtain ⟨⟨t265,t266⟩,A180,H⟩:=H
     replace H : ((racewayref02_Frame.f kj1 t265).bind fun bt269 => ((racewayref22_Encode.f kj1 bt269.1).bind fun t273 => (some (t273,0)))) = some (r1,r2):=H
     have A18:=Aside0.mk A180
     clear A180
     replace H:=Option.bind_eq_some_iff.mp H
     obtain ⟨⟨t269,t270⟩,A190,H⟩:=H
     replace H : ((racewayref22_Encode.f kj1 t269).bind fun t273 => (some (t273,0))) = some (r1,r2):=H
     have A19:=Aside0.mk A190
     clear A190
     replace H:=Option.bind_eq_some_iff.mp H
     obtain ⟨t273,A200,H⟩:=H
     replace H : (some (t273,0)) = some (r1,r2):=H
     have A20:=Aside0.mk A200
     clear A200
     simp only [Option.some.injEq,Prod.mk.injEq] at H
     obtain ⟨rfl,rfl⟩:=H
     have hcz21_0 : wc.cell? ⟨gb249,0,none⟩ = some (.int .i64 a0_0):=(blk_cell BK249.out 0).trans rfl
     have hcz21_1 : wc.cell? ⟨gb249,1,none⟩ = some (.string a0_1):=(blk_cell BK249.out 1).trans rfl
     have hcz21_2 : wc.cell? ⟨gb249,2,none⟩ = some (.int .i64 a0_2):=(blk_cell BK249.out 2).trans rfl
     have hcz21_3 : wc.cell? ⟨gb249,3,none⟩ = some (.int .i64 a0_3):=(blk_cell BK249.out 3).trans rfl
     have hfz21_0:=blk_frozen BK249.out 0
     have hfz21_1:=blk_frozen BK249.out 1
     have hfz21_2:=blk_frozen BK249.out 2
     have hfz21_3:=blk_frozen BK249.out 3
     go_wp2_with (first|((with_reducible refine gate_callee (f:=44) rfl ?_);refine goesL_ (some 31) rfl rfl Tryd.func44 (by kernel_rfl) rfl #[.slice none 0 0,.int .i64 a0_0] rfl (by (try simp only [List.map_toArray,List.map_cons,List.map_nil]);first|done|rfl|(simp only [List.length_drop,List.length_take];rfl)) ?_;(refine (racewayref01_Num.calls kj1 _ _ ([] : List Int) a0_0 t253 t254 _ ?side1 ?side2 A15.out).mono ?_);(case side1 => exact Kd.C_nil _ _);(case side2 => exact Nat.le_refl _);rintro e w22 ⟨v255,rfl,ho0,hb⟩;refine ⟨_,rfl,?_⟩;have n0_:=Aside0.mk (Kd.R_lower ho0 (below_size (by repeat (first|(with_reducible first|exact HB.out|apply below_alloc|apply pw_below_drewN|apply below_drew1|refine below_set ?_ GE249.out)|exact HB.out))));have n1_:=Aside0.mk (blk_below (g:=gb249) (o:=.cells #[.int .i64 a0_0,.string a0_1,.int .i64 a0_2,.int .i64 a0_3] 39 (0,0)) (by (with_reducible repeat (first|refine blk_drewN ?_ _|refine blk_drew ?_|refine blk_alloc ?_ _));exact BK249.out) hb);have n2_:=Aside0.mk (below_step (by repeat (first|(with_reducible first|exact HB.out|apply below_alloc|apply pw_below_drewN|apply below_drew1|refine below_set ?_ GE249.out)|exact HB.out)) hb);clear BK249;clear HB;have HO256:=n0_;have BK249:=n1_;have HB:=n2_;clear n0_ n1_ n2_;(try clear hb);(try clear hb2);(try clear hk);(try clear hi);(try clear ho0);have hcz23_0 : w22.cell? ⟨gb249,0,none⟩ = some (.int .i64 a0_0):=(blk_cell BK249.out 0).trans rfl;have hcz23_1 : w22.cell? ⟨gb249,1,none⟩ = some (.string a0_1):=(blk_cell BK249.out 1).trans rfl;have hcz23_2 : w22.cell? ⟨gb249,2,none⟩ = some (.int .i64 a0_2):=(blk_cell BK249.out 2).trans rfl;have hcz23_3 : w22.cell? ⟨gb249,3,none⟩ = some (.int .i64 a0_3):=(blk_cell BK249.out 3).trans rfl;have hfz23_0:=blk_frozen BK249.out 0;have hfz23_1:=blk_frozen BK249.out 1;have hfz23_2:=blk_frozen BK249.out 2;have hfz23_3:=blk_frozen BK249.out 3;obtain ⟨Ao24,co24,eo24⟩:=Kd.R_slice HO256.out;subst eo24)|((with_reducible refine gate_callee (f:=45) rfl ?_);refine goesL_ (some 38) rfl rfl Tryd.func45 (by kernel_rfl) rfl #[.slice Ao24 t253.length co24,.string a0_1] rfl (by (try simp only [List.map_toArray,List.map_cons,List.map_nil]);first|done|rfl|(simp only [List.length_drop,List.length_take];rfl)) ?_;(with_reducible refine (racewayref01_Text.calls kj1 _ _ t253 a0_1 t257 t258 _ ?side1 ?side2 A16.out).mono ?_);(case side1 => repeat (first|exact (Kd.R_reads' HO256.out).2.2|(with_reducible refine Kd.C_alloc ?_ _)|(with_reducible refine Kd.C_drewN ?_ _)|(with_reducible refine Kd.C_drew ?_)));(case side2 => exact (Kd.R_reads' HO256.out).2.1);rintro e w25 ⟨v259,rfl,ho0,hb⟩;refine ⟨_,rfl,?_⟩;have n0_:=Aside0.mk (Kd.R_elder' (by (with_reducible repeat (first|apply Kd.R_alloc|apply Kd.R_drewN|apply Kd.R_drew));exact HO256.out) (Kd.R_base ho0) hb);have n1_:=Aside0.mk (Kd.R_lower (Kd.R_new' ho0 (Kd.R_lt (by (with_reducible repeat (first|apply Kd.R_alloc|apply Kd.R_drewN|apply Kd.R_drew));exact HO256.out))) (below_size (by repeat (first|(with_reducible first|exact HB.out|apply below_alloc|apply pw_below_drewN|apply below_drew1|refine below_set ?_ GE249.out)|exact HB.out))));have n2_:=Aside0.mk (blk_below (g:=gb249) (o:=.cells #[.int .i64 a0_0,.string a0_1,.int .i64 a0_2,.int .i64 a0_3] 39 (0,0)) (by (with_reducible repeat (first|refine blk_drewN ?_ _|refine blk_drew ?_|refine blk_alloc ?_ _));exact BK249.out) hb);have n3_:=Aside0.mk (below_step (by repeat (first|(with_reducible first|exact HB.out|apply below_alloc|apply pw_below_drewN|apply below_drew1|refine below_set ?_ GE249.out)|exact HB.out)) hb);clear HO256;clear BK249;clear HB;have HO256:=n0_;have HO260:=n1_;have BK249:=n2_;have HB:=n3_;clear n0_ n1_ n2_ n3_;(try clear hb);(try clear hb2);(try clear hk);(try clear hi);(try clear ho0);have hcz26_0 : w25.cell? ⟨gb249,0,none⟩ = some (.int .i64 a0_0):=(blk_cell BK249.out 0).trans rfl;have hcz26_1 : w25.cell? ⟨gb249,1,none⟩ = some (.string a0_1):=(blk_cell BK249.out 1).trans rfl;have hcz26_2 : w25.cell? ⟨gb249,2,none⟩ = some (.int .i64 a0_2):=(blk_cell BK249.out 2).trans rfl;have hcz26_3 : w25.cell? ⟨gb249,3,none⟩ = some (.int .i64 a0_3):=(blk_cell BK249.out 3).trans rfl;have hfz26_0:=blk_frozen BK249.out 0;have hfz26_1:=blk_frozen BK249.out 1;have hfz26_2:=blk_frozen BK249.out 2;have hfz26_3:=blk_frozen BK249.out 3;obtain ⟨Ao27,co27,eo27⟩:=Kd.R_slice HO260.out;subst eo27)|((with_reducible refine gate_callee (f:=44) rfl ?_);refine goesL_ (some 45) rfl rfl Tryd.func44 (by kernel_rfl) rfl #[.slice Ao27 t257.length co27,.int .i64 a0_2] rfl (by (try simp only [List.map_toArray,List.map_cons,List.map_nil]);first|done|rfl|(simp only [List.length_drop,List.length_take];rfl)) ?_;(with_reducible refine (racewayref01_Num.calls kj1 _ _ t257 a0_2 t261 t262 _ ?side1 ?side2 A17.out).mono ?_);(case side1 => repeat (first|exact (Kd.R_reads' HO260.out).2.2|(with_reducible refine Kd.C_alloc ?_ _)|(with_reducible refine Kd.C_drewN ?_ _)|(with_reducible refine Kd.C_drew ?_)));(case side2 => exact (Kd.R_reads' HO260.out).2.1);rintro e w28 ⟨v263,rfl,ho0,hb⟩;refine ⟨_,rfl,?_⟩;have n0_:=Aside0.mk (Kd.R_elder' (by (with_reducible repeat (first|apply Kd.R_alloc|apply Kd.R_drewN|apply Kd.R_drew));exact HO256.out) (Kd.R_base ho0) hb);have n1_:=Aside0.mk (Kd.R_elder' (by (with_reducible repeat (first|apply Kd.R_alloc|apply Kd.R_drewN|apply Kd.R_drew));exact HO260.out) (Kd.R_base ho0) hb);have n2_:=Aside0.mk (Kd.R_lower (Kd.R_new' (Kd.R_new' ho0 (Kd.R_lt (by (with_reducible repeat (first|apply Kd.R_alloc|apply Kd.R_drewN|apply Kd.R_drew));exact HO256.out))) (Kd.R_lt (by (with_reducible repeat (first|apply Kd.R_alloc|apply Kd.R_drewN|apply Kd.R_drew));exact HO260.out))) (below_size (by repeat (first|(with_reducible first|exact HB.out|apply below_alloc|apply pw_below_drewN|apply below_drew1|refine below_set ?_ GE249.out)|exact HB.out))));have n3_:=Aside0.mk (blk_below (g:=gb249) (o:=.cells #[.int .i64 a0_0,.string a0_1,.int .i64 a0_2,.int .i64 a0_3] 39 (0,0)) (by (with_reducible repeat (first|refine blk_drewN ?_ _|refine blk_drew ?_|refine blk_alloc ?_ _));exact BK249.out) hb);have n4_:=Aside0.mk (below_step (by repeat (first|(with_reducible first|exact HB.out|apply below_alloc|apply pw_below_drewN|apply below_drew1|refine below_set ?_ GE249.out)|exact HB.out)) hb);clear HO256;clear HO260;clear BK249;clear HB;have HO256:=n0_;have HO260:=n1_;have HO264:=n2_;have BK249:=n3_;have HB:=n4_;clear n0_ n1_ n2_ n3_ n4_;(try clear hb);(try clear hb2);(try clear hk);(try clear hi);(try clear ho0);have hcz29_0 : w28.cell? ⟨gb249,0,none⟩ = some (.int .i64 a0_0):=(blk_cell BK249.out 0).trans rfl;have hcz29_1 : w28.cell? ⟨gb249,1,none⟩ = some (.string a0_1):=(blk_cell BK249.out 1).trans rfl;have hcz29_2 : w28.cell? ⟨gb249,2,none⟩ = some (.int .i64 a0_2):=(blk_cell BK249.out 2).trans rfl;have hcz29_3 : w28.cell? ⟨gb249,3,none⟩ = some (.int .i64 a0_3):=(blk_cell BK249.out 3).trans rfl;have hfz29_0:=blk_frozen BK249.out 0;have hfz29_1:=blk_frozen BK249.out 1;have hfz29_2:=blk_frozen BK249.out 2;have hfz29_3:=blk_frozen BK249.out 3;obtain ⟨Ao30,co30,eo30⟩:=Kd.R_slice HO264.out;subst eo30)|((with_reducible refine gate_callee (f:=44) rfl ?_);refine goesL_ (some 52) rfl rfl Tryd.func44 (by kernel_rfl) rfl #[.slice Ao30 t261.length co30,.int .i64 a0_3] rfl (by (try simp only [List.map_toArray,List.map_cons,List.map_nil]);first|done|rfl|(simp only [List.length_drop,List.length_take];rfl)) ?_;(with_reducible refine (racewayref01_Num.calls kj1 _ _ t261 a0_3 t265 t266 _ ?side1 ?side2 A18.out).mono ?_);(case side1 => repeat (first|exact (Kd.R_reads' HO264.out).2.2|(with_reducible refine Kd.C_alloc ?_ _)|(with_reducible refine Kd.C_drewN ?_ _)|(with_reducible refine Kd.C_drew ?_)));(case side2 => exact (Kd.R_reads' HO264.out).2.1);rintro e w31 ⟨v267,rfl,ho0,hb⟩;refine ⟨_,rfl,?_⟩;have n0_:=Aside0.mk (Kd.R_elder' (by (with_reducible repeat (first|apply Kd.R_alloc|apply Kd.R_drewN|apply Kd.R_drew));exact HO256.out) (Kd.R_base ho0) hb);have n1_:=Aside0.mk (Kd.R_elder' (by (with_reducible repeat (first|apply Kd.R_alloc|apply Kd.R_drewN|apply Kd.R_drew));exact HO260.out) (Kd.R_base ho0) hb);have n2_:=Aside0.mk (Kd.R_elder' (by (with_reducible repeat (first|apply Kd.R_alloc|apply Kd.R_drewN|apply Kd.R_drew));exact HO264.out) (Kd.R_base ho0) hb);have n3_:=Aside0.mk (Kd.R_lower (Kd.R_new' (Kd.R_new' (Kd.R_new' ho0 (Kd.R_lt (by (with_reducible repeat (first|apply Kd.R_alloc|apply Kd.R_drewN|apply Kd.R_drew));exact HO256.out))) (Kd.R_lt (by (with_reducible repeat (first|apply Kd.R_alloc|apply Kd.R_drewN|apply Kd.R_drew));exact HO260.out))) (Kd.R_lt (by (with_reducible repeat (first|apply Kd.R_alloc|apply Kd.R_drewN|apply Kd.R_drew));exact HO264.out))) (below_size (by repeat (first|(with_reducible first|exact HB.out|apply below_alloc|apply pw_below_drewN|apply below_drew1|refine below_set ?_ GE249.out)|exact HB.out))));have n4_:=Aside0.mk (blk_below (g:=gb249) (o:=.cells #[.int .i64 a0_0,.string a0_1,.int .i64 a0_2,.int .i64 a0_3] 39 (0,0)) (by (with_reducible repeat (first|refine blk_drewN ?_ _|refine blk_drew ?_|refine blk_alloc ?_ _));exact BK249.out) hb);have n5_:=Aside0.mk (below_step (by repeat (first|(with_reducible first|exact HB.out|apply below_alloc|apply pw_below_drewN|apply below_drew1|refine below_set ?_ GE249.out)|exact HB.out)) hb);clear HO256;clear HO260;clear HO264;clear BK249;clear HB;have HO256:=n0_;have HO260:=n1_;have HO264:=n2_;have HO268:=n3_;have BK249:=n4_;have HB:=n5_;clear n0_ n1_ n2_ n3_ n4_ n5_;(try clear hb);(try clear hb2);(try clear hk);(try clear hi);(try clear ho0);obtain ⟨Ao32,co32,eo32⟩:=Kd.R_slice HO268.out;subst eo32)|((with_reducible refine gate_callee (f:=46) rfl ?_);refine goesL_ (some 57) rfl rfl Tryd.func46 (by kernel_rfl) rfl #[.slice Ao32 t265.length co32] rfl (by (try simp only [List.map_toArray,List.map_cons,List.map_nil]);first|done|rfl|(simp only [List.length_drop,List.length_take];rfl)) ?_;(with_reducible refine (racewayref02_Frame.calls kj1 _ _ t265 t269 t270 _ ?side1 ?side2 A19.out).mono ?_);(case side1 => repeat (first|exact (Kd.R_reads' HO268.out).2.2|(with_reducible refine Kd.C_alloc ?_ _)|(with_reducible refine Kd.C_drewN ?_ _)|(with_reducible refine Kd.C_drew ?_)));(case side2 => exact (Kd.R_reads' HO268.out).2.1);rintro e w33 ⟨v271,rfl,ho0,hb⟩;refine ⟨_,rfl,?_⟩;have n0_:=Aside0.mk (Kd.R_elder' (by (with_reducible repeat (first|apply Kd.R_alloc|apply Kd.R_drewN|apply Kd.R_drew));exact HO256.out) (Kd.R_base ho0) hb);have n1_:=Aside0.mk (Kd.R_elder' (by (with_reducible repeat (first|apply Kd.R_alloc|apply Kd.R_drewN|apply Kd.R_drew));exact HO260.out) (Kd.R_base ho0) hb);have n2_:=Aside0.mk (Kd.R_elder' (by (with_reducible repeat (first|apply Kd.R_alloc|apply Kd.R_drewN|apply Kd.R_drew));exact HO264.out) (Kd.R_base ho0) hb);have n3_:=Aside0.mk (Kd.R_elder' (by (with_reducible repeat (first|apply Kd.R_alloc|apply Kd.R_drewN|apply Kd.R_drew));exact HO268.out) (Kd.R_base ho0) hb);have n4_:=Aside0.mk (Kd.R_lower (Kd.R_new' (Kd.R_new' (Kd.R_new' (Kd.R_new' ho0 (Kd.R_lt (by (with_reducible repeat (first|apply Kd.R_alloc|apply Kd.R_drewN|apply Kd.R_drew));exact HO256.out))) (Kd.R_lt (by (with_reducible repeat (first|apply Kd.R_alloc|apply Kd.R_drewN|apply Kd.R_drew));exact HO260.out))) (Kd.R_lt (by (with_reducible repeat (first|apply Kd.R_alloc|apply Kd.R_drewN|apply Kd.R_drew));exact HO264.out))) (Kd.R_lt (by (with_reducible repeat (first|apply Kd.R_alloc|apply Kd.R_drewN|apply Kd.R_drew));exact HO268.out))) (below_size (by repeat (first|(with_reducible first|exact HB.out|apply below_alloc|apply pw_below_drewN|apply below_drew1|refine below_set ?_ GE249.out)|exact HB.out))));have n5_:=Aside0.mk (blk_below (g:=gb249) (o:=.cells #[.int .i64 a0_0,.string a0_1,.int .i64 a0_2,.int .i64 a0_3] 39 (0,0)) (by (with_reducible repeat (first|refine blk_drewN ?_ _|refine blk_drew ?_|refine blk_alloc ?_ _));exact BK249.out) hb);have n6_:=Aside0.mk (below_step (by repeat (first|(with_reducible first|exact HB.out|apply below_alloc|apply pw_below_drewN|apply below_drew1|refine below_set ?_ GE249.out)|exact HB.out)) hb);clear HO256;clear HO260;clear HO264;clear HO268;clear BK249;clear HB;have HO256:=n0_;have HO260:=n1_;have HO264:=n2_;have HO268:=n3_;have HO272:=n4_;have BK249:=n5_;have HB:=n6_;clear n0_ n1_ n2_ n3_ n4_ n5_ n6_;(try clear hb);(try clear hb2);(try clear hk);(try clear hi);(try clear ho0);obtain ⟨Ao34,co34,eo34⟩:=Kd.R_slice HO272.out;subst eo34)|((with_reducible refine gate_callee (f:=47) rfl ?_);refine goesL_ (some 61) rfl rfl Tryd.func47 (by kernel_rfl) rfl #[.slice Ao34 t269.length co34] rfl (by (try simp only [List.map_toArray,List.map_cons,List.map_nil]);first|done|rfl|(simp only [List.length_drop,List.length_take];rfl)) ?_;(with_reducible refine (racewayref22_Encode.calls kj1 _ _ t269 t273 _ ?side1 ?side2 A20.out).mono ?_);(case side1 => repeat (first|exact (Kd.R_reads' HO272.out).2.2|(with_reducible refine Kd.C_alloc ?_ _)|(with_reducible refine Kd.C_drewN ?_ _)|(with_reducible refine Kd.C_drew ?_)));(case side2 => exact (Kd.R_reads' HO272.out).2.1);rintro e w35 ⟨rfl,hb⟩;refine ⟨_,rfl,?_⟩;have n0_:=Aside0.mk (Kd.R_below (by (with_reducible repeat (first|apply Kd.R_alloc|apply Kd.R_drewN|apply Kd.R_drew));exact HO256.out) hb);have n1_:=Aside0.mk (Kd.R_below (by (with_reducible repeat (first|apply Kd.R_alloc|apply Kd.R_drewN|apply Kd.R_drew));exact HO260.out) hb);have n2_:=Aside0.mk (Kd.R_below (by (with_reducible repeat (first|apply Kd.R_alloc|apply Kd.R_drewN|apply Kd.R_drew));exact HO264.out) hb);have n3_:=Aside0.mk (Kd.R_below (by (with_reducible repeat (first|apply Kd.R_alloc|apply Kd.R_drewN|apply Kd.R_drew));exact HO268.out) hb);have n4_:=Aside0.mk (Kd.R_below (by (with_reducible repeat (first|apply Kd.R_alloc|apply Kd.R_drewN|apply Kd.R_drew));exact HO272.out) hb);have n5_:=Aside0.mk (blk_below (g:=gb249) (o:=.cells #[.int .i64 a0_0,.string a0_1,.int .i64 a0_2,.int .i64 a0_3] 39 (0,0)) (by (with_reducible repeat (first|refine blk_drewN ?_ _|refine blk_drew ?_|refine blk_alloc ?_ _));exact BK249.out) hb);have n6_:=Aside0.mk (below_step (by repeat (first|(with_reducible first|exact HB.out|apply below_alloc|apply pw_below_drewN|apply below_drew1|refine below_set ?_ GE249.out)|exact HB.out)) hb);clear HO256;clear HO260;clear HO264;clear HO268;clear HO272;clear BK249;clear HB;have HO256:=n0_;have HO260:=n1_;have HO264:=n2_;have HO268:=n3_;have HO272:=n4_;have BK249:=n5_;have HB:=n6_;clear n0_ n1_ n2_ n3_ n4_ n5_ n6_;(try clear hb);(try clear hb2);(try clear hk);(try clear hi)))
     go_ret2
     exact ⟨by first|rfl|(simp [errW_none,errW_some] <;> rfl)|(simp [*,errW_none,errW_some] <;> rfl),by repeat (first|(with_reducible first|exact HB.out|apply below_alloc|apply pw_below_drewN|apply below_drew1|refine below_set ?_ GE249.out)|exact HB.out)⟩
end Go.Proofs.YtedfgkjimnjdpaaDoor.X
namespace Go.Proofs.YtedfgkjimnjdpaaDoor.X
open Go.RowKit Go.Proofs.YtedfgkjimnjdpaaDoorW.PrintWords Go.Proofs.YtedfgkjimnjdpaaDoorW.PrintLast Go.Proofs.YtedfgkjimnjdpaaDoorW.PrintMore
attribute [local go_sem] max2_int min2_int max_two min_two max_three min_three max_four min_four
set_option linter.unusedVariables false
set_option linter.unusedSimpArgs false
def stringslite_TrimSuffix.f (a0 : ByteArray) (a1 : ByteArray) : Option (ByteArray):=(stringslite_HasSuffix.f a0 a1).bind fun t309 => (if t309 = true then (if 0 ≤ (wrap64 ((a0.size : Int) - (a1.size : Int))) then (if (wrap64 ((a0.size : Int) - (a1.size : Int))) ≤ (a0.size : Int) then (some (a0.extract 0 ((wrap64 ((a0.size : Int) - (a1.size : Int))) : Int).toNat)) else (none)) else (none)) else (some a0))
set_option maxHeartbeats 8000000 in
set_option maxRecDepth 100000 in
theorem stringslite_TrimSuffix.calls (a0 : ByteArray) (a1 : ByteArray) (r : ByteArray) (w : World) (h : stringslite_TrimSuffix.f a0 a1 = some r) :
  Calls Tryd.prog 117 #[.string a0,.string a1] w fun e w' => e = .returned (.string r) ∧ Drawn0 w w':=by
 have H : ((stringslite_HasSuffix.f a0 a1).bind fun t309 => (if t309 = true then (if 0 ≤ (wrap64 ((a0.size : Int) - (a1.size : Int))) then (if (wrap64 ((a0.size : Int) - (a1.size : Int))) ≤ (a0.size : Int) then (some (a0.extract 0 ((wrap64 ((a0.size : Int) - (a1.size : Int))) : Int).toNat)) else (none)) else (none)) else (some a0))) = some r:=h
 clear h
 replace H:=Option.bind_eq_some_iff.mp H
 obtain ⟨t309,A30,H⟩:=H
 replace H : (if t309 = true then (if 0 ≤ (wrap64 ((a0.size : Int) - (a1.size : Int))) then (if (wrap64 ((a0.size : Int) - (a1.size : Int))) ≤ (a0.size : Int) then (some (a0.extract 0 ((wrap64 ((a0.size : Int) - (a1.size : Int))) : Int).toNat)) else (none)) else (none)) else (some a0)) = some r:=H
 have A3:=Aside0.mk A30
 clear A30
 by_cases c4 : t309 = true
 ·subst c4
  have H1 : (if 0 ≤ (wrap64 ((a0.size : Int) - (a1.size : Int))) then (if (wrap64 ((a0.size : Int) - (a1.size : Int))) ≤ (a0.size : Int) then (some (a0.extract 0 ((wrap64 ((a0.size : Int) - (a1.size : Int))) : Int).toNat)) else (none)) else (none)) = some r:=by rw [if_pos rfl] at H;exact H
  clear H
  have H:=H1
  clear H1
  obtain ⟨ji5,hji5⟩ : ∃ j_ : Int,(wrap64 ((a0.size : Int) - (a1.size : Int))) = j_:=⟨_,rfl⟩
  replace H : (if 0 ≤ (ji5) then (if (ji5) ≤ (a0.size : Int) then (some (a0.extract 0 ((ji5) : Int).toNat)) else (none)) else (none)) = some r:=by first|(rw [hji5] at H;exact H)|(simp only [hji5] at H ⊢;exact H)
  (try rw [hji5] at A3)
  have hji5w : (IntKind.i64.wrap ((a0.size : Int) - (a1.size : Int))) = ji5:=(i64_w _).trans hji5
  by_cases c6 : 0 ≤ (ji5)
  ·rw [if_pos c6] at H
   have c6b0:=eq_true c6
   have c6b1 : decide (0 ≤ (ji5)) = true:=decide_eq_true c6
   clear c6
   by_cases c7 : (ji5) ≤ (a0.size : Int)
   ·rw [if_pos c7] at H
    have c7b0:=eq_true c7
    have c7b1 : decide ((ji5) ≤ (a0.size : Int)) = true:=decide_eq_true c7
    clear c7
    obtain rfl:=Option.some.inj H
    go_enter Tryd.func117,Tryd.ntmps117
    go_wp2_with (first|((with_reducible refine gate_callee (f:=112) rfl ?_);refine goesL_ (some 7) rfl rfl Tryd.func112 (by kernel_rfl) rfl #[.string a0,.string a1] rfl (by (try simp only [List.map_toArray,List.map_cons,List.map_nil]);first|done|rfl|(simp only [List.length_drop,List.length_take];rfl)) ?_;(with_reducible refine (stringslite_HasSuffix.calls a0 a1 true _ A3.out).mono ?_);rintro e w' ⟨rfl,⟨nd,rfl⟩⟩;refine ⟨_,rfl,?_⟩))
    go_ret
    exact ⟨by first|rfl|(simp;done)|(simp only [← hji5] <;> (first|rfl|simp))|(simp [*];done),by repeat (first|exact Drawn0.refl _|apply Drawn0.step)⟩
   ·rw [if_neg c7] at H
    exact absurd H (by simp)
  ·rw [if_neg c6] at H
   exact absurd H (by simp)
 ·replace c4:=Bool.eq_false_iff.mpr c4
  subst c4
  have H1 : (some a0) = some r:=by rw [if_neg (show ¬ (false = true) by decide)] at H;exact H
  clear H
  have H:=H1
  clear H1
  obtain rfl:=Option.some.inj H
  go_enter Tryd.func117,Tryd.ntmps117
  go_wp2_with (first|((with_reducible refine gate_callee (f:=112) rfl ?_);refine goesL_ (some 7) rfl rfl Tryd.func112 (by kernel_rfl) rfl #[.string a0,.string a1] rfl (by (try simp only [List.map_toArray,List.map_cons,List.map_nil]);first|done|rfl|(simp only [List.length_drop,List.length_take];rfl)) ?_;(with_reducible refine (stringslite_HasSuffix.calls a0 a1 false _ A3.out).mono ?_);rintro e w' ⟨rfl,⟨nd,rfl⟩⟩;refine ⟨_,rfl,?_⟩))
  go_ret
  exact ⟨by first|rfl|(simp;done)|(simp;decide +kernel)|(simp [*];done),by repeat (first|exact Drawn0.refl _|apply Drawn0.step)⟩
end Go.Proofs.YtedfgkjimnjdpaaDoor.X
namespace Go.Proofs.YtedfgkjimnjdpaaDoor.X
open Go.RowKit Go.Proofs.YtedfgkjimnjdpaaDoorW.PrintWords Go.Proofs.YtedfgkjimnjdpaaDoorW.PrintLast Go.Proofs.YtedfgkjimnjdpaaDoorW.PrintMore
attribute [local go_sem] max2_int min2_int max_two min_two max_three min_three max_four min_four
set_option linter.unusedVariables false
set_option linter.unusedSimpArgs false
def strings_TrimSuffix.f (a0 : ByteArray) (a1 : ByteArray) : Option (ByteArray):=(stringslite_TrimSuffix.f a0 a1).bind fun t310 => (some t310)
set_option maxHeartbeats 8000000 in
set_option maxRecDepth 100000 in
theorem strings_TrimSuffix.calls (a0 : ByteArray) (a1 : ByteArray) (r : ByteArray) (w : World) (h : strings_TrimSuffix.f a0 a1 = some r) :
  Calls Tryd.prog 89 #[.string a0,.string a1] w fun e w' => e = .returned (.string r) ∧ Drawn0 w w':=by
 have H : ((stringslite_TrimSuffix.f a0 a1).bind fun t310 => (some t310)) = some r:=h
 clear h
 replace H:=Option.bind_eq_some_iff.mp H
 obtain ⟨t310,A30,H⟩:=H
 replace H : (some t310) = some r:=H
 have A3:=Aside0.mk A30
 clear A30
 obtain rfl:=Option.some.inj H
 go_enter Tryd.func89,Tryd.ntmps89
 go_wp2_with (first|((with_reducible refine gate_callee (f:=117) rfl ?_);refine goesL_ (some 7) rfl rfl Tryd.func117 (by kernel_rfl) rfl #[.string a0,.string a1] rfl (by (try simp only [List.map_toArray,List.map_cons,List.map_nil]);first|done|rfl|(simp only [List.length_drop,List.length_take];rfl)) ?_;(with_reducible refine (stringslite_TrimSuffix.calls a0 a1 t310 _ A3.out).mono ?_);rintro e w' ⟨rfl,⟨nd,rfl⟩⟩;refine ⟨_,rfl,?_⟩))
 go_ret
 exact ⟨by first|rfl|(simp;done)|(simp;decide +kernel)|(simp [*];done),by repeat (first|exact Drawn0.refl _|apply Drawn0.step)⟩
end Go.Proofs.YtedfgkjimnjdpaaDoor.X
namespace Go.Proofs.YtedfgkjimnjdpaaDoor.X
open Go.RowKit Go.Proofs.YtedfgkjimnjdpaaDoorW.PrintWords Go.Proofs.YtedfgkjimnjdpaaDoorW.PrintLast Go.Proofs.YtedfgkjimnjdpaaDoorW.PrintMore
attribute [local go_sem] max2_int min2_int max_two min_two max_three min_three max_four min_four
set_option linter.unusedVariables false
set_option linter.unusedSimpArgs false
def strings_HasSuffix.f (a0 : ByteArray) (a1 : ByteArray) : Option (Bool):=(stringslite_HasSuffix.f a0 a1).bind fun t311 => (some t311)
set_option maxHeartbeats 8000000 in
set_option maxRecDepth 100000 in
theorem strings_HasSuffix.calls (a0 : ByteArray) (a1 : ByteArray) (r : Bool) (w : World) (h : strings_HasSuffix.f a0 a1 = some r) :
  Calls Tryd.prog 90 #[.string a0,.string a1] w fun e w' => e = .returned (.bool r) ∧ Drawn0 w w':=by
 have H : ((stringslite_HasSuffix.f a0 a1).bind fun t311 => (some t311)) = some r:=h
 clear h
 replace H:=Option.bind_eq_some_iff.mp H
 obtain ⟨t311,A30,H⟩:=H
 replace H : (some t311) = some r:=H
 have A3:=Aside0.mk A30
 clear A30
 obtain rfl:=Option.some.inj H
 go_enter Tryd.func90,Tryd.ntmps90
 go_wp2_with (first|((with_reducible refine gate_callee (f:=112) rfl ?_);refine goesL_ (some 7) rfl rfl Tryd.func112 (by kernel_rfl) rfl #[.string a0,.string a1] rfl (by (try simp only [List.map_toArray,List.map_cons,List.map_nil]);first|done|rfl|(simp only [List.length_drop,List.length_take];rfl)) ?_;(with_reducible refine (stringslite_HasSuffix.calls a0 a1 t311 _ A3.out).mono ?_);rintro e w' ⟨rfl,⟨nd,rfl⟩⟩;refine ⟨_,rfl,?_⟩))
 go_ret
 exact ⟨by first|rfl|(simp;done)|(simp;decide +kernel)|(simp [*];done),by repeat (first|exact Drawn0.refl _|apply Drawn0.step)⟩
end Go.Proofs.YtedfgkjimnjdpaaDoor.X
namespace Go.Proofs.YtedfgkjimnjdpaaDoor.X
open Go.RowKit Go.Proofs.YtedfgkjimnjdpaaDoorW.PrintWords Go.Proofs.YtedfgkjimnjdpaaDoorW.PrintLast Go.Proofs.YtedfgkjimnjdpaaDoorW.PrintMore
attribute [local go_sem] max2_int min2_int max_two min_two max_three min_three max_four min_four
set_option linter.unusedVariables false
set_option linter.unusedSimpArgs false
mutual
def basic_six.j0 : Nat → Int → Bool → Option (Int)
 | 0,_,_ => none
 | k + 1,x0,x3 => if x3 = true then (some ((x0 - 65) % 256)) else (if x0 ≥ 97 then (basic_six.j1 k x0 (decide (x0 ≤ 122))) else (basic_six.j1 k x0 false))
def basic_six.j1 : Nat → Int → Bool → Option (Int)
 | 0,_,_ => none
 | k + 1,x0,x13 => if x13 = true then (some (((x0 - 97) % 256) + 26)) else (if x0 ≥ 48 then (basic_six.j2 k x0 (decide (x0 ≤ 57))) else (basic_six.j2 k x0 false))
def basic_six.j2 : Nat → Int → Bool → Option (Int)
 | 0,_,_ => none
 | k + 1,x0,x24 => if x24 = true then (some (((x0 - 48) % 256) + 52)) else (if x0 = 43 then (some 62) else (if x0 = 47 then (some 63) else (some (-1))))
end
def basic_six.f (k : Nat) (a0 : Int) : Option (Int):=if a0 ≥ 65 then (basic_six.j0 k a0 (decide (a0 ≤ 90))) else (basic_six.j0 k a0 false)
set_option maxHeartbeats 8000000 in
set_option maxRecDepth 100000 in
theorem basic_six.calls (k : Nat) (a0 : Int) (r : Int) (w : World) (h : basic_six.f k a0 = some r) :
  Calls Tryd.prog 91 #[.int .u8 a0] w fun e w' => e = .returned (.int .i64 r) ∧ Drawn0 w w':=by
 have H : (if a0 ≥ 65 then (basic_six.j0 k a0 (decide (a0 ≤ 90))) else (basic_six.j0 k a0 false)) = some r:=h
 clear h
 have HC2:=Aside0.mk H
 clear H
 go_enter Tryd.func91,Tryd.ntmps91
 go_upto_region 1 with (fail)
 go_cut [3] (fun v3 wc => ∃ (kq : Nat) (x3_1 : Bool),v3 = .bool x3_1 ∧ Aside0 (basic_six.j0 kq a0 x3_1 = some r) ∧ Aside0 (kq ≤ k) ∧ Drawn0 w wc)
 case first =>
  have H:=HC2.out
  clear HC2
  by_cases c3 : a0 ≥ 65
  ·rw [if_pos c3] at H
   have c3b0 : decide (65 ≤ a0) = true:=decide_eq_true c3
   clear c3
   (first|rw [c3b0]|(simp only [i64_w,i32_w];rw [c3b0])|skip)
   have H':=Aside0.mk H
   clear H
   go_wp2
   go_meet
   case rel => exact ⟨_,(decide (a0 ≤ 90)),(by first|rfl|(simp;done)|(simp;decide +kernel)|(simp [*];done)),(by first|exact H'|(subst_vars;exact H')),⟨by first|omega|exact Nat.le_refl _⟩,by repeat (first|exact Drawn0.refl _|apply Drawn0.step)⟩
  ·rw [if_neg c3] at H
   have c3b0 : decide (65 ≤ a0) = false:=decide_eq_false c3
   clear c3
   (first|rw [c3b0]|(simp only [i64_w,i32_w];rw [c3b0])|skip)
   have H':=Aside0.mk H
   clear H
   go_wp2
   go_meet
   case rel => exact ⟨_,(false),(by first|rfl|(simp;done)|(simp;decide +kernel)|(simp [*];done)),(by first|exact H'|(subst_vars;exact H')),⟨by first|omega|exact Nat.le_refl _⟩,by repeat (first|exact Drawn0.refl _|apply Drawn0.step)⟩
 case rest =>
  clear HC2
  try clear p2
  try clear c3
  try clear c3b0
  obtain ⟨kq,x3_1,rfl,HA,HJ1,⟨mc1,rfl⟩⟩:=hcut
  cases kq with
  | zero => exact absurd HA.out (by simp [basic_six.j0])
  | succ kj1 =>
   have H:=HA.out
   clear HA
   simp only [basic_six.j0] at H
   by_cases c4 : x3_1 = true
   ·subst c4
    have H1 : (some ((a0 - 65) % 256)) = some r:=by rw [if_pos rfl] at H;exact H
    clear H
    have H:=H1
    clear H1
    obtain rfl:=Option.some.inj H
    go_wp2
    go_ret
    exact ⟨by first|rfl|(simp;done)|(simp;decide +kernel)|(simp [*];done),by repeat (first|exact Drawn0.refl _|apply Drawn0.step)⟩
   ·replace c4:=Bool.eq_false_iff.mpr c4
    subst c4
    have H1 : (if a0 ≥ 97 then (basic_six.j1 kj1 a0 (decide (a0 ≤ 122))) else (basic_six.j1 kj1 a0 false)) = some r:=by rw [if_neg (show ¬ (false = true) by decide)] at H;exact H
    clear H
    have H:=H1
    clear H1
    have HC5:=Aside0.mk H
    clear H
    go_upto_region 3 with (fail)
    go_cut [13] (fun v13 wc => ∃ (kq : Nat) (x13_4 : Bool),v13 = .bool x13_4 ∧ Aside0 (basic_six.j1 kq a0 x13_4 = some r) ∧ Aside0 (kq ≤ kj1) ∧ Drawn0 w wc)
    case first =>
     have H:=HC5.out
     clear HC5
     by_cases c6 : a0 ≥ 97
     ·rw [if_pos c6] at H
      have c6b0 : decide (97 ≤ a0) = true:=decide_eq_true c6
      clear c6
      (first|rw [c6b0]|(simp only [i64_w,i32_w];rw [c6b0])|skip)
      have H':=Aside0.mk H
      clear H
      go_wp2
      go_meet
      case rel => exact ⟨_,(decide (a0 ≤ 122)),(by first|rfl|(simp;done)|(simp;decide +kernel)|(simp [*];done)),(by first|exact H'|(subst_vars;exact H')),⟨by have:=HJ1.out;first|omega|exact Nat.le_refl _⟩,by repeat (first|exact Drawn0.refl _|apply Drawn0.step)⟩
     ·rw [if_neg c6] at H
      have c6b0 : decide (97 ≤ a0) = false:=decide_eq_false c6
      clear c6
      (first|rw [c6b0]|(simp only [i64_w,i32_w];rw [c6b0])|skip)
      have H':=Aside0.mk H
      clear H
      go_wp2
      go_meet
      case rel => exact ⟨_,(false),(by first|rfl|(simp;done)|(simp;decide +kernel)|(simp [*];done)),(by first|exact H'|(subst_vars;exact H')),⟨by have:=HJ1.out;first|omega|exact Nat.le_refl _⟩,by repeat (first|exact Drawn0.refl _|apply Drawn0.step)⟩
    case rest =>
     clear HC5
     try clear c1
     try clear p2
     try clear c3
     try clear c3b0
     try clear c4
     try clear c6
     try clear c6b0
     try clear p2
     obtain ⟨kq,x13_4,rfl,HA,HJ4,⟨mc4,rfl⟩⟩:=hcut
     cases kq with
     | zero => exact absurd HA.out (by simp [basic_six.j1])
     | succ kj4 =>
      have H:=HA.out
      clear HA
      simp only [basic_six.j1] at H
      by_cases c7 : x13_4 = true
      ·subst c7
       have H1 : (some (((a0 - 97) % 256) + 26)) = some r:=by rw [if_pos rfl] at H;exact H
       clear H
       have H:=H1
       clear H1
       obtain rfl:=Option.some.inj H
       go_wp2
       go_ret
       exact ⟨by first|rfl|(simp;done)|(simp;decide +kernel)|(simp [*];done),by repeat (first|exact Drawn0.refl _|apply Drawn0.step)⟩
      ·replace c7:=Bool.eq_false_iff.mpr c7
       subst c7
       have H1 : (if a0 ≥ 48 then (basic_six.j2 kj4 a0 (decide (a0 ≤ 57))) else (basic_six.j2 kj4 a0 false)) = some r:=by rw [if_neg (show ¬ (false = true) by decide)] at H;exact H
       clear H
       have H:=H1
       clear H1
       have HC8:=Aside0.mk H
       clear H
       go_upto_region 5 with (fail)
       go_cut [24] (fun v24 wc => ∃ (kq : Nat) (x24_7 : Bool),v24 = .bool x24_7 ∧ Aside0 (basic_six.j2 kq a0 x24_7 = some r) ∧ Aside0 (kq ≤ kj4) ∧ Drawn0 w wc)
       case first =>
        have H:=HC8.out
        clear HC8
        by_cases c9 : a0 ≥ 48
        ·rw [if_pos c9] at H
         have c9b0 : decide (48 ≤ a0) = true:=decide_eq_true c9
         clear c9
         (first|rw [c9b0]|(simp only [i64_w,i32_w];rw [c9b0])|skip)
         have H':=Aside0.mk H
         clear H
         go_wp2
         go_meet
         case rel => exact ⟨_,(decide (a0 ≤ 57)),(by first|rfl|(simp;done)|(simp;decide +kernel)|(simp [*];done)),(by first|exact H'|(subst_vars;exact H')),⟨by have:=HJ1.out;have:=HJ4.out;first|omega|exact Nat.le_refl _⟩,by repeat (first|exact Drawn0.refl _|apply Drawn0.step)⟩
        ·rw [if_neg c9] at H
         have c9b0 : decide (48 ≤ a0) = false:=decide_eq_false c9
         clear c9
         (first|rw [c9b0]|(simp only [i64_w,i32_w];rw [c9b0])|skip)
         have H':=Aside0.mk H
         clear H
         go_wp2
         go_meet
         case rel => exact ⟨_,(false),(by first|rfl|(simp;done)|(simp;decide +kernel)|(simp [*];done)),(by first|exact H'|(subst_vars;exact H')),⟨by have:=HJ1.out;have:=HJ4.out;first|omega|exact Nat.le_refl _⟩,by repeat (first|exact Drawn0.refl _|apply Drawn0.step)⟩
       case rest =>
        clear HC8
        try clear c1
        try clear p2
        try clear c3
        try clear c3b0
        try clear c4
        try clear c6
        try clear c6b0
        try clear c7
        try clear c9
        try clear c9b0
        try clear p2
        obtain ⟨kq,x24_7,rfl,HA,HJ7,⟨mc7,rfl⟩⟩:=hcut
        cases kq with
        | zero => exact absurd HA.out (by simp [basic_six.j2])
        | succ kj7 =>
         have H:=HA.out
         clear HA
         simp only [basic_six.j2] at H
         by_cases c10 : x24_7 = true
         ·subst c10
          have H1 : (some (((a0 - 48) % 256) + 52)) = some r:=by rw [if_pos rfl] at H;exact H
          clear H
          have H:=H1
          clear H1
          obtain rfl:=Option.some.inj H
          go_wp2
          go_ret
          exact ⟨by first|rfl|(simp;done)|(simp;decide +kernel)|(simp [*];done),by repeat (first|exact Drawn0.refl _|apply Drawn0.step)⟩
         ·replace c10:=Bool.eq_false_iff.mpr c10
          subst c10
          have H1 : (if a0 = 43 then (some 62) else (if a0 = 47 then (some 63) else (some (-1)))) = some r:=by rw [if_neg (show ¬ (false = true) by decide)] at H;exact H
          clear H
          have H:=H1
          clear H1
          by_cases c11 : a0 = 43
          ·rw [if_pos c11] at H
           have c11b0 : (a0 == 43) = true:=beq_iff_eq.mpr c11
           have c11b1 : (a0 != 43) = false:=bne_eq_false_iff_eq.mpr c11
           clear c11
           obtain rfl:=Option.some.inj H
           go_wp2
           go_ret
           exact ⟨by first|rfl|(simp;done)|(simp;decide +kernel)|(simp [*];done),by repeat (first|exact Drawn0.refl _|apply Drawn0.step)⟩
          ·rw [if_neg c11] at H
           have c11b0 : (a0 == 43) = false:=beq_eq_false_iff_ne.mpr c11
           have c11b1 : (a0 != 43) = true:=bne_iff_ne.mpr c11
           by_cases c12 : a0 = 47
           ·rw [if_pos c12] at H
            have c12b0 : (a0 == 47) = true:=beq_iff_eq.mpr c12
            have c12b1 : (a0 != 47) = false:=bne_eq_false_iff_eq.mpr c12
            clear c12
            obtain rfl:=Option.some.inj H
            go_wp2
            go_ret
            exact ⟨by first|rfl|(simp;done)|(simp;decide +kernel)|(simp [*];done),by repeat (first|exact Drawn0.refl _|apply Drawn0.step)⟩
           ·rw [if_neg c12] at H
            have c12b0 : (a0 == 47) = false:=beq_eq_false_iff_ne.mpr c12
            have c12b1 : (a0 != 47) = true:=bne_iff_ne.mpr c12
            obtain rfl:=Option.some.inj H
            go_wp2
            go_ret
            exact ⟨by first|rfl|(simp;done)|(simp;decide +kernel)|(simp [*];done),by repeat (first|exact Drawn0.refl _|apply Drawn0.step)⟩
end Go.Proofs.YtedfgkjimnjdpaaDoor.X
namespace Go.Proofs.YtedfgkjimnjdpaaDoor.X
open Go.RowKit Go.Proofs.YtedfgkjimnjdpaaDoorW.PrintWords Go.Proofs.YtedfgkjimnjdpaaDoorW.PrintLast Go.Proofs.YtedfgkjimnjdpaaDoorW.PrintMore
attribute [local go_sem] max2_int min2_int max_two min_two max_three min_three max_four min_four
set_option linter.unusedVariables false
set_option linter.unusedSimpArgs false
mutual
def basic_Decode.j0 : Nat → ByteArray → Bool → Option (List Int × Int)
 | 0,_,_ => none
 | k + 1,x4,x42 => if x42 = true then (some (([] : List Int),5)) else (basic_Decode.l0 k x4 ([] : List Int) 0 0 (x4.size : Int) 0)
def basic_Decode.l0 : Nat → ByteArray → List Int → Int → Int → Int → Int → Option (List Int × Int)
 | 0,_,_,_,_,_,_ => none
 | k + 1,x4,x5,x6,x7,x44,x45 => if x45 < x44 then (if 0 ≤ x45 then (if x45 < (x4.size : Int) then ((basic_six.f k (bt x4 x45)).bind fun t315 => (if t315 < 0 then (some (([] : List Int),5)) else (if (wrap64 (x7 + 6)) ≥ 8 then (if 0 ≤ (wrap64 ((wrap64 (x7 + 6)) - 8)) then (if x5.length < 140737488355328 then (basic_Decode.l0 k x4 (x5 ++ [(shr .i64 (Go.bits .or .i64 (wrap64 (x6 * 64)) t315) (wrap64 ((wrap64 (x7 + 6)) - 8))) % 256]) (Go.bits .and .i64 (Go.bits .or .i64 (wrap64 (x6 * 64)) t315) (wrap64 ((shl .i64 1 (wrap64 ((wrap64 (x7 + 6)) - 8))) - 1))) (wrap64 ((wrap64 (x7 + 6)) - 8)) x44 (wrap64 (x45 + 1))) else (none)) else (none)) else (basic_Decode.l0 k x4 x5 (Go.bits .or .i64 (wrap64 (x6 * 64)) t315) (wrap64 (x7 + 6)) x44 (wrap64 (x45 + 1)))))) else (none)) else (none)) else (if x6 = 0 then (some (x5,0)) else (some (([] : List Int),5)))
end
def basic_Decode.f (k : Nat) (a0 : ByteArray) : Option (List Int × Int):=if (a0.size : Int) > 131072 then (some (([] : List Int),3)) else (if ((a0.size : Int) % 4) = 0 then ((strings_TrimSuffix.f a0 (⟨#[61]⟩ : ByteArray)).bind fun t312 => ((strings_TrimSuffix.f t312 (⟨#[61]⟩ : ByteArray)).bind fun t313 => (if ((t313.size : Int) % 4) = 1 then (basic_Decode.j0 k t313 true) else ((strings_HasSuffix.f t313 (⟨#[61]⟩ : ByteArray)).bind fun t314 => (if t314 = true then (basic_Decode.j0 k t313 true) else (basic_Decode.j0 k t313 ((wrap64 ((a0.size : Int) - (t313.size : Int))) != ((4 - ((t313.size : Int) % 4)) % 4)))))))) else (some (([] : List Int),5)))
set_option maxHeartbeats 8000000 in
set_option maxRecDepth 100000 in
theorem basic_Decode.calls (k : Nat) (a0 : ByteArray) (r1 : List Int) (r2 : Int) (w : World) (h : basic_Decode.f k a0 = some (r1,r2)) :
  Calls Tryd.prog 48 #[.string a0] w fun e w' => ∃ v0_ : Value,e = .returned (.tuple #[v0_,.int .i64 r2]) ∧ Kd.R (Kd.int .u8) 5 w' w.heap.size (fun _ => True) v0_ r1 ∧ Below w.heap.size w w':=by
 have HB:=Aside0.mk (Below.refl w.heap.size w)
 have H : (if (a0.size : Int) > 131072 then (some (([] : List Int),3)) else (if ((a0.size : Int) % 4) = 0 then ((strings_TrimSuffix.f a0 (⟨#[61]⟩ : ByteArray)).bind fun t312 => ((strings_TrimSuffix.f t312 (⟨#[61]⟩ : ByteArray)).bind fun t313 => (if ((t313.size : Int) % 4) = 1 then (basic_Decode.j0 k t313 true) else ((strings_HasSuffix.f t313 (⟨#[61]⟩ : ByteArray)).bind fun t314 => (if t314 = true then (basic_Decode.j0 k t313 true) else (basic_Decode.j0 k t313 ((wrap64 ((a0.size : Int) - (t313.size : Int))) != ((4 - ((t313.size : Int) % 4)) % 4)))))))) else (some (([] : List Int),5)))) = some (r1,r2):=h
 clear h
 by_cases c2 : (a0.size : Int) > 131072
 ·rw [if_pos c2] at H
  have c2b0 : decide (131072 < (a0.size : Int)) = true:=decide_eq_true c2
  have c2b1 : decide (131072 < a0.size) = true:=decide_eq_true (by omega)
  clear c2
  simp only [Option.some.injEq,Prod.mk.injEq] at H
  obtain ⟨rfl,rfl⟩:=H
  go_enter Tryd.func48,Tryd.ntmps48
  go_wp2
  go_ret2
  exact ⟨_,by first|rfl|(simp [errW_none,errW_some] <;> rfl)|(simp [*,errW_none,errW_some] <;> rfl),by first|exact Kd.R_nil _ _ _ _ _|exact Kd.N_nil _ _ _ _ _|exact Kd.V_nil _ _ _ _ _|exact Kd.Q_nil _ _ _ _ _|exact Kd.S_nil _ _ _ _ _,by repeat (first|(with_reducible first|exact HB.out|apply below_alloc|apply pw_below_drewN|apply below_drew1)|exact HB.out)⟩
 ·rw [if_neg c2] at H
  have c2b0 : decide (131072 < (a0.size : Int)) = false:=decide_eq_false c2
  have c2b1 : decide (131072 < a0.size) = false:=decide_eq_false (by omega)
  clear c2
  by_cases c3 : ((a0.size : Int) % 4) = 0
  ·rw [if_pos c3] at H
   have c3b0 : (((a0.size : Int) % 4) == 0) = true:=beq_iff_eq.mpr c3
   have c3b1 : (((a0.size : Int) % 4) != 0) = false:=bne_eq_false_iff_eq.mpr c3
   clear c3
   replace H:=Option.bind_eq_some_iff.mp H
   obtain ⟨t312,A40,H⟩:=H
   replace H : ((strings_TrimSuffix.f t312 (⟨#[61]⟩ : ByteArray)).bind fun t313 => (if ((t313.size : Int) % 4) = 1 then (basic_Decode.j0 k t313 true) else ((strings_HasSuffix.f t313 (⟨#[61]⟩ : ByteArray)).bind fun t314 => (if t314 = true then (basic_Decode.j0 k t313 true) else (basic_Decode.j0 k t313 ((wrap64 ((a0.size : Int) - (t313.size : Int))) != ((4 - ((t313.size : Int) % 4)) % 4))))))) = some (r1,r2):=H
   have A4:=Aside0.mk A40
   clear A40
   replace H:=Option.bind_eq_some_iff.mp H
   obtain ⟨t313,A50,H⟩:=H
   replace H : (if ((t313.size : Int) % 4) = 1 then (basic_Decode.j0 k t313 true) else ((strings_HasSuffix.f t313 (⟨#[61]⟩ : ByteArray)).bind fun t314 => (if t314 = true then (basic_Decode.j0 k t313 true) else (basic_Decode.j0 k t313 ((wrap64 ((a0.size : Int) - (t313.size : Int))) != ((4 - ((t313.size : Int) % 4)) % 4)))))) = some (r1,r2):=H
   have A5:=Aside0.mk A50
   clear A50
   have HC6:=Aside0.mk H
   clear H
   go_enter Tryd.func48,Tryd.ntmps48
   go_upto_region 6 with (first|((with_reducible refine gate_callee (f:=89) rfl ?_);refine goesL_ (some 20) rfl rfl Tryd.func89 (by kernel_rfl) rfl #[.string a0,.string (⟨#[61]⟩ : ByteArray)] rfl (by (try simp only [List.map_toArray,List.map_cons,List.map_nil]);first|done|rfl|(simp only [List.length_drop,List.length_take];rfl)) ?_;(with_reducible refine (strings_TrimSuffix.calls a0 (⟨#[61]⟩ : ByteArray) t312 _ A4.out).mono ?_);rintro e w' ⟨rfl,⟨nd,rfl⟩⟩;refine ⟨_,rfl,?_⟩)|((with_reducible refine gate_callee (f:=89) rfl ?_);refine goesL_ (some 21) rfl rfl Tryd.func89 (by kernel_rfl) rfl #[.string t312,.string (⟨#[61]⟩ : ByteArray)] rfl (by (try simp only [List.map_toArray,List.map_cons,List.map_nil]);first|done|rfl|(simp only [List.length_drop,List.length_take];rfl)) ?_;(with_reducible refine (strings_TrimSuffix.calls t312 (⟨#[61]⟩ : ByteArray) t313 _ A5.out).mono ?_);rintro e w' ⟨rfl,⟨nd,rfl⟩⟩;refine ⟨_,rfl,?_⟩))
   (try simp only [Act.put,List.setIfInBounds_toArray,List.set_cons_zero,List.set_cons_succ])
   go_cut [42] (fun v42 wc => ∃ (kq : Nat) (x42_5 : Bool),v42 = .bool x42_5 ∧ Aside0 (basic_Decode.j0 kq t313 x42_5 = some (r1,r2)) ∧ Aside0 (kq ≤ k) ∧ Aside0 (Below w.heap.size w wc))
   case first =>
    have H:=HC6.out
    clear HC6
    by_cases c7 : ((t313.size : Int) % 4) = 1
    ·rw [if_pos c7] at H
     have c7b0 : (((t313.size : Int) % 4) == 1) = true:=beq_iff_eq.mpr c7
     have c7b1 : (((t313.size : Int) % 4) != 1) = false:=bne_eq_false_iff_eq.mpr c7
     clear c7
     (first|rw [c7b0]|(simp only [i64_w,i32_w];rw [c7b0])|skip)
     have H':=Aside0.mk H
     clear H
     go_wp2
     go_meet
     case rel => exact ⟨_,(true),(by first|rfl|(simp;done)|(simp;decide +kernel)|(simp [*];done)),(by first|exact H'|(subst_vars;exact H')),⟨by first|omega|exact Nat.le_refl _⟩,⟨by repeat (first|(with_reducible first|exact HB.out|apply below_alloc|apply pw_below_drewN|apply below_drew1)|exact HB.out)⟩⟩
    ·rw [if_neg c7] at H
     have c7b0 : (((t313.size : Int) % 4) == 1) = false:=beq_eq_false_iff_ne.mpr c7
     have c7b1 : (((t313.size : Int) % 4) != 1) = true:=bne_iff_ne.mpr c7
     (first|rw [c7b0]|(simp only [i64_w,i32_w];rw [c7b0])|skip)
     replace H:=Option.bind_eq_some_iff.mp H
     obtain ⟨t314,A80,H⟩:=H
     replace H : (if t314 = true then (basic_Decode.j0 k t313 true) else (basic_Decode.j0 k t313 ((wrap64 ((a0.size : Int) - (t313.size : Int))) != ((4 - ((t313.size : Int) % 4)) % 4)))) = some (r1,r2):=H
     have A8:=Aside0.mk A80
     clear A80
     by_cases c9 : t314 = true
     ·subst c9
      have H1 : (basic_Decode.j0 k t313 true) = some (r1,r2):=by rw [if_pos rfl] at H;exact H
      clear H
      have H:=H1
      clear H1
      have H':=Aside0.mk H
      clear H
      go_wp2_with (first|(go_at_call 90;(with_reducible refine (strings_HasSuffix.calls t313 (⟨#[61]⟩ : ByteArray) true _ A8.out).mono ?_);rintro e w' ⟨rfl,⟨nd,rfl⟩⟩))
      go_meet
      case rel => exact ⟨_,(true),(by first|rfl|(simp;done)|(simp;decide +kernel)|(simp [*];done)),(by first|exact H'|(subst_vars;exact H')),⟨by first|omega|exact Nat.le_refl _⟩,⟨by repeat (first|(with_reducible first|exact HB.out|apply below_alloc|apply pw_below_drewN|apply below_drew1)|exact HB.out)⟩⟩
     ·replace c9:=Bool.eq_false_iff.mpr c9
      subst c9
      have H1 : (basic_Decode.j0 k t313 ((wrap64 ((a0.size : Int) - (t313.size : Int))) != ((4 - ((t313.size : Int) % 4)) % 4))) = some (r1,r2):=by rw [if_neg (show ¬ (false = true) by decide)] at H;exact H
      clear H
      have H:=H1
      clear H1
      have H':=Aside0.mk H
      clear H
      go_wp2_with (first|(go_at_call 90;(with_reducible refine (strings_HasSuffix.calls t313 (⟨#[61]⟩ : ByteArray) false _ A8.out).mono ?_);rintro e w' ⟨rfl,⟨nd,rfl⟩⟩))
      go_meet
      case rel => exact ⟨_,(((wrap64 ((a0.size : Int) - (t313.size : Int))) != ((4 - ((t313.size : Int) % 4)) % 4))),(by first|rfl|(simp;done)|(simp;decide +kernel)|(simp [*];done)),(by first|exact H'|(subst_vars;exact H')),⟨by first|omega|exact Nat.le_refl _⟩,⟨by repeat (first|(with_reducible first|exact HB.out|apply below_alloc|apply pw_below_drewN|apply below_drew1)|exact HB.out)⟩⟩
   case rest =>
    clear HC6
    try clear c2
    try clear c2b0
    try clear c2b1
    try clear p2
    try clear c3
    try clear c3b0
    try clear c3b1
    try clear c4
    try clear p6
    try clear c7
    try clear c7b0
    try clear c7b1
    try clear c8
    try clear c9
    obtain ⟨kq,x42_5,rfl,HA,HJ5,HB⟩:=hcut
    cases kq with
    | zero => exact absurd HA.out (by simp [basic_Decode.j0])
    | succ kj5 =>
     have H:=HA.out
     clear HA
     simp only [basic_Decode.j0] at H
     by_cases c10 : x42_5 = true
     ·subst c10
      have H1 : (some (([] : List Int),5)) = some (r1,r2):=by rw [if_pos rfl] at H;exact H
      clear H
      have H:=H1
      clear H1
      simp only [Option.some.injEq,Prod.mk.injEq] at H
      obtain ⟨rfl,rfl⟩:=H
      go_wp2
      go_ret2
      exact ⟨_,by first|rfl|(simp [errW_none,errW_some] <;> rfl)|(simp [*,errW_none,errW_some] <;> rfl),by first|exact Kd.R_nil _ _ _ _ _|exact Kd.N_nil _ _ _ _ _|exact Kd.V_nil _ _ _ _ _|exact Kd.Q_nil _ _ _ _ _|exact Kd.S_nil _ _ _ _ _,by repeat (first|(with_reducible first|exact HB.out|apply below_alloc|apply pw_below_drewN|apply below_drew1)|exact HB.out)⟩
     ·replace c10:=Bool.eq_false_iff.mpr c10
      subst c10
      have H1 : (basic_Decode.l0 kj5 t313 ([] : List Int) 0 0 (t313.size : Int) 0) = some (r1,r2):=by rw [if_neg (show ¬ (false = true) by decide)] at H;exact H
      clear H
      have H:=H1
      clear H1
      have H':=Aside0.mk H
      clear H
      go_wp2
      go_loopg [5,6,7,45] kj5 (fun kq v5 v6 v7 v45 w' => ∃ (x5_2 : List Int) (x6_2 : Int) (x7_2 : Int) (x45_2 : Int),v6 = .int .i64 x6_2 ∧ v7 = .int .i64 x7_2 ∧ v45 = .int .i64 x45_2 ∧ Aside0 (basic_Decode.l0 kq t313 x5_2 x6_2 x7_2 (t313.size : Int) x45_2 = some (r1,r2)) ∧ Aside0 (kq ≤ kj5) ∧ Aside0 (Kd.R (Kd.int .u8) 5 w' w.heap.size (fun _ => True) v5 x5_2) ∧ Aside0 (Below w.heap.size w w'))
      case atStart => exact ⟨(([] : List Int)),(0),(0),(0),(by first|rfl|(simp;done)|(simp;decide +kernel)|(simp [*];done)),(by first|rfl|(simp;done)|(simp;decide +kernel)|(simp [*];done)),(by first|rfl|(simp;done)|(simp;decide +kernel)|(simp [*];done)),(by first|exact H'|(subst_vars;exact H')),⟨Nat.le_refl _⟩,⟨by first|exact Kd.R_nil _ _ _ _ _|exact Kd.N_nil _ _ _ _ _|exact Kd.V_nil _ _ _ _ _|exact Kd.Q_nil _ _ _ _ _|exact Kd.S_nil _ _ _ _ _⟩,⟨by repeat (first|(with_reducible first|exact HB.out|apply below_alloc|apply pw_below_drewN|apply below_drew1)|exact HB.out)⟩⟩
      case round =>
       clear H'
       try clear c1
       try clear c2
       try clear c2b0
       try clear c2b1
       try clear p2
       try clear c3
       try clear c3b0
       try clear c3b1
       try clear c4
       try clear p6
       try clear c7
       try clear c7b0
       try clear c7b1
       try clear c8
       try clear c9
       try clear c10
       try clear p2
       try clear p6
       obtain ⟨x5_2,x6_2,x7_2,x45_2,rfl,rfl,rfl,HA,HK2,HO_5,HB⟩:=hrel
       cases gk with
       | zero => exact absurd HA.out (by simp [basic_Decode.l0])
       | succ k2 =>
        have H:=HA.out
        clear HA
        simp only [basic_Decode.l0] at H
        by_cases c11 : x45_2 < (t313.size : Int)
        ·rw [if_pos c11] at H
         have c11b0 : decide (x45_2 < (t313.size : Int)) = true:=decide_eq_true c11
         clear c11
         by_cases c12 : 0 ≤ x45_2
         ·rw [if_pos c12] at H
          have c12b0 : decide (0 ≤ x45_2) = true:=decide_eq_true c12
          clear c12
          by_cases c13 : x45_2 < (t313.size : Int)
          ·rw [if_pos c13] at H
           have c13b0 : decide (x45_2 < (t313.size : Int)) = true:=decide_eq_true c13
           clear c13
           replace H:=Option.bind_eq_some_iff.mp H
           obtain ⟨t315,A150,H⟩:=H
           replace H : (if t315 < 0 then (some (([] : List Int),5)) else (if (wrap64 (x7_2 + 6)) ≥ 8 then (if 0 ≤ (wrap64 ((wrap64 (x7_2 + 6)) - 8)) then (if x5_2.length < 140737488355328 then (basic_Decode.l0 k2 t313 (x5_2 ++ [(shr .i64 (Go.bits .or .i64 (wrap64 (x6_2 * 64)) t315) (wrap64 ((wrap64 (x7_2 + 6)) - 8))) % 256]) (Go.bits .and .i64 (Go.bits .or .i64 (wrap64 (x6_2 * 64)) t315) (wrap64 ((shl .i64 1 (wrap64 ((wrap64 (x7_2 + 6)) - 8))) - 1))) (wrap64 ((wrap64 (x7_2 + 6)) - 8)) (t313.size : Int) (wrap64 (x45_2 + 1))) else (none)) else (none)) else (basic_Decode.l0 k2 t313 x5_2 (Go.bits .or .i64 (wrap64 (x6_2 * 64)) t315) (wrap64 (x7_2 + 6)) (t313.size : Int) (wrap64 (x45_2 + 1))))) = some (r1,r2):=H
           have A15:=Aside0.mk A150
           clear A150
           by_cases c16 : t315 < 0
           ·rw [if_pos c16] at H
            have c16b0 : decide (t315 < 0) = true:=decide_eq_true c16
            clear c16
            simp only [Option.some.injEq,Prod.mk.injEq] at H
            obtain ⟨rfl,rfl⟩:=H
            have p14 : 0 ≤ (x45_2 : Int):=of_decide_eq_true (by first|(with_reducible assumption)|assumption)
            have q14 : x45_2 < (t313.size : Int):=of_decide_eq_true (by first|(with_reducible assumption)|assumption)
            have hx14:=bt_at t313 x45_2
            replace p14:=eq_true p14
            replace q14:=eq_true q14
            go_wp2_with (first|((with_reducible refine gate_callee (f:=91) rfl ?_);refine goesL_ (some 51) rfl rfl Tryd.func91 (by kernel_rfl) rfl #[.int .u8 (bt t313 x45_2)] rfl (by (try simp only [List.map_toArray,List.map_cons,List.map_nil]);first|done|rfl|(simp only [List.length_drop,List.length_take];rfl)) ?_;(with_reducible refine (basic_six.calls k2 (bt t313 x45_2) t315 _ A15.out).mono ?_);rintro e w' ⟨rfl,⟨nd,rfl⟩⟩;refine ⟨_,rfl,?_⟩))
            go_ret2
            exact ⟨_,by first|rfl|(simp [errW_none,errW_some] <;> rfl)|(simp [*,errW_none,errW_some] <;> rfl),by first|exact Kd.R_nil _ _ _ _ _|exact Kd.N_nil _ _ _ _ _|exact Kd.V_nil _ _ _ _ _|exact Kd.Q_nil _ _ _ _ _|exact Kd.S_nil _ _ _ _ _,by repeat (first|(with_reducible first|exact HB.out|apply below_alloc|apply pw_below_drewN|apply below_drew1)|exact HB.out)⟩
           ·rw [if_neg c16] at H
            have c16b0 : decide (t315 < 0) = false:=decide_eq_false c16
            clear c16
            by_cases c17 : (wrap64 (x7_2 + 6)) ≥ 8
            ·rw [if_pos c17] at H
             have c17b0 : decide (8 ≤ (wrap64 (x7_2 + 6))) = true:=decide_eq_true c17
             clear c17
             obtain ⟨ji18,hji18⟩ : ∃ j_ : Int,(wrap64 ((wrap64 (x7_2 + 6)) - 8)) = j_:=⟨_,rfl⟩
             replace H : (if 0 ≤ (ji18) then (if x5_2.length < 140737488355328 then (basic_Decode.l0 k2 t313 (x5_2 ++ [(shr .i64 (Go.bits .or .i64 (wrap64 (x6_2 * 64)) t315) (ji18)) % 256]) (Go.bits .and .i64 (Go.bits .or .i64 (wrap64 (x6_2 * 64)) t315) (wrap64 ((shl .i64 1 (ji18)) - 1))) ji18 (t313.size : Int) (wrap64 (x45_2 + 1))) else (none)) else (none)) = some (r1,r2):=by first|(rw [hji18] at H;exact H)|(simp only [hji18] at H ⊢;exact H)
             (try rw [hji18] at A15)
             have hji18w : (IntKind.i64.wrap ((wrap64 (x7_2 + 6)) - 8)) = ji18:=(i64_w _).trans hji18
             by_cases c19 : 0 ≤ (ji18)
             ·rw [if_pos c19] at H
              have c19b0:=eq_true c19
              have c19b1 : decide (0 ≤ (ji18)) = true:=decide_eq_true c19
              clear c19
              obtain ⟨ji20,hji20⟩ : ∃ j_ : Int,(shr .i64 (Go.bits .or .i64 (wrap64 (x6_2 * 64)) t315) (ji18)) = j_:=⟨_,rfl⟩
              replace H : (if x5_2.length < 140737488355328 then (basic_Decode.l0 k2 t313 (x5_2 ++ [(ji20) % 256]) (Go.bits .and .i64 (Go.bits .or .i64 (wrap64 (x6_2 * 64)) t315) (wrap64 ((shl .i64 1 (ji18)) - 1))) ji18 (t313.size : Int) (wrap64 (x45_2 + 1))) else (none)) = some (r1,r2):=by first|(rw [hji20] at H;exact H)|(simp only [hji20] at H ⊢;exact H)
              (try rw [hji20] at A15)
              have hji20_ : ((Go.bits .or .i64 (wrap64 (x6_2 * 64)) t315) / 2 ^ min (ji18).toNat 64) = ji20:=hji20
              have hji20z : (ji18) ≤ 64 → ((Go.bits .or .i64 (wrap64 (x6_2 * 64)) t315) / 2 ^ (ji18).toNat) = ji20:=shr_small hji20
              by_cases c21 : x5_2.length < 140737488355328
              ·rw [if_pos c21] at H
               have LMc21:=Aside0.mk c21
               clear c21
               obtain ⟨y316,hy316⟩ : ∃ y_ : List Int,y_ = (x5_2 ++ [(ji20) % 256]):=⟨_,rfl⟩
               replace H : (basic_Decode.l0 k2 t313 y316 (Go.bits .and .i64 (Go.bits .or .i64 (wrap64 (x6_2 * 64)) t315) (wrap64 ((shl .i64 1 (ji18)) - 1))) ji18 (t313.size : Int) (wrap64 (x45_2 + 1))) = some (r1,r2):=by first|(rw [hy316];with_reducible exact H)|(have H2_:=(Option.bind_some _ _).symm.trans H;rw [hy316];with_reducible exact H2_)|(have H2_:=(Option.bind_some _ _).symm.trans H;with_reducible exact H2_)|with_reducible exact H|(rw [hy316];exact H)|exact H
               have Ny316:=Aside0.mk hy316
               clear hy316
               have c22b0:=eq_true (of_decide_eq_true (by first|(with_reducible assumption)|assumption) : 0 ≤ (ji18))
               obtain ⟨ji23,hji23⟩ : ∃ j_ : Int,(shl .i64 1 (ji18)) = j_:=⟨_,rfl⟩
               replace H : (basic_Decode.l0 k2 t313 y316 (Go.bits .and .i64 (Go.bits .or .i64 (wrap64 (x6_2 * 64)) t315) (wrap64 ((ji23) - 1))) ji18 (t313.size : Int) (wrap64 (x45_2 + 1))) = some (r1,r2):=by first|(rw [hji23] at H;exact H)|(simp only [hji23] at H ⊢;exact H)
               (try rw [hji23] at A15)
               have hji23_ : (IntKind.i64.wrap (1 * 2 ^ min (ji18).toNat 64)) = ji23:=hji23
               have hji23z : (ji18) ≤ 64 → (IntKind.i64.wrap (1 * 2 ^ (ji18).toNat)) = ji23:=shl_small hji23
               have hji23u : (IntKind.i64.wrap (2 ^ min (ji18).toNat 64)) = ji23:=by have h_:=hji23_;rw [Int.one_mul] at h_;exact h_
               have hji23v : (ji18) ≤ 64 → (IntKind.i64.wrap (2 ^ (ji18).toNat)) = ji23:=fun hle_ => by have h_:=hji23z hle_;rw [Int.one_mul] at h_;exact h_
               have hji23y : (wrap64 (1 * 2 ^ min (ji18).toNat 64)) = ji23:=(i64_w _).symm.trans hji23_
               have hji23x : (ji18) ≤ 64 → (wrap64 (1 * 2 ^ (ji18).toNat)) = ji23:=fun h_ => (i64_w _).symm.trans (hji23z h_)
               have H':=Aside0.mk H
               clear H
               have p14 : 0 ≤ (x45_2 : Int):=of_decide_eq_true (by first|(with_reducible assumption)|assumption)
               have q14 : x45_2 < (t313.size : Int):=of_decide_eq_true (by first|(with_reducible assumption)|assumption)
               have hx14:=bt_at t313 x45_2
               replace p14:=eq_true p14
               replace q14:=eq_true q14
               go_wp2_with (first|((with_reducible refine gate_callee (f:=91) rfl ?_);refine goesL_ (some 51) rfl rfl Tryd.func91 (by kernel_rfl) rfl #[.int .u8 (bt t313 x45_2)] rfl (by (try simp only [List.map_toArray,List.map_cons,List.map_nil]);first|done|rfl|(simp only [List.length_drop,List.length_take];rfl)) ?_;(with_reducible refine (basic_six.calls k2 (bt t313 x45_2) t315 _ A15.out).mono ?_);rintro e w' ⟨rfl,⟨nd,rfl⟩⟩;refine ⟨_,rfl,?_⟩)|((with_reducible refine gate_builtin (b:=.append) (xs:=#[.tmp 64,.tmp 69]) rfl ?_);(try (refine gate_guard (by rfl) ?_;dsimp only));at_builtin;refine Kd.R_append (Kd.int .u8) (w0:=w) w.heap.size rfl (.tmp 64) (.tmp 69) 49 5 (.int .u8 0) 1 rfl Tryd.underlying49 info5 rfl (by decide) (by omega) u5 x5_2 ((ji20) % 256) [.int .u8 ((ji20) % 256)] (fun _ => True) (fun _ => False) rfl rfl ?aP (fun _ hk => hk.elim) ?aF ?aO ?aB ?aS ?aL ?_;(case aP => exact rfl);(case aB => exact (by repeat (first|(with_reducible first|exact HB.out|apply below_alloc|apply pw_below_drewN|apply below_drew1)|exact HB.out)));(case aF => exact (fun _ _ => trivial));(case aO => exact (by (with_reducible repeat (first|apply Kd.R_alloc|apply Kd.R_drewN|apply Kd.R_drew));exact HO_5.out));(case aS => exact (below_size (by repeat (first|(with_reducible first|exact HB.out|apply below_alloc|apply pw_below_drewN|apply below_drew1)|exact HB.out))));(case aL => have:=LMc21.out;omega);intro v317 w24 ho hb hg hat;rw [← Ny316.out] at ho;have n0_:=Aside0.mk (hb);have n1_:=Aside0.mk (ho);clear HB;clear HO_5;have HB:=n0_;have HO318:=n1_;clear n0_ n1_;clear ho hb hg hat))
               go_roundg k2
               case measure => have:=HJ5.out;have:=HK2.out;omega
               case rel => exact ⟨(y316),(Go.bits .and .i64 (Go.bits .or .i64 (wrap64 (x6_2 * 64)) t315) (wrap64 ((ji23) - 1))),(ji18),(wrap64 (x45_2 + 1)),(by first|rfl|(simp;done)|(simp only [← hji23] <;> (first|rfl|simp))|(simp [*];done)),(by first|rfl|(simp;done)|(simp only [← hji18] <;> (first|rfl|simp))|(simp [*];done)),(by first|rfl|(simp;done)|(simp;decide +kernel)|(simp [*];done)),(by first|exact H'|(subst_vars;exact H')),⟨by have:=HJ5.out;have:=HK2.out;omega⟩,⟨by (with_reducible repeat (first|apply Kd.R_alloc|apply Kd.R_drewN|apply Kd.R_drew));exact HO318.out⟩,⟨by repeat (first|(with_reducible first|exact HB.out|apply below_alloc|apply pw_below_drewN|apply below_drew1)|exact HB.out)⟩⟩
              ·rw [if_neg c21] at H
               exact absurd H (by simp)
             ·rw [if_neg c19] at H
              exact absurd H (by simp)
            ·rw [if_neg c17] at H
             have c17b0 : decide (8 ≤ (wrap64 (x7_2 + 6))) = false:=decide_eq_false c17
             clear c17
             have H':=Aside0.mk H
             clear H
             have p14 : 0 ≤ (x45_2 : Int):=of_decide_eq_true (by first|(with_reducible assumption)|assumption)
             have q14 : x45_2 < (t313.size : Int):=of_decide_eq_true (by first|(with_reducible assumption)|assumption)
             have hx14:=bt_at t313 x45_2
             replace p14:=eq_true p14
             replace q14:=eq_true q14
             go_wp2_with (first|((with_reducible refine gate_callee (f:=91) rfl ?_);refine goesL_ (some 51) rfl rfl Tryd.func91 (by kernel_rfl) rfl #[.int .u8 (bt t313 x45_2)] rfl (by (try simp only [List.map_toArray,List.map_cons,List.map_nil]);first|done|rfl|(simp only [List.length_drop,List.length_take];rfl)) ?_;(with_reducible refine (basic_six.calls k2 (bt t313 x45_2) t315 _ A15.out).mono ?_);rintro e w' ⟨rfl,⟨nd,rfl⟩⟩;refine ⟨_,rfl,?_⟩))
             go_roundg k2
             case measure => have:=HJ5.out;have:=HK2.out;omega
             case rel => exact ⟨(x5_2),(Go.bits .or .i64 (wrap64 (x6_2 * 64)) t315),(wrap64 (x7_2 + 6)),(wrap64 (x45_2 + 1)),(by first|rfl|(simp;done)|(simp;decide +kernel)|(simp [*];done)),(by first|rfl|(simp;done)|(simp;decide +kernel)|(simp [*];done)),(by first|rfl|(simp;done)|(simp;decide +kernel)|(simp [*];done)),(by first|exact H'|(subst_vars;exact H')),⟨by have:=HJ5.out;have:=HK2.out;omega⟩,⟨by (with_reducible repeat (first|apply Kd.R_alloc|apply Kd.R_drewN|apply Kd.R_drew));exact HO_5.out⟩,⟨by repeat (first|(with_reducible first|exact HB.out|apply below_alloc|apply pw_below_drewN|apply below_drew1)|exact HB.out)⟩⟩
          ·rw [if_neg c13] at H
           exact absurd H (by simp)
         ·rw [if_neg c12] at H
          exact absurd H (by simp)
        ·rw [if_neg c11] at H
         have c11b0 : decide (x45_2 < (t313.size : Int)) = false:=decide_eq_false c11
         clear c11
         by_cases c25 : x6_2 = 0
         ·rw [if_pos c25] at H
          have c25b0 : (x6_2 == 0) = true:=beq_iff_eq.mpr c25
          have c25b1 : (x6_2 != 0) = false:=bne_eq_false_iff_eq.mpr c25
          clear c25
          simp only [Option.some.injEq,Prod.mk.injEq] at H
          obtain ⟨rfl,rfl⟩:=H
          go_wp2
          go_ret2
          exact ⟨_,by first|rfl|(simp [errW_none,errW_some] <;> rfl)|(simp [*,errW_none,errW_some] <;> rfl),by (with_reducible repeat (first|apply Kd.R_alloc|apply Kd.R_drewN|apply Kd.R_drew));exact HO_5.out,by repeat (first|(with_reducible first|exact HB.out|apply below_alloc|apply pw_below_drewN|apply below_drew1)|exact HB.out)⟩
         ·rw [if_neg c25] at H
          have c25b0 : (x6_2 == 0) = false:=beq_eq_false_iff_ne.mpr c25
          have c25b1 : (x6_2 != 0) = true:=bne_iff_ne.mpr c25
          simp only [Option.some.injEq,Prod.mk.injEq] at H
          obtain ⟨rfl,rfl⟩:=H
          go_wp2
          go_ret2
          exact ⟨_,by first|rfl|(simp [errW_none,errW_some] <;> rfl)|(simp [*,errW_none,errW_some] <;> rfl),by first|exact Kd.R_nil _ _ _ _ _|exact Kd.N_nil _ _ _ _ _|exact Kd.V_nil _ _ _ _ _|exact Kd.Q_nil _ _ _ _ _|exact Kd.S_nil _ _ _ _ _,by repeat (first|(with_reducible first|exact HB.out|apply below_alloc|apply pw_below_drewN|apply below_drew1)|exact HB.out)⟩
  ·rw [if_neg c3] at H
   have c3b0 : (((a0.size : Int) % 4) == 0) = false:=beq_eq_false_iff_ne.mpr c3
   have c3b1 : (((a0.size : Int) % 4) != 0) = true:=bne_iff_ne.mpr c3
   simp only [Option.some.injEq,Prod.mk.injEq] at H
   obtain ⟨rfl,rfl⟩:=H
   go_enter Tryd.func48,Tryd.ntmps48
   go_wp2
   go_ret2
   exact ⟨_,by first|rfl|(simp [errW_none,errW_some] <;> rfl)|(simp [*,errW_none,errW_some] <;> rfl),by first|exact Kd.R_nil _ _ _ _ _|exact Kd.N_nil _ _ _ _ _|exact Kd.V_nil _ _ _ _ _|exact Kd.Q_nil _ _ _ _ _|exact Kd.S_nil _ _ _ _ _,by repeat (first|(with_reducible first|exact HB.out|apply below_alloc|apply pw_below_drewN|apply below_drew1)|exact HB.out)⟩
end Go.Proofs.YtedfgkjimnjdpaaDoor.X
