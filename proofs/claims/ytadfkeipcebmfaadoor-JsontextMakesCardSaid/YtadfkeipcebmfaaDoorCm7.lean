/-
  What the claim's law rests on, part 7 of 7: printed walks, externals, plain lemmas; conditions: none of its own.
-/
import Derived.ChangeSame
import Derived.Deep.Slices
import Derived.SliceStrings
import Derived.Test.YtadfkeipcebmfaaDoorCm6
namespace Go.Proofs.YtadfkeipcebmfaaDoor.Pure
open Go.Proofs.YtadfkeipcebmfaaDoor.X Go.RowKit Go.Proofs.YtadfkeipcebmfaaDoorW.PrintWords Go.Proofs.YtadfkeipcebmfaaDoorW.PrintMore
set_option linter.unusedVariables false
set_option linter.unusedSimpArgs false
theorem valid_step (c : UInt8) (r : Bs) : Lib.validD (c :: r) = if sgn (c :: r) = 0 then false else Lib.validD ((c :: r).drop (sgn (c :: r))):=by
 by_cases hc : c.toNat < 128
 ·have e : sgn (c :: r) = 1:=by simp only [sgn];rw [if_pos hc]
  rw [Lib.validD_cons c r hc,e,if_neg (by decide)]
  rfl
 ·have hN : (Lib.decodeL (c :: r)).2 = 1 → (Lib.decodeL (c :: r)).1 = 65533:=by
   rw [Lib.decodeL_N]
   exact decN_one _ _ _ _ _ (by simpa using hc)
  rw [Lib.validD_step _ (by simp)]
  by_cases h1 : (Lib.decodeL (c :: r)).2 = 1
  ·have e : sgn (c :: r) = 0:=by simp only [sgn];rw [if_neg hc,if_pos h1]
   rw [if_pos ⟨hN h1,h1⟩,if_pos e]
  ·have e : sgn (c :: r) = (Lib.decodeL (c :: r)).2:=by simp only [sgn];rw [if_neg hc,if_neg h1]
   have hw:=Lib.decodeL_width (c :: r)
   rw [if_neg (fun h => h1 h.2),e,if_neg (by omega)]
theorem valid_l0 (s : ByteArray) (hs : s.size ≤ 1000000) : ∀ (n : Nat) (l : Bs) (p k : Nat),l.length ≤ n → At s p l → n + 30 ≤ k → racewayref25_Valid.l0 k s (p : Int) = some (Lib.validD l)
 | n,[],p,0,hn,ha,hk => by omega
 | n,[],p,k + 1,hn,ha,hk => by
  rw [racewayref25_Valid.l0,if_neg ha.ge]
  rfl
 | n,c :: r,p,0,hn,ha,hk => by omega
 | 0,c :: r,p,k + 1,hn,ha,hk => by simp at hn
 | n + 1,c :: r,p,k + 1,hn,ha,hk => by
  rw [racewayref25_Valid.l0,if_pos ha.lti,sign_is s p (c :: r) ha (by simp) (by omega) k (by omega),Option.bind_some,valid_step]
  by_cases h : sgn (c :: r) = 0
  ·rw [if_pos h,if_pos (by omega)]
  ·have hsl:=sgn_le (c :: r)
   have had:=ha.add _ hsl
   have hdl:=had.le
   rw [if_neg h,if_neg (by omega),w64v (by omega) (by omega),show ((p : Int) + ((sgn (c :: r) : Nat) : Int)) = ((p + sgn (c :: r) : Nat) : Int) by omega]
   exact valid_l0 s hs n _ _ k (by rw [List.length_drop];simp only [List.length_cons] at hn ⊢;omega) had (by omega)
theorem valid_is (s : ByteArray) (hs : s.size ≤ 1000000) (k : Nat) (hk : s.size + 30 ≤ k) : racewayref25_Valid.f k s = some (Lib.validD s.data.toList):=by
 rw [racewayref25_Valid.f]
 exact valid_l0 s hs s.size _ 0 k (by simp) (At.start s) hk
theorem number_is0 (s : ByteArray) (hs : s.size ≤ 1000000) (k : Nat) (hk : 3 * s.size + 20 ≤ k) : ∃ (a e : Int) (T : List S46) (S : ByteArray),racewayref25_number.f k s 0 = some (a,e,T,S) ∧ (isNum s.data.toList = true ↔ e = 0 ∧ a = (s.size : Int)):=by
 have hl : s.data.toList.length = s.size:=by simp
 have h : racewayref25_number.f k s 0 = nres s 0 (num s.data.toList):=number_R (At.start s) (by omega) k (by omega)
 rw [h]
 cases hn : num s.data.toList with
 | bad r e =>
  have h5:=num_five _ _ _ hn
  refine ⟨_,_,_,_,rfl,?_⟩
  rw [isNum,hn]
  simp only
  constructor
  ·intro h;cases h
  ·intro h;omega
 | ok r u =>
  have hlt:=num_len _ _ _ hn
  refine ⟨_,_,_,_,rfl,?_⟩
  rw [isNum,hn]
  cases r with
  | nil =>
   simp only [List.length_nil,Nat.sub_zero,true_iff]
   exact ⟨trivial,trivial⟩
  | cons c r =>
   simp only [List.length_cons] at hlt ⊢
   constructor
   ·intro h;cases h
   ·intro h;omega
def okHead (x : S46) (keyed : Bool) : Bool:=decide (1 ≤ x.f0) && decide (x.f0 ≤ 7) && decide (0 ≤ x.f2) && (decide (x.f2 ≤ 0) || decide (6 ≤ x.f0)) && (x.f3.data.toList.isEmpty || keyed) && Lib.validD x.f3.data.toList
def okTail (x : S46) : Bool:=if x.f0 = 4 then decide (x.f4.size ≤ 65536) && isNum x.f4.data.toList else if x.f0 = 5 then Lib.validD x.f4.data.toList else x.f4.data.toList.isEmpty
theorem ok_two (x : S46) (keyed : Bool) : okN x keyed = (okHead x keyed && okTail x):=rfl
theorem may_head (l : List S46) (p en k : Nat) (keyed : Bool) (deep : Int) (x : S46) (hx : rd_T46 l (p : Int) = x) (hp : p < en) (hl : p < l.length) (h3 : x.f3.size ≤ 1000000) (hk : x.f3.size + 30 ≤ k) :
  racewayref25_may.f (k + 1) l (p : Int) (en : Int) keyed deep = racewayref25_may.j0 k l (p : Int) (en : Int) deep (!(okHead x keyed && decide (deep < 32))) x.f0 x.f1 x.f2 x.f3 x.f4:=by
 rw [racewayref25_may.f,if_pos (by omega),if_pos (by omega),if_neg (by omega),hx,valid_is x.f3 h3 k hk,tl]
 simp only [Option.bind_some]
 unfold okHead
 generalize Lib.validD x.f3.data.toList = V
 by_cases a1 : x.f0 < 1
 ·rw [if_pos a1,decide_eq_false (by omega)];rfl
 ·rw [if_neg a1,decide_eq_true (show 1 ≤ x.f0 by omega)]
  by_cases a2 : x.f0 > 7
  ·rw [if_pos a2,decide_eq_false (show ¬ x.f0 ≤ 7 by omega)];rfl
  ·rw [if_neg a2,decide_eq_true (show x.f0 ≤ 7 by omega)]
   by_cases a4 : x.f2 < 0
   ·rw [if_pos a4,decide_eq_false (show ¬ 0 ≤ x.f2 by omega)];rfl
   ·rw [if_neg a4,decide_eq_true (show 0 ≤ x.f2 by omega)]
    by_cases a5 : deep ≥ 32
    ·rw [if_pos a5,decide_eq_false (show ¬ deep < 32 by omega),Bool.and_false];rfl
    ·rw [if_neg a5,decide_eq_true (show deep < 32 by omega),Bool.and_true]
     by_cases a6 : x.f2 > 0
     ·rw [if_pos a6,decide_eq_false (show ¬ x.f2 ≤ 0 by omega)]
      by_cases a7 : x.f0 < 6
      ·rw [if_pos a7,decide_eq_false (show ¬ 6 ≤ x.f0 by omega)];rfl
      ·rw [if_neg a7,decide_eq_true (show 6 ≤ x.f0 by omega)]
       cases hk2 : x.f3.data.toList with
       | nil => rw [if_pos rfl];simp
       | cons c r =>
        rw [if_neg (by simp)]
        cases keyed with
        | true => rw [if_pos rfl];simp
        | false => rw [if_neg (by decide)];simp
     ·rw [if_neg a6,decide_eq_true (show x.f2 ≤ 0 by omega)]
      cases hk2 : x.f3.data.toList with
      | nil => rw [if_pos rfl];simp
      | cons c r =>
       rw [if_neg (by simp)]
       cases keyed with
       | true => rw [if_pos rfl];simp
       | false => rw [if_neg (by decide)];simp
theorem may_tail (l : List S46) (p en k : Nat) (deep : Int) (x : S46) (h4 : x.f4.size ≤ 1000000) (hk : 3 * x.f4.size + 30 ≤ k) :
  racewayref25_may.j0 (k + 3) l (p : Int) (en : Int) deep false x.f0 x.f1 x.f2 x.f3 x.f4 = if okTail x then racewayref25_may.l0 k l (p : Int) (en : Int) deep (wrap64 ((p : Int) + 1)) 0 x.f0 x.f1 x.f2 x.f3 x.f4 else some (-1):=by
 obtain ⟨f0,f1,f2,f3,f4⟩:=x
 simp only at h4 hk ⊢
 unfold okTail
 simp only
 have j2f : racewayref25_may.j2 (k + 1) l (p : Int) (en : Int) deep false f0 f1 f2 f3 f4 = racewayref25_may.l0 k l (p : Int) (en : Int) deep (wrap64 ((p : Int) + 1)) 0 f0 f1 f2 f3 f4:=by rw [racewayref25_may.j2,if_neg (by decide)]
 have j2t : racewayref25_may.j2 (k + 1) l (p : Int) (en : Int) deep true f0 f1 f2 f3 f4 = some (-1):=by rw [racewayref25_may.j2,if_pos rfl]
 rw [racewayref25_may.j0,if_neg (by decide)]
 by_cases c4 : f0 = 4
 ·rw [if_pos c4,if_pos c4]
  by_cases c5 : (f4.size : Int) > 65536
  ·rw [if_pos c5,decide_eq_false (show ¬ f4.size ≤ 65536 by omega)]
   rfl
  ·rw [if_neg c5,decide_eq_true (show f4.size ≤ 65536 by omega),Bool.true_and]
   obtain ⟨a,e,T,S,hn,hiff⟩:=number_is0 f4 h4 (k + 2) (by omega)
   rw [hn,Option.bind_some]
   simp only
   by_cases hN : isNum f4.data.toList = true
   ·obtain ⟨e0,ea⟩:=hiff.mp hN
    rw [if_pos e0,if_pos ea,if_pos hN,racewayref25_may.j1,if_neg (by omega),if_pos c4,j2f]
   ·rw [if_neg hN]
    by_cases e0 : e = 0
    ·rw [if_pos e0,if_neg (fun ea => hN (hiff.mpr ⟨e0,ea⟩))]
    ·rw [if_neg e0]
 ·rw [if_neg c4,if_neg c4,racewayref25_may.j1,valid_is f4 h4 (k + 1) (by omega),Option.bind_some,tl]
  by_cases c5 : f0 = 5
  ·rw [if_pos c5,if_pos c5]
   cases Lib.validD f4.data.toList with
   | true => rw [if_pos rfl,if_neg c4,j2f];rfl
   | false => rw [if_neg (by decide),j2t];rfl
  ·rw [if_neg c5,if_neg c5,if_neg c4]
   cases f4.data.toList with
   | nil => exact j2f
   | cons c r => exact j2t
def mayA (o : Option (F × List S46)) (p en : Nat) : Int:=match o with
 | some (t,_) => if p + t.flat.length ≤ en then ((p + t.flat.length : Nat) : Int) else -1
 | none => -1
def MayOk (l : List S46) (d : Nat) : Prop:=∀ (deep : Nat) (keyed : Bool) (p en k : Nat),d + deep = 32 → p < en → en ≤ l.length → 10 * (l.length - p) + 4000000 ≤ k → racewayref25_may.f k l (p : Int) (en : Int) keyed (deep : Int) = some (mayA (dec d keyed (l.drop p)) p en)
def mayB (o : Option (F × List S46)) (at_ : Nat) (f1 : Int) (p en : Nat) : Int:=match o with
 | some (t,_) => if p + t.flat.length ≤ en then (if f1 = ((p + t.flat.length - at_ : Nat) : Int) then ((p + t.flat.length : Nat) : Int) else -1) else -1
 | none => -1
theorem may_loop (l : List S46) (hl : l.length ≤ 1000000) (d : Nat) (hd : MayOk l d) (deep : Nat) (hdd : d + 1 + deep = 32) (f0 f1 f2 : Int) (f3 f4 : ByteArray) (at_ en : Nat) (hen : en ≤ l.length) (hN : f2 ≤ 9223372036854775807) :
  ∀ (n p : Nat) (i : Int) (k : Nat),0 ≤ i → i + n = f2 → at_ ≤ p → p ≤ en → 10 * (l.length - p) + 4000005 ≤ k →
   racewayref25_may.l0 k l (at_ : Int) (en : Int) (deep : Int) (p : Int) i f0 f1 f2 f3 f4 = some (mayB (kids (dec d (f0 == 7)) n (l.drop p)) at_ f1 p en)
 | 0,p,i,k,h0,hi,hap,hp,hk => by
  obtain ⟨k,rfl⟩ : ∃ k',k = k' + 1:=⟨k - 1,by omega⟩
  rw [racewayref25_may.l0,if_neg (by omega),w64v (by omega) (by omega)]
  have e : mayB (kids (dec d (f0 == 7)) 0 (l.drop p)) at_ f1 p en = if p ≤ en then (if f1 = ((p - at_ : Nat) : Int) then (p : Int) else -1) else -1:=rfl
  rw [e,if_pos hp,show (p : Int) - (at_ : Int) = ((p - at_ : Nat) : Int) by omega]
  split <;> rfl
 | n + 1,p,i,k,h0,hi,hap,hp,hk => by
  obtain ⟨k,rfl⟩ : ∃ k',k = k' + 1:=⟨k - 1,by omega⟩
  rw [racewayref25_may.l0,if_pos (by omega)]
  by_cases hpe : (p : Int) ≥ (en : Int)
  ·rw [if_pos hpe]
   congr 1
   simp only [kids,mayB]
   cases h1 : dec d (f0 == 7) (l.drop p) with
   | none => rfl
   | some x =>
    obtain ⟨t,r⟩:=x
    obtain ⟨a1,a2,a3⟩:=dec_ok _ _ _ _ _ h1
    have:=one_pos a2
    simp only
    cases h2 : kids (dec d (f0 == 7)) n r with
    | none => rfl
    | some y =>
     simp only [F.flat_app,List.length_append]
     rw [if_neg (by omega)]
  ·rw [if_neg hpe,w64v (x:=(deep : Int) + 1) (by omega) (by omega)]
   have hc:=hd (deep + 1) (f0 == 7) p en k (by omega) (by omega) hen (by omega)
   rw [show ((deep : Int) + 1) = ((deep + 1 : Nat) : Int) by omega,hc]
   simp only [Option.bind_some,kids,mayA]
   cases h1 : dec d (f0 == 7) (l.drop p) with
   | none => rfl
   | some x =>
    obtain ⟨t,r⟩:=x
    obtain ⟨a1,a2,a3⟩:=dec_ok _ _ _ _ _ h1
    have hpos:=one_pos a2
    simp only
    by_cases hle : p + t.flat.length ≤ en
    ·rw [if_pos hle,if_neg (by omega),w64v (x:=i + 1) (by omega) (by omega)]
     have hr : r = l.drop (p + t.flat.length):=by
      rw [← List.drop_drop,a1]
      simp
     have:=may_loop l hl d hd deep hdd f0 f1 f2 f3 f4 at_ en hen hN n (p + t.flat.length) (i + 1) k (by omega) (by omega) (by omega) hle (by omega)
     rw [this,← hr]
     simp only [mayB]
     cases h2 : kids (dec d (f0 == 7)) n r with
     | none => rfl
     | some y =>
      simp only [F.flat_app,List.length_append,Nat.add_assoc]
    ·rw [if_neg hle,if_pos (by decide)]
     congr 1
     simp only [mayB]
     cases h2 : kids (dec d (f0 == 7)) n r with
     | none => rfl
     | some y =>
      simp only [F.flat_app,List.length_append]
      rw [if_neg (by omega)]
theorem may_law (l : List S46) (hl : fit l = true) (hlen : l.length ≤ 1000000) : ∀ d,MayOk l d
 | d,deep,keyed,p,en,k,hdd,hp,hen,hk => by
  obtain ⟨k,rfl⟩ : ∃ k',k = k' + 4:=⟨k - 4,by omega⟩
  obtain ⟨x,r,hx⟩ : ∃ x r,l.drop p = x :: r:=⟨_,_,List.drop_eq_getElem_cons (show p < l.length by omega)⟩
  obtain ⟨e1,e2,e3,e4⟩:=rd_cast l p x r hx
  obtain ⟨s3,s4,hn2,hs0,hs1⟩:=fit_at hl e4
  rw [may_head l p en (k + 3) keyed deep x e1 hp e2 s3 (by omega)]
  match d,hdd with
  | 0,hdd =>
   rw [decide_eq_false (show ¬ (deep : Int) < 32 by omega),Bool.and_false,racewayref25_may.j0,if_pos (by decide)]
   rfl
  | d + 1,hdd =>
   have hdec : dec (d + 1) keyed (x :: r) = if okN x keyed then match kids (dec d (x.f0 == 7)) x.f2.toNat r with
    | none => none
    | some (ks,r') => if x.f1 = ((r.length - r'.length + 1 : Nat) : Int) then some (if x.f0 < 6 then .leaf x.f3.data.toList x.f0 x.f4.data.toList .nil else .node x.f3.data.toList x.f0 ks .nil,r') else none
    else none:=rfl
   rw [hx,decide_eq_true (show (deep : Int) < 32 by omega),Bool.and_true,hdec,ok_two]
   by_cases hh : okHead x keyed = true
   ·rw [hh,Bool.true_and]
    show racewayref25_may.j0 (k + 3) l (p : Int) (en : Int) (deep : Int) false x.f0 x.f1 x.f2 x.f3 x.f4 = _
    rw [may_tail l p en k deep x s4 (by omega)]
    by_cases ht : okTail x = true
    ·rw [if_pos ht,if_pos ht,w64v (by omega) (by omega),show ((p : Int) + 1) = ((p + 1 : Nat) : Int) by omega]
     have h0 : 0 ≤ x.f2:=by
      simp only [okHead,Bool.and_eq_true,decide_eq_true_eq] at hh
      omega
     rw [may_loop l hlen d (may_law l hl hlen d) deep hdd x.f0 x.f1 x.f2 x.f3 x.f4 p en hen hn2 x.f2.toNat (p + 1) 0 k (by omega) (by omega) (by omega) (by omega) (by omega),e3]
     congr 1
     cases hk2 : kids (dec d (x.f0 == 7)) x.f2.toNat r with
     | none => rfl
     | some y =>
      obtain ⟨ks,r'⟩:=y
      have h6:=(kids_ok (dec_ok d (x.f0 == 7)) _ _ _ _ hk2).1
      have h7:=congrArg List.length h6
      simp only [List.length_append] at h7
      simp only [mayB]
      by_cases hsz : x.f1 = ((r.length - r'.length + 1 : Nat) : Int)
      ·rw [if_pos hsz]
       have hfl:=(dec_ok (d + 1) keyed (x :: r) _ r' (by rw [hdec,ok_two,hh,ht,if_pos (by rfl),hk2];simp only;rw [if_pos hsz])).1
       have h8:=congrArg List.length hfl
       simp only [List.length_append,List.length_cons] at h8
       simp only [mayA]
       rw [if_pos (show x.f1 = ((p + 1 + ks.flat.length - p : Nat) : Int) by omega)]
       by_cases hle : p + 1 + ks.flat.length ≤ en
       ·rw [if_pos hle,if_pos (by omega)]
        congr 1
        omega
       ·rw [if_neg hle,if_neg (by omega)]
      ·rw [if_neg hsz,if_neg (show ¬ x.f1 = ((p + 1 + ks.flat.length - p : Nat) : Int) by omega)]
       split <;> rfl
    ·rw [if_neg ht,if_neg ht]
     rfl
   ·have hf : okHead x keyed = false:=by simpa using hh
    rw [hf,racewayref25_may.j0,if_pos (by decide)]
    rfl
theorem rCheck_law (l : List S46) (hl : fit l = true) (hlen : l.length ≤ 1000000) (k : Nat) (hk : 10 * l.length + 4000000 ≤ k) : racewayref25_Check.f k l = some (if (tree? l).isSome then 0 else 2):=by
 rw [racewayref25_Check.f]
 cases l with
 | nil => rfl
 | cons x r =>
  rw [if_neg (by simp only [List.length_cons];omega)]
  have hc : racewayref25_may.f k (x :: r) 0 (((x :: r).length : Nat) : Int) false 0 = some (mayA (dec 32 false ((x :: r).drop 0)) 0 (x :: r).length):=may_law (x :: r) hl hlen 32 0 false 0 (x :: r).length k rfl (by simp) (Nat.le_refl _) (by omega)
  rw [hc,List.drop_zero,Option.bind_some]
  cases hd : dec 32 false (x :: r) with
  | none =>
   have ht : tree? (x :: r) = none:=by unfold tree?;rw [hd]
   have e : mayA none 0 (x :: r).length = -1:=rfl
   rw [ht,e,if_neg (by omega)]
   rfl
  | some y =>
   obtain ⟨t,r'⟩:=y
   have hf:=congrArg List.length (dec_ok _ _ _ _ _ hd).1
   simp only [List.length_append] at hf
   have e : mayA (some (t,r')) 0 (x :: r).length = ((t.flat.length : Nat) : Int):=by
    show (if 0 + t.flat.length ≤ (x :: r).length then ((0 + t.flat.length : Nat) : Int) else -1) = _
    rw [if_pos (by omega),Nat.zero_add]
   rw [e]
   cases r' with
   | nil =>
    have ht : tree? (x :: r) = some t:=by unfold tree?;rw [hd]
    rw [ht,if_pos (by simp only [List.length_nil] at hf;omega)]
    rfl
   | cons a b =>
    have ht : tree? (x :: r) = none:=by unfold tree?;rw [hd]
    rw [ht,if_neg (by simp only [List.length_cons] at hf ⊢;omega)]
    rfl
end Go.Proofs.YtadfkeipcebmfaaDoor.Pure
namespace Go.Proofs.YtadfkeipcebmfaaDoor.X
open Go.RowKit Go.Proofs.YtadfkeipcebmfaaDoorW.PrintWords Go.Proofs.YtadfkeipcebmfaaDoorW.PrintLast Go.Proofs.YtadfkeipcebmfaaDoorW.PrintMore
attribute [local go_sem] max2_int min2_int max_two min_two max_three min_three max_four min_four
set_option linter.unusedVariables false
set_option linter.unusedSimpArgs false
end Go.Proofs.YtadfkeipcebmfaaDoor.X
namespace Go.Proofs.YtadfkeipcebmfaaDoor.Pure
open Go.RowKit Go.Proofs.YtadfkeipcebmfaaDoor.X Go.Proofs.YtadfkeipcebmfaaDoorW.PrintWords Go.Proofs.YtadfkeipcebmfaaDoorW.PrintMore
set_option linter.unusedVariables false
set_option linter.unusedSimpArgs false
theorem w64q {x : Int} (h0 : -9223372036854775808 ≤ x) (h1 : x ≤ 9223372036854775807) : wrap64 x = x:=by unfold wrap64;omega
theorem mn_lim (a b : Int) (ha : 0 ≤ a) (hb : 0 ≤ b) : 0 ≤ mn a b ∧ mn a b ≤ a ∧ mn a b ≤ b:=by
 unfold mn
 split <;> omega
def Few (l : List (S46)) : Prop:=l.length ≤ 120 ∧ ∀ x ∈ l,(x.f3.size ≤ 200 ∧ x.f4.size ≤ 200) ∧ x.f2 ≤ 9223372036854775807 ∧ -9223372036854775808 ≤ x.f1 ∧ x.f1 ≤ 9223372036854775807
theorem few_is (l : List (S46)) (hl : ∀ x ∈ l,(Lit.int .i64 x.f0).wf = true ∧ (Lit.int .i64 x.f1).wf = true ∧ (Lit.int .i64 x.f2).wf = true) (k : Nat) (hk : 200 ≤ k) : ∃ l',racewaylaw25_few.f k l = some l' ∧ Few l':=by
 have hr : ∀ n : Int,(Lit.int .i64 n).wf = true → -9223372036854775808 ≤ n ∧ n ≤ 9223372036854775807:=by
  intro n h
  simp [Lit.wf] at h
  simp [IntKind.min,IntKind.max,IntKind.signed,IntKind.bits] at h
  omega
 have : ∀ (d i k : Nat) (acc : List (S46)),i + d = 121 → d + 1 ≤ k → acc.length = i → Few acc → ∃ l',racewaylaw25_few.l0 k l acc (i : Int) = some l' ∧ Few l':=by
  intro d
  induction d with
  | zero =>
   intro i k acc hi hk ha hf
   have:=hf.1
   omega
  | succ d ih =>
   intro i k acc hi hk ha hf
   obtain ⟨k,rfl⟩ : ∃ k',k = k' + 1:=⟨k - 1,by omega⟩
   rw [racewaylaw25_few.l0]
   by_cases h1 : (i : Int) < (l.length : Int)
   ·rw [if_pos h1]
    by_cases h2 : (i : Int) < 120
    ·rw [if_pos h2,if_pos (by omega)]
     obtain ⟨x,r,hx⟩ : ∃ x r,l.drop i = x :: r:=⟨_,_,List.drop_eq_getElem_cons (show i < l.length by omega)⟩
     obtain ⟨e1,e2,e3,e4⟩:=rd_cast l i x r hx
     obtain ⟨w0,w1,w2⟩:=hl x e4
     obtain ⟨a1,a2,a3⟩:=mn_lim (x.f3.size : Int) 200 (by omega) (by omega)
     obtain ⟨b1,b2,b3⟩:=mn_lim (x.f4.size : Int) 200 (by omega) (by omega)
     rw [e1,if_pos a1,if_pos a2,if_pos b1,if_pos b2,if_pos (by omega),w64q (by omega) (by omega),show ((i : Int) + 1) = ((i + 1 : Nat) : Int) by omega]
     refine ih (i + 1) k _ (by omega) (by omega) (by simp [ha]) ⟨by simp;omega,fun y hy => ?_⟩
     simp only [List.mem_append,List.mem_singleton] at hy
     rcases hy with hy|rfl
     ·exact hf.2 y hy
     ·have:=hr _ w1
      have:=hr _ w2
      refine ⟨⟨?_,?_⟩,by simp only;omega,by simp only;omega,by simp only;omega⟩
      ·show (x.f3.extract 0 _).size ≤ 200
       rw [ByteArray.size_extract]
       omega
      ·show (x.f4.extract 0 _).size ≤ 200
       rw [ByteArray.size_extract]
       omega
    ·rw [if_neg h2]
     exact ⟨_,rfl,hf⟩
   ·rw [if_neg h1]
    exact ⟨_,rfl,hf⟩
 exact this 121 0 k [] (by omega) (by omega) rfl ⟨by simp,by simp⟩
theorem few_fit {l : List (S46)} (h : Few l) : fit l = true:=by
 unfold fit
 simp only [Bool.and_eq_true,decide_eq_true_eq,List.all_eq_true]
 refine ⟨by have:=h.1;omega,fun x hx => ?_⟩
 obtain ⟨⟨a,b⟩,c,d,e⟩:=h.2 x hx
 exact ⟨⟨⟨⟨by omega,by omega⟩,c⟩,d⟩,e⟩
end Go.Proofs.YtadfkeipcebmfaaDoor.Pure
namespace Go.Proofs.YtadfkeipcebmfaaDoor.Pure
open Go.RowKit Go.Proofs.YtadfkeipcebmfaaDoor.X Go.Proofs.YtadfkeipcebmfaaDoorW.PrintWords Go.Proofs.YtadfkeipcebmfaaDoorW.PrintMore
set_option linter.unusedVariables false
set_option linter.unusedSimpArgs false
theorem check_both (l : List (S46)) (hl : Few l) (k : Nat) (hk : 5000000 ≤ k) : (jsontext_Check.f k l = some 0 ∧ racewayref25_Check.f k l = some 0 ∧ l ≠ []) ∨ (jsontext_Check.f k l = some 2 ∧ racewayref25_Check.f k l = some 2):=by
 have hfit:=few_fit hl
 have hlen:=hl.1
 have hC:=Check_law l hfit k (by omega)
 have hR:=rCheck_law l hfit (by omega) k (by omega)
 cases ht : tree? l with
 | none =>
  rw [ht] at hC hR
  exact .inr ⟨hC,hR⟩
 | some t =>
  rw [ht] at hC hR
  refine .inl ⟨hC,hR,?_⟩
  rintro rfl
  unfold tree? at ht
  simp only [dec] at ht
  cases ht
theorem made_loop (kind : Int) (hkind : kind = 6 ∨ kind = 7) (K : List ByteArray) (hK : ∀ s ∈ K,s.size ≤ 100) (L : List (List (S46))) (hL : ∀ l ∈ L,Few l) (hLl : L.length ≤ 10) (hKL : kind = 7 → K.length = L.length) :
  ∀ (n i : Nat) (acc : List (S46)) (k1 k2 : Nat),i + n = L.length → acc ≠ [] → acc.length ≤ 10000 + 200 * i → 5000100 + 2 * n ≤ k1 → 5000100 + 2 * n ≤ k2 → ∃ R,R.length ≤ 20000 ∧ jsontext_made.l0 k1 kind K acc L (L.length : Int) (i : Int) = some R ∧ racewayref25_Made.l0 k2 kind K L acc (i : Int) = some R
 | 0,i,acc,k1,k2,hi,ha,hal,hk1,hk2 => by
  obtain ⟨k1,rfl⟩ : ∃ k',k1 = k' + 1:=⟨k1 - 1,by omega⟩
  obtain ⟨k2,rfl⟩ : ∃ k',k2 = k' + 1:=⟨k2 - 1,by omega⟩
  have hp : 0 < (acc.length : Int):=by
   have:=List.length_pos_iff.mpr ha
   omega
  refine ⟨acc.set (0 : Int).toNat (⟨(rd_T46 acc 0).f0,(acc.length : Int),(rd_T46 acc 0).f2,(rd_T46 acc 0).f3,(rd_T46 acc 0).f4⟩ : S46),by rw [List.length_set];omega,?_,?_⟩
  ·rw [jsontext_made.l0,if_neg (by omega),if_pos hp]
  ·rw [racewayref25_Made.l0,if_neg (by omega),if_pos hp]
 | n + 1,i,acc,k1,k2,hi,ha,hal,hk1,hk2 => by
  obtain ⟨k1,rfl⟩ : ∃ k',k1 = k' + 1:=⟨k1 - 1,by omega⟩
  obtain ⟨k2,rfl⟩ : ∃ k',k2 = k' + 2:=⟨k2 - 2,by omega⟩
  have g1 : (i : Int) < (L.length : Int):=by omega
  have g2 : (0 : Int) ≤ (i : Int):=by omega
  obtain ⟨T,hT⟩ : ∃ T,T = rd_L3 L (i : Int):=⟨_,rfl⟩
  have hTm : T ∈ L:=by
   rw [hT]
   unfold rd_L3
   rw [Int.toNat_natCast,List.getD_eq_getElem?_getD,List.getElem?_eq_getElem (show i < L.length by omega)]
   exact List.getElem_mem _
  have hTf:=hL T hTm
  have hTl:=hTf.1
  have hw : wrap64 ((i : Int) + 1) = ((i + 1 : Nat) : Int):=by rw [w64q (by omega) (by omega)];omega
  have g3 : acc.length + T.length < 2513169434916:=by omega
  rcases check_both T hTf k1 (by omega) with ⟨c1,_,c3⟩|⟨c1,_⟩
  ·rcases check_both T hTf (k2 + 1) (by omega) with ⟨_,c2,_⟩|⟨_,c2⟩
   ·have hTp:=List.length_pos_iff.mpr c3
    rcases hkind with rfl|rfl
    ·obtain ⟨R,r0,r1,r2⟩:=made_loop 6 (.inl rfl) K hK L hL hLl hKL n (i + 1) (acc ++ T) k1 k2 (by omega) (by simp [ha]) (by rw [List.length_append];omega) (by omega) (by omega)
     refine ⟨R,r0,?_,?_⟩
     ·rw [jsontext_made.l0,if_pos g1,if_pos g2,if_pos g1,← hT,c1,Option.bind_some,if_pos rfl,if_pos g3,Option.bind_some,if_neg (by decide),hw]
      exact r1
     ·rw [racewayref25_Made.l0,if_pos g1,if_pos g2,← hT,c2,Option.bind_some,if_pos rfl,if_neg (by decide),racewayref25_Made.j2,if_neg (by decide),if_pos g2,if_pos g1,← hT,if_pos g3,Option.bind_some,if_neg (by decide),hw]
      exact r2
    ·have hKl:=hKL rfl
     have g4 : (i : Int) < (K.length : Int):=by omega
     obtain ⟨s,hs⟩ : ∃ s,s = rdOf ByteArray.empty K (i : Int):=⟨_,rfl⟩
     have hsm : s.size ≤ 100:=by
      apply hK
      rw [hs]
      unfold rdOf
      rw [Int.toNat_natCast,List.getD_eq_getElem?_getD,List.getElem?_eq_getElem (show i < K.length by omega)]
      exact List.getElem_mem _
     have v1 : utf8_ValidString.f s = some (Lib.validD s.data.toList):=by rw [utf8_ValidString.f,if_pos (by omega)]
     have v2:=valid_is s (by omega) (k2 + 1) (by omega)
     by_cases hv : Lib.validD s.data.toList = true
     ·rw [hv] at v1 v2
      have g5 : (0 : Int) ≤ (acc.length : Int):=by omega
      have g6 : (acc.length : Int) < ((acc ++ T).length : Int):=by rw [List.length_append];omega
      obtain ⟨Q,hQ⟩ : ∃ Q,Q = (acc ++ T).set ((acc.length : Int) : Int).toNat (⟨(rd_T46 (acc ++ T) (acc.length : Int)).f0,(rd_T46 (acc ++ T) (acc.length : Int)).f1,(rd_T46 (acc ++ T) (acc.length : Int)).f2,s,(rd_T46 (acc ++ T) (acc.length : Int)).f4⟩ : S46):=⟨_,rfl⟩
      have hQl : Q.length = acc.length + T.length:=by rw [hQ,List.length_set,List.length_append]
      have hQn : Q ≠ []:=by
       intro h
       rw [h] at hQl
       simp only [List.length_nil] at hQl
       omega
      obtain ⟨R,r0,r1,r2⟩:=made_loop 7 (.inr rfl) K hK L hL hLl hKL n (i + 1) Q k1 k2 (by omega) hQn (by omega) (by omega) (by omega)
      refine ⟨R,r0,?_,?_⟩
      ·rw [jsontext_made.l0,if_pos g1,if_pos g2,if_pos g1,← hT,c1,Option.bind_some,if_pos rfl,if_pos g3,Option.bind_some,if_pos rfl,if_pos g4,← hs,v1,Option.bind_some,if_pos rfl,if_pos g5,if_pos g6,← hQ,hw]
       exact r1
      ·rw [racewayref25_Made.l0,if_pos g1,if_pos g2,← hT,c2,Option.bind_some,if_pos rfl,if_pos rfl,if_pos g4,← hs,v2,Option.bind_some,racewayref25_Made.j2,if_neg (by decide),if_pos g2,if_pos g1,← hT,if_pos g3,Option.bind_some,if_pos rfl,if_pos g4,if_pos g5,if_pos g6,← hs,← hQ,hw]
       exact r2
     ·have hv' : Lib.validD s.data.toList = false:=by simpa using hv
      rw [hv'] at v1 v2
      refine ⟨[],by simp,?_,?_⟩
      ·rw [jsontext_made.l0,if_pos g1,if_pos g2,if_pos g1,← hT,c1,Option.bind_some,if_pos rfl,if_pos g3,Option.bind_some,if_pos rfl,if_pos g4,← hs,v1,Option.bind_some,if_neg (by decide)]
      ·rw [racewayref25_Made.l0,if_pos g1,if_pos g2,← hT,c2,Option.bind_some,if_pos rfl,if_pos rfl,if_pos g4,← hs,v2,Option.bind_some,racewayref25_Made.j2,if_pos (by decide)]
   ·exfalso
    rcases check_both T hTf (max k1 (k2 + 1)) (by omega) with ⟨d1,d2,_⟩|⟨d1,d2⟩
    ·have hfit:=few_fit hTf
     have h1:=rCheck_law T hfit (by omega) (k2 + 1) (by omega)
     have h2:=rCheck_law T hfit (by omega) (max k1 (k2 + 1)) (by omega)
     rw [← h2,d2] at h1
     rw [h1] at c2
     cases c2
    ·have hfit:=few_fit hTf
     have h1:=Check_law T hfit k1 (by omega)
     have h2:=Check_law T hfit (max k1 (k2 + 1)) (by omega)
     rw [← h2,d1] at h1
     rw [h1] at c1
     cases c1
  ·have c2 : racewayref25_Check.f (k2 + 1) T = some 2:=by
    have hfit:=few_fit hTf
    have h1:=Check_law T hfit k1 (by omega)
    have h2:=rCheck_law T hfit (by omega) (k2 + 1) (by omega)
    rw [h2,← h1,c1]
   refine ⟨[],by simp,?_,?_⟩
   ·rw [jsontext_made.l0,if_pos g1,if_pos g2,if_pos g1,← hT,c1,Option.bind_some,if_neg (by decide)]
   ·rw [racewayref25_Made.l0,if_pos g1,if_pos g2,← hT,c2,Option.bind_some,if_neg (by decide),racewayref25_Made.j2,if_pos rfl]
theorem list_both (a b : List (S46)) (ha : Few a) (hb : Few b) (k : Nat) (hk : 5001000 ≤ k) : ∃ R,R.length ≤ 20000 ∧ jsontext_List.f k [a,b] = some R ∧ racewayref25_Made.f k 6 [] [a,b] = some R:=by
 obtain ⟨k,rfl⟩ : ∃ k',k = k' + 1:=⟨k - 1,by omega⟩
 obtain ⟨R,r0,r1,r2⟩:=made_loop 6 (.inl rfl) [] (by simp) [a,b] (by simp [ha,hb]) (by simp) (by simp) 2 0 [(⟨6,0,2,⟨#[]⟩,⟨#[]⟩⟩ : S46)] (k + 1) k (by simp) (by simp) (by simp) (by omega) (by omega)
 refine ⟨R,r0,?_,?_⟩
 ·have h : jsontext_made.f (k + 1) 6 [] [a,b] = some R:=r1
  rw [jsontext_List.f,h]
  rfl
 ·rw [racewayref25_Made.f,if_neg (by decide),racewayref25_Made.j0,if_neg (by decide)]
  exact r2
theorem object_both (K : List ByteArray) (hK : ∀ s ∈ K,s.size ≤ 100) (a b : List (S46)) (ha : Few a) (hb : Few b) (k : Nat) (hk : 5001000 ≤ k) : ∃ R,R.length ≤ 20000 ∧ jsontext_Object.f k K [a,b] = some R ∧ racewayref25_Made.f k 7 K [a,b] = some R:=by
 obtain ⟨k,rfl⟩ : ∃ k',k = k' + 1:=⟨k - 1,by omega⟩
 by_cases hl : (K.length : Int) = (([a,b] : List (List (S46))).length : Int)
 ·have hl2 : K.length = ([a,b] : List (List (S46))).length:=by omega
  obtain ⟨R,r0,r1,r2⟩:=made_loop 7 (.inr rfl) K hK [a,b] (by simp [ha,hb]) (by simp) (fun _ => hl2) 2 0 [(⟨7,0,2,⟨#[]⟩,⟨#[]⟩⟩ : S46)] (k + 1) k (by simp) (by simp) (by simp) (by omega) (by omega)
  refine ⟨R,r0,?_,?_⟩
  ·have h : jsontext_made.f (k + 1) 7 K [a,b] = some R:=r1
   rw [jsontext_Object.f,if_pos hl,h]
   rfl
  ·rw [racewayref25_Made.f,if_pos rfl,racewayref25_Made.j0,if_neg (by rw [bne_eq_false_iff_eq.mpr hl];decide)]
   exact r2
 ·refine ⟨[],by simp,?_,?_⟩
  ·rw [jsontext_Object.f,if_neg hl]
  ·rw [racewayref25_Made.f,if_pos rfl,racewayref25_Made.j0,if_pos (bne_iff_ne.mpr hl)]
theorem l1_true (a : List (S46)) (ha : Few a) : ∀ (n i k : Nat),i + n = a.length → 5001000 + 3 * n ≤ k → racewaylaw25_JsontextMakes.l1 k a (a.length : Int) (i : Int) = some true
 | 0,i,k,hi,hk => by
  obtain ⟨k,rfl⟩ : ∃ k',k = k' + 1:=⟨k - 1,by omega⟩
  rw [racewaylaw25_JsontextMakes.l1,if_neg (by omega),works_true]
  rfl
 | n + 1,i,k,hi,hk => by
  obtain ⟨k,rfl⟩ : ∃ k',k = k' + 2:=⟨k - 2,by omega⟩
  have hal:=ha.1
  have ih:=l1_true a ha n (i + 1) k (by omega) (by omega)
  obtain ⟨x,r,hx⟩ : ∃ x r,a.drop i = x :: r:=⟨_,_,List.drop_eq_getElem_cons (show i < a.length by omega)⟩
  obtain ⟨e1,e2,e3,e4⟩:=rd_cast a i x r hx
  obtain ⟨⟨s3,s4⟩,_⟩:=ha.2 x e4
  have hw : wrap64 ((i : Int) + 1) = ((i + 1 : Nat) : Int):=by rw [w64q (by omega) (by omega)];omega
  have hfew : Few [(⟨x.f0,1,0,(⟨#[]⟩ : ByteArray),x.f4⟩ : S46)]:=by
   refine ⟨by simp,fun y hy => ?_⟩
   simp only [List.mem_singleton] at hy
   subst hy
   exact ⟨⟨show (0 : Nat) ≤ 200 by decide,s4⟩,show (0 : Int) ≤ 9223372036854775807 by decide,show (-9223372036854775808 : Int) ≤ 1 by decide,show (1 : Int) ≤ 9223372036854775807 by decide⟩
  rw [racewaylaw25_JsontextMakes.l1,if_pos (by omega),if_pos (by omega),if_pos (by omega),e1,jsontext_Leaf.f,Option.bind_some]
  by_cases h6 : x.f0 ≥ 6
  ·rw [if_pos h6,Option.bind_some,Option.bind_some,if_pos h6,racewaylaw25_JsontextMakes.j4,if_pos rfl,same_self [] (by simp) k (by simp;omega),Option.bind_some,if_pos rfl,hw]
   exact ih
  ·rw [if_neg h6]
   rcases check_both _ hfew (k + 1) (by omega) with ⟨c1,c2,_⟩|⟨c1,c2⟩
   ·rw [c1,Option.bind_some,if_pos rfl,Option.bind_some,Option.bind_some,if_neg h6,c2,Option.bind_some,racewaylaw25_JsontextMakes.j4,if_neg (by decide),same_self _ (by simp) k (by simp;omega),Option.bind_some,if_pos rfl,hw]
    exact ih
   ·rw [c1,Option.bind_some,if_neg (by decide),Option.bind_some,Option.bind_some,if_neg h6,c2,Option.bind_some,racewaylaw25_JsontextMakes.j4,if_pos (by decide),same_self [] (by simp) k (by simp;omega),Option.bind_some,if_pos rfl,hw]
    exact ih
theorem j1_true (a b : List (S46)) (ha : Few a) (hb : Few b) (K : List ByteArray) (hK : ∀ s ∈ K,s.size ≤ 100) (k : Nat) (hk : 5002000 ≤ k) : racewaylaw25_JsontextMakes.j1 k a b K = some true:=by
 obtain ⟨k,rfl⟩ : ∃ k',k = k' + 2:=⟨k - 2,by omega⟩
 have hal:=ha.1
 obtain ⟨R,r0,r1,r2⟩:=list_both a b ha hb (k + 1) (by omega)
 obtain ⟨Q,q0,q1,q2⟩:=object_both K hK a b ha hb (k + 1) (by omega)
 rw [racewaylaw25_JsontextMakes.j1,r1,Option.bind_some,r2,Option.bind_some,same_self R (by omega) (k + 1) (by omega),Option.bind_some,if_pos rfl,q1,Option.bind_some,q2,Option.bind_some,same_self Q (by omega) (k + 1) (by omega),Option.bind_some,racewaylaw25_JsontextMakes.j2,if_neg (by decide)]
 exact l1_true a ha a.length 0 k (by omega) (by omega)
theorem l0_true (a b : List (S46)) (ha : Few a) (hb : Few b) (keys : List ByteArray) : ∀ (n i : Nat) (K : List ByteArray) (k : Nat),i + n = 4 → K.length ≤ i → (∀ s ∈ K,s.size ≤ 100) → 5003000 + n ≤ k → racewaylaw25_JsontextMakes.l0 k a b keys K (i : Int) = some true
 | n,i,K,0,hi,hKl,hK,hk => by omega
 | n,i,K,k + 1,hi,hKl,hK,hk => by
  rw [racewaylaw25_JsontextMakes.l0]
  by_cases h1 : (i : Int) < (keys.length : Int)
  ·rw [if_pos h1]
   by_cases h3 : (i : Int) < 3
   ·rw [if_pos h3,if_pos (by omega)]
    obtain ⟨n,rfl⟩ : ∃ m,n = m + 1:=⟨n - 1,by omega⟩
    generalize rdOf ByteArray.empty keys (i : Int) = s
    obtain ⟨m0,m1,m2⟩:=mn_lim (s.size : Int) 100 (by omega) (by omega)
    rw [if_pos m0,if_pos m1,if_pos (by omega),w64q (by omega) (by omega),show ((i : Int) + 1) = ((i + 1 : Nat) : Int) by omega]
    refine l0_true a b ha hb keys n (i + 1) _ k (by omega) (by simp;omega) (fun t ht => ?_) (by omega)
    simp only [List.mem_append,List.mem_singleton] at ht
    rcases ht with ht|rfl
    ·exact hK t ht
    ·rw [ByteArray.size_extract]
     omega
   ·rw [if_neg h3]
    exact j1_true a b ha hb K hK k (by omega)
  ·rw [if_neg h1]
   exact j1_true a b ha hb K hK k (by omega)
theorem JsontextMakes (l0 l1 : List (S46)) (l2 : List ByteArray) (hm0 : l0.length ≤ maxLen ∧ ∀ x ∈ l0,(Lit.int .i64 x.f0).wf = true ∧ (Lit.int .i64 x.f1).wf = true ∧ (Lit.int .i64 x.f2).wf = true) (hm1 : l1.length ≤ maxLen ∧ ∀ x ∈ l1,(Lit.int .i64 x.f0).wf = true ∧ (Lit.int .i64 x.f1).wf = true ∧ (Lit.int .i64 x.f2).wf = true) (hm2 : l2.length ≤ maxLen) : ∃ k,racewaylaw25_JsontextMakes.f k l0 l1 l2 = some true:=by
 refine ⟨6000000,?_⟩
 obtain ⟨a,ha,hfa⟩:=few_is l0 hm0.2 6000000 (by omega)
 obtain ⟨b,hb,hfb⟩:=few_is l1 hm1.2 6000000 (by omega)
 unfold racewaylaw25_JsontextMakes.f
 rw [ha,Option.bind_some,hb,Option.bind_some]
 exact l0_true a b hfa hfb l2 4 0 [] 6000000 rfl (by simp) (by simp) (by omega)
end Go.Proofs.YtadfkeipcebmfaaDoor.Pure
namespace Go.Proofs.YtadfkeipcebmfaaDoor.X
open Go.RowKit Go.Proofs.YtadfkeipcebmfaaDoorW.PrintWords Go.Proofs.YtadfkeipcebmfaaDoorW.PrintLast Go.Proofs.YtadfkeipcebmfaaDoorW.PrintMore
open Go.Deep Go.ChangeShapes Go.WideShapes
set_option linter.unusedVariables false
set_option linter.unusedSimpArgs false
theorem cells9 : Tryd.prog.cellsOf 9 = 1:=by kernel_rfl
theorem cells46 : Tryd.prog.cellsOf 46 = 5:=by kernel_rfl
theorem cells3 : Tryd.prog.cellsOf 3 = 1:=by kernel_rfl
instance : Inhabited (S46):=⟨z46⟩
set_option maxRecDepth 100000 in
theorem open_nodes {H : Type} {enc : TypeId × Value → H} {W : World} {A : Option Addr} {len cap : Nat} {d : DataW H} {p : List MemPlace} (h : DataW.Trod enc Tryd.prog W 0 (fun _ => true) true 22 (.slice A len cap) d p) :
  ∃ l : List (S46),l.length = len ∧ Kd.C k46 W A l.length l ∧ l.length ≤ cap ∧ (l.length ≤ maxLen ∧ ∀ x ∈ l,(Lit.int .i64 x.f0).wf = true ∧ (Lit.int .i64 x.f1).wf = true ∧ (Lit.int .i64 x.f2).wf = true):=by
 obtain ⟨fuel,hf⟩:=h
 rcases open_slice Tryd.underlying22 hf with ⟨hcs,_⟩|⟨a,l,c,m,n,D,Pl,hcs,_,hl,hm,hmm,_,hx⟩
 ·simp [Value.cells] at hcs
  obtain ⟨rfl,rfl,rfl⟩:=hcs
  exact ⟨[],rfl,⟨rfl,by simp,fun h => absurd h (by simp)⟩,Nat.le_refl _,Nat.zero_le _,by simp⟩
 ·simp [Value.cells] at hcs
  obtain ⟨rfl,rfl,rfl⟩:=hcs
  simp only [if_true] at hmm
  have each : ∀ i,i < len → ∃ x : S46,(W.cell? (a.add (i * 5)) = some (.int .i64 x.f0) ∧ W.cell? (a.add (i * 5 + 1)) = some (.int .i64 x.f1) ∧ W.cell? (a.add (i * 5 + 2)) = some (.int .i64 x.f2) ∧ W.cell? (a.add (i * 5 + 3)) = some (.string x.f3) ∧ W.cell? (a.add (i * 5 + 4)) = some (.string x.f4)) ∧ ((Lit.int .i64 x.f0).wf = true ∧ (Lit.int .i64 x.f1).wf = true ∧ (Lit.int .i64 x.f2).wf = true):=by
   intro i hi
   obtain ⟨cs',h1,h2⟩:=hx i (by omega)
   rw [cells46] at h1
   obtain ⟨_,hlen,hcell⟩:=World.cells?_some h1
   obtain ⟨xs,k,hk,hxy,_,hxl,hf⟩:=DataW.trod_struct Tryd.underlying46 h2
   match xs,hxl,cs',hlen with
   | [y0,y1,y2,y3,y4],_,[v0,v1,v2,v3,v4],_ =>
    have g0:=hf 0 _ rfl
    have g1:=hf 1 _ rfl
    have g2:=hf 2 _ rfl
    have g3:=hf 3 _ rfl
    have g4:=hf 4 _ rfl
    simp [cells9,cells3] at g0 g1 g2 g3 g4
    obtain ⟨n0,e0,_,w0⟩:=DataW.trod_int Tryd.underlying3 g0
    obtain ⟨n1,e1,_,w1⟩:=DataW.trod_int Tryd.underlying3 g1
    obtain ⟨n2,e2,_,w2⟩:=DataW.trod_int Tryd.underlying3 g2
    obtain ⟨s3,e3,_,_⟩:=DataW.trod_string Tryd.underlying9 g3
    obtain ⟨s4,e4,_,_⟩:=DataW.trod_string Tryd.underlying9 g4
    have c0:=hcell 0 (by omega)
    have c1:=hcell 1 (by omega)
    have c2:=hcell 2 (by omega)
    have c3:=hcell 3 (by omega)
    have c4:=hcell 4 (by omega)
    rw [Go.Deep.add_add] at c0 c1 c2 c3 c4
    simp at e0 e1 e2 e3 e4 c0 c1 c2 c3 c4
    subst e0 e1 e2 e3 e4
    exact ⟨⟨n0,n1,n2,s3,s4⟩,⟨c0,c1,c2,c3,c4⟩,w0,w1,w2⟩
  obtain ⟨q,hq⟩:=choose_lt each
  have hlen : ((List.range len).map q).length = len:=by simp
  refine ⟨(List.range len).map q,hlen,⟨rfl,?_,fun _ => ⟨a,rfl,fun j x hj => ?_⟩⟩,by omega,by omega,fun x hx2 => ?_⟩
  ·rw [hlen];have : cap ≤ maxLen:=hm;unfold maxLen at this;omega
  ·have hjl : j < len:=by
    have:=(List.getElem?_eq_some_iff.1 hj).1
    simpa using this
   have hx : q j = x:=by
    rw [List.getElem?_map,List.getElem?_range hjl] at hj
    simpa using hj
   subst hx
   obtain ⟨⟨c0,c1,c2,c3,c4⟩,_⟩:=hq j hjl
   refine ⟨[.int .i64 (q j).f0,.int .i64 (q j).f1,.int .i64 (q j).f2,.string (q j).f3,.string (q j).f4],rfl,k46_mk W (q j),fun i u hu => ?_⟩
   match i,hu with
   | 0,hu => simp at hu;subst hu;exact c0
   | 1,hu => simp at hu;subst hu;exact c1
   | 2,hu => simp at hu;subst hu;exact c2
   | 3,hu => simp at hu;subst hu;exact c3
   | 4,hu => simp at hu;subst hu;exact c4
  ·simp only [List.mem_map,List.mem_range] at hx2
   obtain ⟨j,hj,rfl⟩:=hx2
   exact (hq j hj).2
theorem open_texts {H : Type} {enc : TypeId × Value → H} {W : World} {A : Option Addr} {len cap : Nat} {d : DataW H} {p : List MemPlace} (h : DataW.Trod enc Tryd.prog W 0 (fun _ => true) true 41 (.slice A len cap) d p) :
  ∃ l : List ByteArray,l.length = len ∧ Kd.C Kd.string W A l.length l ∧ l.length ≤ cap ∧ l.length ≤ maxLen:=by
 obtain ⟨fuel,hf⟩:=h
 rcases open_strings Tryd.underlying41 Tryd.underlying9 cells9 hf with ⟨hcs,_⟩|⟨a,l,c,ss,hcs,_,hl,hm,hmm,_,hx,_⟩
 ·simp [Value.cells] at hcs
  obtain ⟨rfl,rfl,rfl⟩:=hcs
  exact ⟨[],rfl,⟨rfl,by simp,fun h => absurd h (by simp)⟩,Nat.le_refl _,Nat.zero_le _⟩
 ·simp [Value.cells] at hcs
  obtain ⟨rfl,rfl,rfl⟩:=hcs
  simp only [if_true] at hmm
  have hlen : (ss.take len).length = len:=by simp;omega
  refine ⟨ss.take len,hlen,⟨rfl,?_,fun _ => ⟨a,rfl,fun j x hj => ?_⟩⟩,by omega,by omega⟩
  ·rw [hlen];have : cap ≤ maxLen:=hm;unfold maxLen at this;omega
  ·have hjl : j < len:=by
    have:=(List.getElem?_eq_some_iff.1 hj).1
    omega
   have hx2 : ss.getD j ByteArray.empty = x:=by
    rw [List.getElem?_take_of_lt hjl] at hj
    simp [List.getD,hj]
   have:=hx j (by omega)
   rw [hx2] at this
   refine ⟨[.string x],rfl,rfl,fun i u hu => ?_⟩
   match i,hu with
   | 0,hu => simp at hu;subst hu;rw [show j * Kd.string.sz + 0 = j by show j * 1 + 0 = j;omega];exact this
end Go.Proofs.YtadfkeipcebmfaaDoor.X
