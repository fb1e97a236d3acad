/-
  What the claim's law rests on, part 8 of 8: printed walks, externals, plain lemmas; conditions: none of its own.
-/
import Derived.Test.YtadfkeipcebmfaaDoorCp7
namespace Go.Proofs.YtadfkeipcebmfaaDoor.Pure
open Go.Proofs.YtadfkeipcebmfaaDoor.X Go.RowKit Go.Proofs.YtadfkeipcebmfaaDoorW.PrintWords Go.Proofs.YtadfkeipcebmfaaDoorW.PrintMore
set_option linter.unusedVariables false
set_option linter.unusedSimpArgs false
theorem ieq (c n : UInt8) : ((c.toNat : Int) = (n.toNat : Int)) ↔ c = n:=⟨fun h => UInt8.toNat_inj.mp (by omega),fun h => by rw [h]⟩
def VR (s : ByteArray) : Rs F → Option (Int × Int × List S46 × ByteArray) → Prop
 | .ok r f,o => At s (s.size - r.length) r ∧ ∃ S,o = some (((s.size - r.length : Nat) : Int),0,f.flat,S)
 | .bad r e,o => e ≠ 0 ∧ ∃ T S,o = some (((s.size - r.length : Nat) : Int),e,T,S)
theorem many_key (v : Bs → Bs → Rs F) (ob : Bool) (key r : Bs) : many v ob key r = (many v ob [] r).map (F.setKey key):=by
 rw [many_eq,many_eq]
 cases manyS v ob r <;> rfl
theorem value_key : ∀ (d : Nat) (key l : Bs),value d key l = (value d [] l).map (F.setKey key)
 | 0,key,[] => rfl
 | 0,key,c :: l => by
  simp only [value]
  split <;> rfl
 | d + 1,key,[] => rfl
 | d + 1,key,c :: l => by
  simp only [value]
  split
  ·rfl
  ·split
   ·exact many_key _ _ _ _
   ·split
    ·exact many_key _ _ _ _
    ·split
     ·cases text (c :: l) <;> rfl
     ·split
      ·cases word [116,114,117,101] (c :: l) <;> rfl
      ·split
       ·cases word [102,97,108,115,101] (c :: l) <;> rfl
       ·split
        ·cases word [110,117,108,108] (c :: l) <;> rfl
        ·cases number (c :: l) <;> rfl
theorem flat_setKey (t : F) (k : Bs) (x : S46) (rest : List S46) (h : t.flat = x :: rest) : (t.setKey k).flat = ⟨x.f0,x.f1,x.f2,str k,x.f4⟩ :: rest ∧ (t.setKey k).count = t.count:=by
 match t,h with
 | .nil,h => cases h
 | .leaf k' d t' r,h =>
  simp only [F.flat,List.cons.injEq] at h
  obtain ⟨rfl,rfl⟩:=h
  exact ⟨rfl,rfl⟩
 | .node k' d ks r,h =>
  simp only [F.flat,List.cons.injEq] at h
  obtain ⟨rfl,rfl⟩:=h
  exact ⟨rfl,rfl⟩
def hdr (kind : Int) (f : F) : S46:=⟨kind,((f.flat.length + 1 : Nat) : Int),((f.count : Nat) : Int),⟨#[]⟩,⟨#[]⟩⟩
theorem node_flat (kind : Int) (f : F) : (F.node [] kind f .nil).flat = hdr kind f :: f.flat:=by
 show _ :: (f.flat ++ []) = _
 rw [List.append_nil]
 rfl
theorem chars_drop : ∀ (n : Nat) (l acc r t : Bs),chars n l acc = .ok r t → ∃ j,l.drop j = r
 | 0,l,acc,r,t,h => by cases h
 | n + 1,[],acc,r,t,h => by cases h
 | n + 1,c :: l,acc,r,t,h => by
  simp only [chars] at h
  split at h
  ·injection h with h _
   exact ⟨1,h⟩
  ·split at h
   ·cases h
   ·split at h
    ·split at h
     ·rename_i r' t' he
      obtain ⟨j,hj,_⟩:=escape_drop he
      obtain ⟨i,hi⟩:=chars_drop n _ _ _ _ h
      exact ⟨j + i,by rw [← List.drop_drop,hj,hi]⟩
     ·cases h
    ·split at h
     ·cases h
     ·obtain ⟨i,hi⟩:=chars_drop n _ _ _ _ h
      exact ⟨_,by rw [List.drop_drop] at hi;exact hi⟩
theorem text_drop {l r t : Bs} (h : text l = .ok r t) : ∃ j,l.drop j = r:=by
 unfold text at h
 split at h
 ·split at h
  ·obtain ⟨i,hi⟩:=chars_drop _ _ _ _ _ h
   exact ⟨i + 1,hi⟩
  ·cases h
 ·cases h
theorem word_drop : ∀ (w l r : Bs) (u : Unit),word w l = .ok r u → ∃ j,l.drop j = r
 | [],l,r,u,h => by
  injection h with h _
  exact ⟨0,h⟩
 | c :: w,[],r,u,h => by cases h
 | c :: w,d :: l,r,u,h => by
  simp only [word] at h
  split at h
  ·obtain ⟨j,hj⟩:=word_drop w l r u h
   exact ⟨j + 1,hj⟩
  ·cases h
theorem _root_.Go.Proofs.YtadfkeipcebmfaaDoor.X.At.dropped {s : ByteArray} {p j : Nat} {l r : Bs} (ha : At s p l) (h : l.drop j = r) : At s (s.size - r.length) r:=by
 by_cases hjl : j ≤ l.length
 ·have h2:=ha.add j hjl
  rw [h] at h2
  rw [← h2.pos]
  exact h2
 ·have h2:=ha.add l.length (Nat.le_refl _)
  have e : l.drop l.length = r:=by rw [← h,List.drop_length,List.drop_eq_nil_of_le (by omega)]
  rw [e] at h2
  rw [← h2.pos]
  exact h2
theorem text_five {l r : Bs} {e : Int} (h : text l = .bad r e) : e ≠ 0:=by
 have:=text_e l r e h
 omega
section
variable [RefVal]
theorem j2_R (s : ByteArray) (hs : s.size ≤ 1000000) (deep : Nat) (hd : deep ≤ 100) (vv : Bs → Rs F) (close : UInt8) (kind : Int) (key l : Bs) (p k : Nat) (acc : F) (hcount : acc.count ≤ acc.flat.length) (hacc : acc.flat.length ≤ 4000000)
  (hv : VR s (vv l) (RefVal.f k s (p : Int) ((deep + 1 : Nat) : Int))) (hone : ∀ r t,vv l = .ok r t → t.count = 1 ∧ t.flat.length + r.length ≤ l.length) (ha : At s p l) (hk : l.length + 10 ≤ k) (R : Rs F)
  (hbad : ∀ r e,vv l = .bad r e → R = .bad r e)
  (hok : ∀ l2 t,vv l = .ok l2 t → isC close (blanks l2) = true → R = .ok ((blanks l2).drop 1) (.node [] kind (acc.app (t.setKey key)) .nil))
  (hno : ∀ l2 t,vv l = .ok l2 t → isC close (blanks l2) = false → isC 44 (blanks l2) = false → R = .bad (blanks l2) 5)
  (hnext : ∀ l2 t,vv l = .ok l2 t → isC close (blanks l2) = false → isC 44 (blanks l2) = true → VR s R (rmany.l0 k s ((s.size - (blanks ((blanks l2).drop 1)).length : Nat) : Int) (deep : Int) (close.toNat : Int) (hdr kind (acc.app (t.setKey key)) :: (acc.app (t.setKey key)).flat))) :
  VR s R (rmany.j2 (k + 1) s (p : Int) (deep : Int) (close.toNat : Int) (hdr kind acc :: acc.flat) (str key)):=by
 have hle:=ha.le
 have hlen:=ha.len
 rw [rmany.j2,w64v (x:=(deep : Int) + 1) (by omega) (by omega),show ((deep : Int) + 1) = ((deep + 1 : Nat) : Int) by omega]
 cases hvl : vv l with
 | bad r e =>
  rw [hvl] at hv
  obtain ⟨he,T,S,hv⟩:=hv
  rw [hv,hbad r e hvl,Option.bind_some,if_neg (show ¬ e = 0 from he)]
  exact ⟨he,T,S,rfl⟩
 | ok l2 t =>
  obtain ⟨o1,o2⟩:=hone _ _ hvl
  rw [hvl] at hv
  obtain ⟨ha2,S,hv⟩:=hv
  rw [hv,Option.bind_some]
  obtain ⟨x,rest,hx⟩ : ∃ x rest,t.flat = x :: rest:=by
   match t,o1 with
   | .nil,h => cases h
   | .leaf _ _ _ _,_ => exact ⟨_,_,rfl⟩
   | .node _ _ _ _,_ => exact ⟨_,_,rfl⟩
  obtain ⟨k1,k2⟩:=flat_setKey t key x rest hx
  have hlt : t.flat.length = rest.length + 1:=by rw [hx];rfl
  show VR s R (if (0 : Int) = 0 then (if 0 < (t.flat.length : Int) then ((some (t.flat.set (0 : Int).toNat (⟨(rd_T46 t.flat 0).f0,(rd_T46 t.flat 0).f1,(rd_T46 t.flat 0).f2,str key,(rd_T46 t.flat 0).f4⟩ : S46))).bind fun y203 => _) else none) else _)
  rw [if_pos rfl,if_pos (by omega)]
  have e1 : t.flat.set (0 : Int).toNat (⟨(rd_T46 t.flat 0).f0,(rd_T46 t.flat 0).f1,(rd_T46 t.flat 0).f2,str key,(rd_T46 t.flat 0).f4⟩ : S46) = (t.setKey key).flat:=by rw [k1,hx];rfl
  rw [e1,Option.bind_some]
  have hl3 : (t.setKey key).flat.length = rest.length + 1:=by rw [k1];rfl
  rw [if_pos (by simp only [List.length_cons];omega),Option.bind_some,if_pos (by simp only [List.length_append,List.length_cons];omega),Option.bind_some]
  have hcnt:=F.count_app acc (t.setKey key)
  have hfl:=F.flat_app acc (t.setKey key)
  have e2 : ((hdr kind acc :: acc.flat) ++ (t.setKey key).flat).set (0 : Int).toNat (⟨(rd_T46 ((hdr kind acc :: acc.flat) ++ (t.setKey key).flat) 0).f0,(rd_T46 ((hdr kind acc :: acc.flat) ++ (t.setKey key).flat) 0).f1,wrap64 (((rd_T46 ((hdr kind acc :: acc.flat) ++ (t.setKey key).flat) 0).f2) + 1),(rd_T46 ((hdr kind acc :: acc.flat) ++ (t.setKey key).flat) 0).f3,(rd_T46 ((hdr kind acc :: acc.flat) ++ (t.setKey key).flat) 0).f4⟩ : S46) = (⟨kind,((acc.flat.length + 1 : Nat) : Int),wrap64 (((acc.count : Nat) : Int) + 1),⟨#[]⟩,⟨#[]⟩⟩ : S46) :: (acc.app (t.setKey key)).flat:=by rw [hfl];rfl
  rw [e2]
  have e3 : ((⟨kind,((acc.flat.length + 1 : Nat) : Int),wrap64 (((acc.count : Nat) : Int) + 1),⟨#[]⟩,⟨#[]⟩⟩ : S46) :: (acc.app (t.setKey key)).flat).set (0 : Int).toNat (⟨(rd_T46 ((⟨kind,((acc.flat.length + 1 : Nat) : Int),wrap64 (((acc.count : Nat) : Int) + 1),⟨#[]⟩,⟨#[]⟩⟩ : S46) :: (acc.app (t.setKey key)).flat) 0).f0,((((hdr kind acc :: acc.flat) ++ (t.setKey key).flat).length : Nat) : Int),(rd_T46 ((⟨kind,((acc.flat.length + 1 : Nat) : Int),wrap64 (((acc.count : Nat) : Int) + 1),⟨#[]⟩,⟨#[]⟩⟩ : S46) :: (acc.app (t.setKey key)).flat) 0).f2,(rd_T46 ((⟨kind,((acc.flat.length + 1 : Nat) : Int),wrap64 (((acc.count : Nat) : Int) + 1),⟨#[]⟩,⟨#[]⟩⟩ : S46) :: (acc.app (t.setKey key)).flat) 0).f3,(rd_T46 ((⟨kind,((acc.flat.length + 1 : Nat) : Int),wrap64 (((acc.count : Nat) : Int) + 1),⟨#[]⟩,⟨#[]⟩⟩ : S46) :: (acc.app (t.setKey key)).flat) 0).f4⟩ : S46) = hdr kind (acc.app (t.setKey key)) :: (acc.app (t.setKey key)).flat:=by
   show (⟨kind,_,wrap64 (((acc.count : Nat) : Int) + 1),⟨#[]⟩,⟨#[]⟩⟩ : S46) :: _ = _
   simp only [hdr]
   rw [w64v (by omega) (by omega),hcnt,k2,o1,hfl]
   congr 2 <;> simp only [List.length_append,List.length_cons] <;> omega
  rw [e3,Option.bind_some]
  have hb:=ha2.blanks
  have hbl:=blanks_len l2
  rw [show (((s.size - l2.length : Nat) : Int),(0 : Int),t.flat,S).1 = ((s.size - l2.length : Nat) : Int) from rfl,blanks_law s (by omega) l2 _ k ha2 (by omega),Option.bind_some,is_law hb _ close rfl,Option.bind_some]
  by_cases c1 : isC close (blanks l2) = true
  ·have hlb : 1 ≤ (blanks l2).length:=by obtain ⟨r,e⟩:=isC_ne c1;rw [e];simp
   rw [if_pos c1,hok l2 t hvl c1,w64v (by omega) (by omega)]
   have hbd:=hb.add 1 hlb
   have hbp:=hbd.pos
   refine ⟨by rw [← hbp];exact hbd,⟨#[]⟩,?_⟩
   rw [node_flat]
   congr 2 <;> (try rw [List.length_drop]) <;> (try omega)
  ·rw [if_neg c1,is_law hb 44 44 rfl,Option.bind_some]
   by_cases c2 : isC 44 (blanks l2) = true
   ·obtain ⟨m,hm⟩:=isC_ne c2
    rw [if_pos c2]
    have hb1 : At s (s.size - (blanks l2).length + 1) m:=by rw [hm] at hb ⊢;exact hb.next
    have hlb : 1 ≤ (blanks l2).length:=by rw [hm];simp
    have:=hnext l2 t hvl (by simpa using c1) c2
    rw [hm,List.drop_succ_cons,List.drop_zero] at this
    have hm2 : m.length + 1 = (blanks l2).length:=by rw [hm];rfl
    rw [w64v (by omega) (by omega),show ((s.size - (blanks l2).length : Nat) : Int) + 1 = ((s.size - (blanks l2).length + 1 : Nat) : Int) by omega,blanks_law s (by omega) m _ k hb1 (by omega),Option.bind_some]
    exact this
   ·rw [if_neg c2,hno l2 t hvl (by simpa using c1) (by simpa using c2),fail_law' hb]
    exact ⟨by decide,[],⟨#[]⟩,rfl⟩
theorem items_R (s : ByteArray) (hs : s.size ≤ 1000000) (deep : Nat) (hd : deep ≤ 100) (d : Nat)
  (IH : ∀ (l : Bs) (p k : Nat),At s p l → 10 * l.length + 400 ≤ k → VR s (value d [] l) (RefVal.f k s (p : Int) ((deep + 1 : Nat) : Int))) (ob : Bool) (close : UInt8) (hcl : close = if ob then 125 else 93) (kind : Int) :
  ∀ (n : Nat) (l : Bs) (acc : F) (p k : Nat),l.length < n → At s p l → 10 * l.length + 403 ≤ k → acc.count ≤ acc.flat.length → acc.flat.length ≤ p →
   VR s ((items (value d) ob close n l).map fun f => .node [] kind (acc.app f) .nil) (rmany.l0 k s (p : Int) (deep : Int) (close.toNat : Int) (hdr kind acc :: acc.flat))
 | 0,l,acc,p,k,hn,ha,hk,hc,hf => by omega
 | n + 1,l,acc,p,k,hn,ha,hk,hc,hf => by
  obtain ⟨k,rfl⟩ : ∃ k',k = k' + 2:=⟨k - 2,by omega⟩
  have hle:=ha.le
  have ho:=value_owes d
  have rest : ∀ (key l1 : Bs) (q : Nat),At s q l1 → l1.length ≤ l.length → member ob l = .ok l1 key →
    VR s ((items (value d) ob close (n + 1) l).map fun f => .node [] kind (acc.app f) .nil) (rmany.j2 (k + 1) s (q : Int) (deep : Int) (close.toNat : Int) (hdr kind acc :: acc.flat) (str key)):=by
   intro key l1 q ha1 hl1 hm
   have hle1:=ha1.le
   have hlen1:=ha1.len
   have hlen:=ha.len
   have e : items (value d) ob close (n + 1) l = match value d key l1 with
     | .bad r e => .bad r e
     | .ok l2 t =>
      if isC close (blanks l2) then .ok ((blanks l2).drop 1) t
      else if isC 44 (blanks l2) then (items (value d) ob close n (blanks ((blanks l2).drop 1))).map t.app
      else .bad (blanks l2) 5:=by
    simp only [items,hm]
    cases value d key l1 <;> rfl
   refine j2_R s hs deep hd (value d []) close kind key l1 q k acc hc (by omega) (IH l1 q k ha1 (by omega)) (fun r t h => ho [] l1 r t h) ha1 (by omega) _ ?_ ?_ ?_ ?_
   ·intro r e2 h
    rw [e,value_key d key l1,h]
    rfl
   ·intro l2 t h c1
    rw [e,value_key d key l1,h]
    simp only [Rs.map]
    rw [if_pos c1]
   ·intro l2 t h c1 c2
    rw [e,value_key d key l1,h]
    simp only [Rs.map]
    rw [if_neg (by rw [c1];decide),if_neg (by rw [c2];decide)]
   ·intro l2 t hvl c1 c2
    obtain ⟨o1,o2⟩:=ho [] l1 l2 t hvl
    have hv:=IH l1 q k ha1 (by omega)
    rw [hvl] at hv
    have ha2 : At s (s.size - l2.length) l2:=hv.1
    have hbl:=blanks_len l2
    have hb:=ha2.blanks
    obtain ⟨m,hm2⟩:=isC_ne c2
    have hm3 : m.length + 1 = (blanks l2).length:=by rw [hm2];rfl
    have hbm : At s (s.size - (blanks l2).length + 1) m:=by rw [hm2] at hb ⊢;exact hb.next
    have hbb:=hbm.blanks
    have hbbl:=blanks_len m
    obtain ⟨x,xs,hx⟩ : ∃ x xs,t.flat = x :: xs:=by
     match t,o1 with
     | .nil,h => cases h
     | .leaf _ _ _ _,_ => exact ⟨_,_,rfl⟩
     | .node _ _ _ _,_ => exact ⟨_,_,rfl⟩
    obtain ⟨k1,k2⟩:=flat_setKey t key x xs hx
    have hlt : t.flat.length = xs.length + 1:=by rw [hx];rfl
    have hl3 : (t.setKey key).flat.length = xs.length + 1:=by rw [k1];rfl
    have hcnt:=F.count_app acc (t.setKey key)
    have hfl:=congrArg List.length (F.flat_app acc (t.setKey key))
    rw [List.length_append] at hfl
    have hpos:=hbb.len
    have hnx:=items_R s hs deep hd d IH ob close hcl kind n (blanks m) (acc.app (t.setKey key)) _ k (by omega) hbb (by omega) (by omega) (by omega)
    have e : items (value d) ob close (n + 1) l = (items (value d) ob close n (blanks m)).map (t.setKey key).app:=by
     show (match member ob l with | .bad r e => _ | .ok l1 key => _) = _
     rw [hm]
     show (match value d key l1 with | .bad r e => _ | .ok l2 t => _) = _
     rw [value_key d key l1,hvl]
     simp only [Rs.map]
     rw [if_neg (by rw [c1];decide),if_pos c2,hm2,List.drop_succ_cons,List.drop_zero]
    rw [e,hm2,List.drop_succ_cons,List.drop_zero]
    have e2 : (Rs.map (fun f => F.node [] kind (acc.app f) .nil) (Rs.map (t.setKey key).app (items (value d) ob close n (blanks m)))) = (items (value d) ob close n (blanks m)).map fun f => .node [] kind ((acc.app (t.setKey key)).app f) .nil:=by
     cases items (value d) ob close n (blanks m) with
     | bad r e => rfl
     | ok r f => simp only [Rs.map,F.app_assoc]
    rw [e2]
    exact hnx
  rw [rmany.l0]
  cases ob with
  | false =>
   have hc93 : close = 93:=hcl
   rw [if_neg (by rw [hc93];decide)]
   exact rest [] l p ha (Nat.le_refl _) rfl
  | true =>
   have hc125 : close = 125:=hcl
   rw [if_pos (by rw [hc125];decide),text_R ha hs (k + 1) (by omega)]
   have hbad : ∀ r e,member true l = .bad r e → items (value d) true close (n + 1) l = .bad r e:=by
    intro r e h
    show (match member true l with | .bad r e => _ | .ok l1 key => _) = _
    rw [h]
   cases ht : text l with
   | bad r e =>
    have h0:=text_five ht
    rw [hbad r e (by unfold member;rw [if_pos rfl,ht])]
    simp only [tres,badR,Option.bind_some]
    rw [if_neg h0]
    exact ⟨h0,_,_,rfl⟩
   | ok l1 key =>
    obtain ⟨j,hj⟩:=text_drop ht
    have ha1:=ha.dropped hj
    have hb1:=ha1.blanks
    have hbl1:=blanks_len l1
    have htl:=text_len _ _ _ ht
    have hlen:=ha.len
    simp only [tres,okR,Option.bind_some]
    rw [if_pos trivial,blanks_law s (by omega) l1 _ (k + 1) ha1 (by omega),Option.bind_some,is_law hb1 58 58 rfl,Option.bind_some]
    by_cases c1 : isC 58 (blanks l1) = true
    ·obtain ⟨m,hm⟩:=isC_ne c1
     have hbm : At s (s.size - (blanks l1).length + 1) m:=by rw [hm] at hb1 ⊢;exact hb1.next
     have hm3 : m.length + 1 = (blanks l1).length:=by rw [hm];rfl
     have hbbl:=blanks_len m
     rw [if_pos c1,w64v (by omega) (by omega),show ((s.size - (blanks l1).length : Nat) : Int) + 1 = ((s.size - (blanks l1).length + 1 : Nat) : Int) by omega,blanks_law s (by omega) m _ (k + 1) hbm (by omega),Option.bind_some]
     refine rest key (blanks m) _ hbm.blanks (by omega) ?_
     unfold member
     rw [if_pos rfl,ht]
     simp only
     rw [if_pos c1,hm,List.drop_succ_cons,List.drop_zero]
    ·rw [if_neg c1,fail_law' hb1,hbad (blanks l1) 5 (by unfold member;rw [if_pos rfl,ht];simp only;rw [if_neg c1])]
     exact ⟨by decide,[],⟨#[]⟩,rfl⟩
theorem many_R (s : ByteArray) (hs : s.size ≤ 1000000) (deep : Nat) (hd : deep ≤ 100) (d : Nat)
  (IH : ∀ (l : Bs) (p k : Nat),At s p l → 10 * l.length + 400 ≤ k → VR s (value d [] l) (RefVal.f k s (p : Int) ((deep + 1 : Nat) : Int))) (ob : Bool) (c : UInt8) (r : Bs) (p k : Nat) (ha : At s p (c :: r)) (hk : 10 * r.length + 405 ≤ k) :
  VR s (many (value d) ob [] r) (rmany.f k s (p : Int) (deep : Int) (if ob then 125 else 93)):=by
 obtain ⟨k,rfl⟩ : ∃ k',k = k' + 1:=⟨k - 1,by omega⟩
 have hle:=ha.le
 have hlt:=ha.lt
 have h1:=ha.next
 have hb:=h1.blanks
 have hbl:=blanks_len r
 have hbp:=hb.len
 have hlen:=h1.len
 have key : ∀ (close : UInt8) (kind : Int),close = (if ob then 125 else 93) → VR s (if isC close (blanks r) then .ok ((blanks r).drop 1) (.node [] kind .nil .nil) else (items (value d) ob close (r.length + 1) (blanks r)).map fun f => .node [] kind f .nil) (rmany.j0 (k + 1) s (p : Int) (deep : Int) (close.toNat : Int) [hdr kind .nil]):=by
  intro close kind hcl
  rw [rmany.j0,w64v (by omega) (by omega),show ((p : Int) + 1) = ((p + 1 : Nat) : Int) by omega,blanks_law s (by omega) r _ k h1 (by omega),Option.bind_some,is_law hb _ close rfl,Option.bind_some]
  by_cases c1 : isC close (blanks r) = true
  ·have hlb : 1 ≤ (blanks r).length:=by obtain ⟨r,e⟩:=isC_ne c1;rw [e];simp
   have hbd:=hb.add 1 hlb
   have hbdp:=hbd.pos
   rw [if_pos c1,if_pos c1,w64v (by omega) (by omega)]
   refine ⟨by rw [← hbdp];exact hbd,⟨#[]⟩,?_⟩
   rw [node_flat]
   congr 2
   omega
  ·rw [if_neg c1,if_neg c1]
   have:=items_R s hs deep hd d IH ob close hcl kind (r.length + 1) (blanks r) .nil _ k (by omega) hb (by omega) (Nat.le_refl _) (by simp [F.flat])
   exact this
 cases ob with
 | true =>
  have e : many (value d) true [] r = (if isC 125 (blanks r) then .ok ((blanks r).drop 1) (.node [] 7 .nil .nil) else (items (value d) true 125 (r.length + 1) (blanks r)).map fun f => .node [] 7 f .nil):=rfl
  rw [e]
  show VR s _ (rmany.f (k + 1) s (p : Int) (deep : Int) 125)
  rw [rmany.f,Option.bind_some,if_pos (show (125 : Int) = 125 from rfl),if_pos (show (0 : Int) < (([(⟨6,1,0,⟨#[]⟩,⟨#[]⟩⟩ : S46)] : List S46).length : Int) by simp)]
  exact key 125 7 rfl
 | false =>
  have e : many (value d) false [] r = (if isC 93 (blanks r) then .ok ((blanks r).drop 1) (.node [] 6 .nil .nil) else (items (value d) false 93 (r.length + 1) (blanks r)).map fun f => .node [] 6 f .nil):=rfl
  rw [e]
  show VR s _ (rmany.f (k + 1) s (p : Int) (deep : Int) 93)
  rw [rmany.f,Option.bind_some,if_neg (show ¬ (93 : Int) = 125 by decide)]
  exact key 93 6 rfl
end
end Go.Proofs.YtadfkeipcebmfaaDoor.Pure
namespace Go.Proofs.YtadfkeipcebmfaaDoor.Pure
open Go.Proofs.YtadfkeipcebmfaaDoor.X Go.RowKit Go.Proofs.YtadfkeipcebmfaaDoorW.PrintWords Go.Proofs.YtadfkeipcebmfaaDoorW.PrintMore
set_option linter.unusedVariables false
set_option linter.unusedSimpArgs false
theorem vfail {s : ByteArray} {q : Nat} {l : Bs} (ha : At s q l) : VR s (.bad l 5) ((racewayref25_fail.f (q : Int)).bind fun b => (some (b.1,b.2.1,b.2.2.1,b.2.2.2))):=by
 rw [fail_law' ha]
 exact ⟨by decide,[],⟨#[]⟩,rfl⟩
theorem vword {s : ByteArray} {p : Nat} {l : Bs} (ha : At s p l) (hs : s.size ≤ 1000000) (w : ByteArray) (hw : w.size ≤ 100) (kind : Int) (k : Nat) (hk : 102 ≤ k) (wl : Bs) (hwl : w.data.toList = wl) :
  VR s ((word wl l).map fun _ => .leaf [] kind [] .nil) ((racewayref25_word.f k s (p : Int) w kind).bind fun b => (some (b.1,b.2.1,b.2.2.1,b.2.2.2))):=by
 rw [word_R ha (by omega) w hw kind k hk,hwl]
 cases h : word wl l with
 | ok r u =>
  obtain ⟨j,hj⟩:=word_drop _ _ _ _ h
  exact ⟨ha.dropped hj,⟨#[]⟩,rfl⟩
 | bad r e =>
  have h5:=word_e _ _ _ _ h
  refine ⟨by omega,[],⟨#[]⟩,rfl⟩
section
variable [RefVal]
theorem vj0 (s : ByteArray) (hs : s.size ≤ 1000000) (deep dd : Nat) (hdd : deep + dd = 32)
  (IH : 0 < dd → ∀ (l : Bs) (p k : Nat),At s p l → 10 * l.length + 400 ≤ k → VR s (value (dd - 1) [] l) (RefVal.f k s (p : Int) ((deep + 1 : Nat) : Int))) (c : UInt8) (r : Bs) (p k : Nat) (ha : At s p (c :: r)) (hk : 10 * (c :: r).length + 400 ≤ k) :
  VR s (value dd [] (c :: r)) (rvalue.j0 k s (p : Int) (deep : Int) (c.toNat : Int) (!begins c)):=by
 obtain ⟨k,rfl⟩ : ∃ k',k = k' + 1:=⟨k - 1,by omega⟩
 simp only [List.length_cons] at hk
 have hle:=ha.le
 have hpos:=ha.pos
 have e123 : ((c.toNat : Int) = 123) ↔ c = 123:=ieq c 123
 have e91 : ((c.toNat : Int) = 91) ↔ c = 91:=ieq c 91
 have e116 : ((c.toNat : Int) = 116) ↔ c = 116:=ieq c 116
 have e102 : ((c.toNat : Int) = 102) ↔ c = 102:=ieq c 102
 have e110 : ((c.toNat : Int) = 110) ↔ c = 110:=ieq c 110
 have e34 : ((c.toNat : Int) = 34) ↔ c = 34:=ieq c 34
 rw [rvalue.j0]
 cases hb : begins c with
 | false =>
  have e : value dd [] (c :: r) = .bad (c :: r) 5:=by cases dd <;> simp only [value,hb,if_true]
  rw [if_pos (by decide),e]
  exact vfail ha
 | true =>
  rw [if_neg (by decide)]
  match dd,hdd,IH with
  | 0,hdd,IH =>
   have e : value 0 [] (c :: r) = .bad (c :: r) 7:=by simp [value,hb]
   rw [if_pos (by omega),e]
   refine ⟨by decide,[],⟨#[]⟩,?_⟩
   rw [hpos]
  | d + 1,hdd,IH =>
   have ih:=IH (by omega)
   rw [Nat.add_sub_cancel] at ih
   have e : value (d + 1) [] (c :: r) = (if c = 123 then many (value d) true [] r
     else if c = 91 then many (value d) false [] r
     else if c = 34 then (text (c :: r)).map fun t => .leaf [] 5 t .nil
     else if c = 116 then (word [116,114,117,101] (c :: r)).map fun _ => .leaf [] 2 [] .nil
     else if c = 102 then (word [102,97,108,115,101] (c :: r)).map fun _ => .leaf [] 3 [] .nil
     else if c = 110 then (word [110,117,108,108] (c :: r)).map fun _ => .leaf [] 1 [] .nil
     else (number (c :: r)).map fun t => .leaf [] 4 t .nil):=by simp only [value,hb,Bool.true_eq_false,if_false]
   rw [if_neg (by omega),e]
   by_cases c1 : c = 123
   ·rw [if_pos (e123.mpr c1),if_pos c1]
    have h:=many_R s hs deep (by omega) d ih true c r p k ha (by omega)
    have h2 : VR s (many (value d) true [] r) ((rmany.f k s (p : Int) (deep : Int) 125).bind fun bt => (some (bt.1,bt.2.1,bt.2.2.1,bt.2.2.2))):=by
     have e : (rmany.f k s (p : Int) (deep : Int) 125).bind (fun bt => (some (bt.1,bt.2.1,bt.2.2.1,bt.2.2.2))) = rmany.f k s (p : Int) (deep : Int) 125:=by cases rmany.f k s (p : Int) (deep : Int) 125 <;> rfl
     rw [e]
     exact h
    exact h2
   ·rw [if_neg (fun h => c1 (e123.mp h)),if_neg c1]
    by_cases c2 : c = 91
    ·rw [if_pos (e91.mpr c2),if_pos c2]
     have h:=many_R s hs deep (by omega) d ih false c r p k ha (by omega)
     have h2 : VR s (many (value d) false [] r) ((rmany.f k s (p : Int) (deep : Int) 93).bind fun bt => (some (bt.1,bt.2.1,bt.2.2.1,bt.2.2.2))):=by
      have e : (rmany.f k s (p : Int) (deep : Int) 93).bind (fun bt => (some (bt.1,bt.2.1,bt.2.2.1,bt.2.2.2))) = rmany.f k s (p : Int) (deep : Int) 93:=by cases rmany.f k s (p : Int) (deep : Int) 93 <;> rfl
      rw [e]
      exact h
     exact h2
    ·rw [if_neg (fun h => c2 (e91.mp h)),if_neg c2]
     by_cases c3 : c = 34
     ·rw [if_pos c3,if_neg (fun h => absurd (c3.symm.trans (e116.mp h)) (by decide)),if_neg (fun h => absurd (c3.symm.trans (e102.mp h)) (by decide)),if_neg (fun h => absurd (c3.symm.trans (e110.mp h)) (by decide)),if_pos (e34.mpr c3),text_R ha hs k (by simp only [List.length_cons];omega)]
      cases ht : text (c :: r) with
      | bad r' e =>
       have h5:=text_e _ _ _ ht
       exact ⟨by omega,_,_,rfl⟩
      | ok r' t =>
       obtain ⟨j,hj⟩:=text_drop ht
       exact ⟨ha.dropped hj,str t,rfl⟩
     ·rw [if_neg c3]
      by_cases c4 : c = 116
      ·rw [if_pos (e116.mpr c4),if_pos c4]
       exact vword ha hs _ (by decide) 2 k (by omega) _ rfl
      ·rw [if_neg (fun h => c4 (e116.mp h)),if_neg c4]
       by_cases c5 : c = 102
       ·rw [if_pos (e102.mpr c5),if_pos c5]
        exact vword ha hs _ (by decide) 3 k (by omega) _ rfl
       ·rw [if_neg (fun h => c5 (e102.mp h)),if_neg c5]
        by_cases c6 : c = 110
        ·rw [if_pos (e110.mpr c6),if_pos c6]
         exact vword ha hs _ (by decide) 1 k (by omega) _ rfl
        ·rw [if_neg (fun h => c6 (e110.mp h)),if_neg c6,if_neg (fun h => c3 (e34.mp h)),number_R ha (by omega) k (by simp only [List.length_cons];omega),number]
         cases hn : num (c :: r) with
         | bad r' e =>
          have h5:=num_e _ _ _ hn
          exact ⟨by omega,_,_,rfl⟩
         | ok r' u =>
          have hnum : number (c :: r) = .ok r' ((c :: r).take ((c :: r).length - r'.length)):=by simp only [number,hn]
          obtain ⟨n1,n2⟩:=number_is _ _ _ hnum
          have hlt:=num_len _ _ _ hn
          have hlen:=ha.len
          have hd : (c :: r).drop ((c :: r).length - r'.length) = r':=by
           have h3:=List.take_append_drop ((c :: r).length - r'.length) (c :: r)
           exact List.append_cancel_left (h3.trans n2)
          refine ⟨ha.dropped hd,s.extract p (s.size - r'.length),?_⟩
          show (some (((s.size - r'.length : Nat) : Int),(0 : Int),[(⟨4,1,0,(⟨#[]⟩ : ByteArray),s.extract p (s.size - r'.length)⟩ : S46)],s.extract p (s.size - r'.length)) : Option (Int × Int × List S46 × ByteArray)) = some (((s.size - r'.length : Nat) : Int),(0 : Int),[(⟨4,1,0,str [],str ((c :: r).take ((c :: r).length - r'.length))⟩ : S46)],s.extract p (s.size - r'.length))
          have e : s.extract p (s.size - r'.length) = str ((c :: r).take ((c :: r).length - r'.length)):=by
           rw [← ext_take ha (by omega)]
           congr 1
           omega
          rw [e]
          rfl
theorem rvalue_R (s : ByteArray) (hs : s.size ≤ 1000000) (deep dd : Nat) (hdd : deep + dd = 32)
  (IH : 0 < dd → ∀ (l : Bs) (p k : Nat),At s p l → 10 * l.length + 400 ≤ k → VR s (value (dd - 1) [] l) (RefVal.f k s (p : Int) ((deep + 1 : Nat) : Int))) (l : Bs) (p k : Nat) (ha : At s p l) (hk : 10 * l.length + 400 ≤ k) :
  VR s (value dd [] l) (rvalue.f k s (p : Int) (deep : Int)):=by
 have hle:=ha.le
 rw [rvalue.f]
 cases l with
 | nil =>
  rw [if_pos (by have:=ha.nil;omega)]
  have e : value dd [] [] = .bad [] 5:=by cases dd <;> rfl
  rw [e]
  exact vfail ha
 | cons c r =>
  have hj:=vj0 s hs deep dd hdd IH c r p k ha hk
  have hlt:=ha.lt
  rw [if_neg (by omega),if_pos (by omega),if_pos (by omega),ha.bt,digit_law ha,Option.bind_some]
  have hbeg : begins c = (c == 123 || c == 91 || c == 34 || c == 45 || isDig c || c == 116 || c == 102 || c == 110):=rfl
  have fin : ∀ b : Bool,(!begins c) = b → VR s (value dd [] (c :: r)) (rvalue.j0 k s (p : Int) (deep : Int) (c.toNat : Int) b):=fun b h => by rw [← h];exact hj
  have e123 : ((c.toNat : Int) = 123) ↔ c = 123:=ieq c 123
  have e91 : ((c.toNat : Int) = 91) ↔ c = 91:=ieq c 91
  have e34 : ((c.toNat : Int) = 34) ↔ c = 34:=ieq c 34
  have e45 : ((c.toNat : Int) = 45) ↔ c = 45:=ieq c 45
  have e116 : ((c.toNat : Int) = 116) ↔ c = 116:=ieq c 116
  have e102 : ((c.toNat : Int) = 102) ↔ c = 102:=ieq c 102
  have e110 : ((c.toNat : Int) = 110) ↔ c = 110:=ieq c 110
  by_cases c1 : c = 123
  ·rw [if_pos (e123.mpr c1)]
   exact fin _ (by rw [hbeg,c1];rfl)
  ·rw [if_neg (fun h => c1 (e123.mp h))]
   by_cases c2 : c = 91
   ·rw [if_pos (e91.mpr c2)]
    exact fin _ (by rw [hbeg,c2];rfl)
   ·rw [if_neg (fun h => c2 (e91.mp h))]
    by_cases c3 : c = 34
    ·rw [if_pos (e34.mpr c3)]
     exact fin _ (by rw [hbeg,c3];rfl)
    ·rw [if_neg (fun h => c3 (e34.mp h))]
     by_cases c4 : c = 45
     ·rw [if_pos (e45.mpr c4)]
      exact fin _ (by rw [hbeg,c4];rfl)
     ·rw [if_neg (fun h => c4 (e45.mp h))]
      by_cases c5 : isDig c = true
      ·rw [if_pos (show isD (c :: r) = true from c5)]
       exact fin _ (by rw [hbeg,c5];simp)
      ·rw [if_neg (show ¬ isD (c :: r) = true from c5)]
       by_cases c6 : c = 116
       ·rw [if_pos (e116.mpr c6)]
        exact fin _ (by rw [hbeg,c6];rfl)
       ·rw [if_neg (fun h => c6 (e116.mp h))]
        by_cases c7 : c = 102
        ·rw [if_pos (e102.mpr c7)]
         exact fin _ (by rw [hbeg,c7];rfl)
        ·rw [if_neg (fun h => c7 (e102.mp h))]
         refine fin _ ?_
         have c5' : isDig c = false:=by simpa using c5
         rw [hbeg,beq_eq_false_iff_ne.mpr c1,beq_eq_false_iff_ne.mpr c2,beq_eq_false_iff_ne.mpr c3,beq_eq_false_iff_ne.mpr c4,c5',beq_eq_false_iff_ne.mpr c6,beq_eq_false_iff_ne.mpr c7]
         by_cases c8 : c = 110
         ·rw [c8];rfl
         ·rw [beq_eq_false_iff_ne.mpr c8,bne_iff_ne.mpr (fun h => c8 (e110.mp h))]
          rfl
end
theorem value_R : ∀ (d : Nat) (s : ByteArray) (hs : s.size ≤ 1000000) (deep dd : Nat),deep + dd = 32 → dd < d → ∀ (l : Bs) (p k : Nat),At s p l → 10 * l.length + 400 ≤ k → VR s (value dd [] l) ((refVal d).f k s (p : Int) (deep : Int))
 | 0,s,hs,deep,dd,h1,h2,l,p,k,ha,hk => by omega
 | d + 1,s,hs,deep,dd,h1,h2,l,p,k,ha,hk => by
  refine @rvalue_R (refVal d) s hs deep dd h1 ?_ l p k ha hk
  intro h l p k ha hk
  exact value_R d s hs (deep + 1) (dd - 1) (by omega) (by omega) l p k ha hk
theorem parse_R (a : ByteArray) (hs : a.size ≤ 65536) (k : Nat) (hk : 1000000 ≤ k) : racewayref25_Parse.f k a = some ((parse a.data.toList).1.flat,(parse a.data.toList).2.1,(parse a.data.toList).2.2):=by
 have ha:=At.start a
 have hlen : a.data.toList.length = a.size:=by simp
 have hb:=ha.blanks
 have hbl:=blanks_len a.data.toList
 have hb0 : racewayref25_blanks.f k a 0 = some ((a.size - (blanks a.data.toList).length : Nat) : Int):=blanks_law a (by omega) _ 0 k ha (by omega)
 rw [racewayref25_Parse.f,if_neg (by omega),hb0,Option.bind_some]
 have hv:=value_R 33 a (by omega) 0 32 rfl (by decide) _ _ k hb (by omega)
 unfold parse
 rw [if_neg (by omega)]
 have hf : racewayref25_value.f k a ((a.size - (blanks a.data.toList).length : Nat) : Int) 0 = (refVal 33).f k a ((a.size - (blanks a.data.toList).length : Nat) : Int) ((0 : Nat) : Int):=rfl
 cases hval : value 32 [] (blanks a.data.toList) with
 | bad r e =>
  rw [hval] at hv
  obtain ⟨h0,T,S,hv⟩:=hv
  rw [hf,hv,Option.bind_some]
  simp only [hlen]
  rw [if_neg h0]
  rfl
 | ok r f =>
  rw [hval] at hv
  obtain ⟨har,S,hv⟩:=hv
  have hbr:=har.blanks
  have hrl:=blanks_len r
  have hrle:=har.len
  rw [hf,hv,Option.bind_some]
  simp only
  rw [if_pos trivial,blanks_law a (by omega) r _ k har (by omega),Option.bind_some]
  cases hbr2 : blanks r with
  | nil =>
   rw [if_neg (by simp)]
  | cons c r' =>
   rw [hbr2] at hbr
   have:=hbr.len
   simp only [List.length_cons] at this ⊢
   rw [if_pos (by omega)]
   simp only [hlen]
   rfl
end Go.Proofs.YtadfkeipcebmfaaDoor.Pure
namespace Go.Proofs.YtadfkeipcebmfaaDoor.Pure
open Go.RowKit Go.Proofs.YtadfkeipcebmfaaDoor.X Go.Proofs.YtadfkeipcebmfaaDoorW.PrintWords Go.Proofs.YtadfkeipcebmfaaDoorW.PrintMore
set_option linter.unusedVariables false
set_option linter.unusedSimpArgs false
theorem mn_lims (a b : Int) (ha : 0 ≤ a) (hb : 0 ≤ b) : 0 ≤ mn a b ∧ mn a b ≤ a ∧ mn a b ≤ b:=by
 unfold mn
 split <;> omega
theorem parse_flat (s : Bs) : (parse s).1.flat.length ≤ s.length:=by
 unfold parse
 split
 ·simp [F.flat]
 ·split
  ·simp [F.flat]
  ·rename_i r g hv
   have:=(value_owes 32 _ _ _ _ hv).2
   have:=blanks_len s
   split
   ·simp only
    omega
   ·simp [F.flat]
theorem JsontextParses : racewaylaw25_JsontextParses.Pure:=by
 intro a0 h0
 refine ⟨1000001,?_⟩
 obtain ⟨m0,m1,m2⟩:=mn_lims (a0.size : Int) 2000 (by omega) (by omega)
 unfold racewaylaw25_JsontextParses.f
 rw [if_pos m0,if_pos m1]
 generalize hX : a0.extract 0 ((mn (a0.size : Int) 2000) : Int).toNat = X
 have hXs : X.size ≤ 2000:=by rw [← hX,ByteArray.size_extract];omega
 have hXl : X.data.toList.length = X.size:=by simp
 have hf:=parse_flat X.data.toList
 have hP : jsontext_Parse.f X = some ((parse X.data.toList).1.flat,(parse X.data.toList).2.1,(parse X.data.toList).2.2):=rfl
 have hsame:=same_self (parse X.data.toList).1.flat (by omega) 1000001 (by omega)
 rw [hP,Option.bind_some,parse_R X (by omega) 1000001 (by omega),Option.bind_some,hsame,Option.bind_some,if_pos rfl,if_pos rfl,if_pos rfl,works_true]
 rfl
end Go.Proofs.YtadfkeipcebmfaaDoor.Pure
