/-
  What the claim's law rests on, part 4 of 7: printed walks, externals, plain lemmas; conditions: none of its own.
-/
import Derived.Test.YtadfkeipcebmfaaDoorCm3
namespace Go.Proofs.YtadfkeipcebmfaaDoor.X
open Go.RowKit Go.Proofs.YtadfkeipcebmfaaDoorW.PrintWords Go.Proofs.YtadfkeipcebmfaaDoorW.PrintLast Go.Proofs.YtadfkeipcebmfaaDoorW.PrintMore
attribute [local go_sem] max2_int min2_int max_two min_two max_three min_three max_four min_four
set_option linter.unusedVariables false
set_option linter.unusedSimpArgs false
def jsontext_Check.f (k : Nat) (l0 : List (S46)) : Option (Int):=if (l0.length : Int) = 0 then (some 2) else (if 0 < (l0.length : Int) then (if ((rd_T46 l0 0).f1) = (l0.length : Int) then ((jsontext_check.f k l0 0 (l0.length : Int) false 0).bind fun t162 => (if t162 = true then (some 0) else (some 2))) else (some 2)) else (none))
set_option maxHeartbeats 8000000 in
set_option maxRecDepth 100000 in
theorem jsontext_Check.calls (k : Nat) (A0 : Option Addr) (c0 : Nat) (l0 : List (S46)) (r : Int) (w : World) (hGU8 : GlobU8 w) (hr0 : Kd.C k46 w A0 l0.length l0) (hc0 : l0.length ≤ c0) (h : jsontext_Check.f k l0 = some r) :
  Calls Tryd.prog 16 #[.slice A0 l0.length c0] w fun e w' => e = .returned (.int .i64 r) ∧ Below w.heap.size w w':=by
 have HGU8:=Aside0.mk hGU8
 clear hGU8
 have HR0:=Aside0.mk hr0
 have HC0:=Aside0.mk hc0
 clear hr0 hc0
 have HB:=Aside0.mk (Below.refl w.heap.size w)
 have H : (if (l0.length : Int) = 0 then (some 2) else (if 0 < (l0.length : Int) then (if ((rd_T46 l0 0).f1) = (l0.length : Int) then ((jsontext_check.f k l0 0 (l0.length : Int) false 0).bind fun t162 => (if t162 = true then (some 0) else (some 2))) else (some 2)) else (none))) = some r:=h
 clear h
 by_cases c2 : (l0.length : Int) = 0
 ·rw [if_pos c2] at H
  have c2b0 : ((l0.length : Int) == 0) = true:=beq_iff_eq.mpr c2
  have c2b1 : ((l0.length : Int) != 0) = false:=bne_eq_false_iff_eq.mpr c2
  clear c2
  obtain rfl:=Option.some.inj H
  go_enter Tryd.func16,Tryd.ntmps16
  go_wp2
  go_ret
  exact ⟨by first|rfl|(simp [errW_none,errW_some] <;> rfl)|(simp [*,errW_none,errW_some] <;> rfl),by repeat (first|(with_reducible first|exact HB.out|apply below_alloc|apply pw_below_drewN|apply below_drew1)|exact HB.out)⟩
 ·rw [if_neg c2] at H
  have c2b0 : ((l0.length : Int) == 0) = false:=beq_eq_false_iff_ne.mpr c2
  have c2b1 : ((l0.length : Int) != 0) = true:=bne_iff_ne.mpr c2
  have c2b2 : ¬ (l0 = []):=fun h_ => c2 (by rw [h_];rfl)
  by_cases c3 : 0 < (l0.length : Int)
  ·rw [if_pos c3] at H
   have c3b0 : decide (0 < (l0.length : Int)) = true:=decide_eq_true c3
   have c3b1 : decide (0 < l0.length) = true:=decide_eq_true (by omega)
   clear c3
   by_cases c4 : ((rd_T46 l0 0).f1) = (l0.length : Int)
   ·rw [if_pos c4] at H
    have c4b0 : (((rd_T46 l0 0).f1) == (l0.length : Int)) = true:=beq_iff_eq.mpr c4
    have c4b1 : (((rd_T46 l0 0).f1) != (l0.length : Int)) = false:=bne_eq_false_iff_eq.mpr c4
    clear c4
    replace H:=Option.bind_eq_some_iff.mp H
    obtain ⟨t162,A50,H⟩:=H
    replace H : (if t162 = true then (some 0) else (some 2)) = some r:=H
    have A5:=Aside0.mk A50
    clear A50
    by_cases c6 : t162 = true
    ·subst c6
     have H1 : (some 0) = some r:=by rw [if_pos rfl] at H;exact H
     clear H
     have H:=H1
     clear H1
     obtain rfl:=Option.some.inj H
     have p161 : 0 ≤ (0 : Int):=(by omega)
     have q161 : 0 < (l0.length : Int):=of_decide_eq_true (by first|(with_reducible assumption)|assumption)
     obtain ⟨ad161,e161,hx161_0,hx161_1,hx161_2,hx161_3,hx161_4⟩:=at_T46 HR0.out 0 p161 q161
     cases e161
     have qi161 : (0 < l0.length) = True:=eq_true (by omega)
     (try rw [show ((0 : Int)).toNat = 0 from rfl] at hx161_0)
     (try rw [show 0 * 5 = 0 from rfl] at hx161_0)
     (try rw [Addr.add_zero'] at hx161_0)
     (try rw [show ((0 : Int)).toNat = 0 from rfl] at hx161_1)
     (try rw [show 0 * 5 = 0 from rfl] at hx161_1)
     (try rw [Addr.add_zero'] at hx161_1)
     (try rw [show ((0 : Int)).toNat = 0 from rfl] at hx161_2)
     (try rw [show 0 * 5 = 0 from rfl] at hx161_2)
     (try rw [Addr.add_zero'] at hx161_2)
     (try rw [show ((0 : Int)).toNat = 0 from rfl] at hx161_3)
     (try rw [show 0 * 5 = 0 from rfl] at hx161_3)
     (try rw [Addr.add_zero'] at hx161_3)
     (try rw [show ((0 : Int)).toNat = 0 from rfl] at hx161_4)
     (try rw [show 0 * 5 = 0 from rfl] at hx161_4)
     (try rw [Addr.add_zero'] at hx161_4)
     replace p161:=eq_true p161
     replace q161:=eq_true q161
     go_enter Tryd.func16,Tryd.ntmps16
     go_wp2_with (first|(go_at_call 39;(with_reducible refine (jsontext_check.calls k _ _ l0 0 (l0.length : Int) false 0 true _ ?side3 ?side1 ?side2 A5.out).mono ?_);(case side1 => repeat (first|exact HR0.out|(with_reducible refine Kd.C_alloc ?_ _)|(with_reducible refine Kd.C_drewN ?_ _)|(with_reducible refine Kd.C_drew ?_)));(case side2 => exact HC0.out);(case side3 => first|exact HGU8.out|exact GlobU8.below HGU8.out (by repeat (first|(with_reducible first|exact HB.out|apply below_alloc|apply pw_below_drewN|apply below_drew1)|exact HB.out))|exact GlobU8.drawn HGU8.out (by repeat (first|exact Drawn0.refl _|apply Drawn0.step)));rintro e w7 ⟨rfl,hb⟩;have n0_:=Aside0.mk (below_step (by repeat (first|(with_reducible first|exact HB.out|apply below_alloc|apply pw_below_drewN|apply below_drew1)|exact HB.out)) hb);clear HB;have HB:=n0_;clear n0_;(try clear hb);(try clear hb2);(try clear hk);(try clear hi)))
     go_ret
     exact ⟨by first|rfl|(simp [errW_none,errW_some] <;> rfl)|(simp [*,errW_none,errW_some] <;> rfl),by repeat (first|(with_reducible first|exact HB.out|apply below_alloc|apply pw_below_drewN|apply below_drew1)|exact HB.out)⟩
    ·replace c6:=Bool.eq_false_iff.mpr c6
     subst c6
     have H1 : (some 2) = some r:=by rw [if_neg (show ¬ (false = true) by decide)] at H;exact H
     clear H
     have H:=H1
     clear H1
     obtain rfl:=Option.some.inj H
     have p161 : 0 ≤ (0 : Int):=(by omega)
     have q161 : 0 < (l0.length : Int):=of_decide_eq_true (by first|(with_reducible assumption)|assumption)
     obtain ⟨ad161,e161,hx161_0,hx161_1,hx161_2,hx161_3,hx161_4⟩:=at_T46 HR0.out 0 p161 q161
     cases e161
     have qi161 : (0 < l0.length) = True:=eq_true (by omega)
     (try rw [show ((0 : Int)).toNat = 0 from rfl] at hx161_0)
     (try rw [show 0 * 5 = 0 from rfl] at hx161_0)
     (try rw [Addr.add_zero'] at hx161_0)
     (try rw [show ((0 : Int)).toNat = 0 from rfl] at hx161_1)
     (try rw [show 0 * 5 = 0 from rfl] at hx161_1)
     (try rw [Addr.add_zero'] at hx161_1)
     (try rw [show ((0 : Int)).toNat = 0 from rfl] at hx161_2)
     (try rw [show 0 * 5 = 0 from rfl] at hx161_2)
     (try rw [Addr.add_zero'] at hx161_2)
     (try rw [show ((0 : Int)).toNat = 0 from rfl] at hx161_3)
     (try rw [show 0 * 5 = 0 from rfl] at hx161_3)
     (try rw [Addr.add_zero'] at hx161_3)
     (try rw [show ((0 : Int)).toNat = 0 from rfl] at hx161_4)
     (try rw [show 0 * 5 = 0 from rfl] at hx161_4)
     (try rw [Addr.add_zero'] at hx161_4)
     replace p161:=eq_true p161
     replace q161:=eq_true q161
     go_enter Tryd.func16,Tryd.ntmps16
     go_wp2_with (first|(go_at_call 39;(with_reducible refine (jsontext_check.calls k _ _ l0 0 (l0.length : Int) false 0 false _ ?side3 ?side1 ?side2 A5.out).mono ?_);(case side1 => repeat (first|exact HR0.out|(with_reducible refine Kd.C_alloc ?_ _)|(with_reducible refine Kd.C_drewN ?_ _)|(with_reducible refine Kd.C_drew ?_)));(case side2 => exact HC0.out);(case side3 => first|exact HGU8.out|exact GlobU8.below HGU8.out (by repeat (first|(with_reducible first|exact HB.out|apply below_alloc|apply pw_below_drewN|apply below_drew1)|exact HB.out))|exact GlobU8.drawn HGU8.out (by repeat (first|exact Drawn0.refl _|apply Drawn0.step)));rintro e w8 ⟨rfl,hb⟩;have n0_:=Aside0.mk (below_step (by repeat (first|(with_reducible first|exact HB.out|apply below_alloc|apply pw_below_drewN|apply below_drew1)|exact HB.out)) hb);clear HB;have HB:=n0_;clear n0_;(try clear hb);(try clear hb2);(try clear hk);(try clear hi)))
     go_ret
     exact ⟨by first|rfl|(simp [errW_none,errW_some] <;> rfl)|(simp [*,errW_none,errW_some] <;> rfl),by repeat (first|(with_reducible first|exact HB.out|apply below_alloc|apply pw_below_drewN|apply below_drew1)|exact HB.out)⟩
   ·rw [if_neg c4] at H
    have c4b0 : (((rd_T46 l0 0).f1) == (l0.length : Int)) = false:=beq_eq_false_iff_ne.mpr c4
    have c4b1 : (((rd_T46 l0 0).f1) != (l0.length : Int)) = true:=bne_iff_ne.mpr c4
    obtain rfl:=Option.some.inj H
    have p161 : 0 ≤ (0 : Int):=(by omega)
    have q161 : 0 < (l0.length : Int):=of_decide_eq_true (by first|(with_reducible assumption)|assumption)
    obtain ⟨ad161,e161,hx161_0,hx161_1,hx161_2,hx161_3,hx161_4⟩:=at_T46 HR0.out 0 p161 q161
    cases e161
    have qi161 : (0 < l0.length) = True:=eq_true (by omega)
    (try rw [show ((0 : Int)).toNat = 0 from rfl] at hx161_0)
    (try rw [show 0 * 5 = 0 from rfl] at hx161_0)
    (try rw [Addr.add_zero'] at hx161_0)
    (try rw [show ((0 : Int)).toNat = 0 from rfl] at hx161_1)
    (try rw [show 0 * 5 = 0 from rfl] at hx161_1)
    (try rw [Addr.add_zero'] at hx161_1)
    (try rw [show ((0 : Int)).toNat = 0 from rfl] at hx161_2)
    (try rw [show 0 * 5 = 0 from rfl] at hx161_2)
    (try rw [Addr.add_zero'] at hx161_2)
    (try rw [show ((0 : Int)).toNat = 0 from rfl] at hx161_3)
    (try rw [show 0 * 5 = 0 from rfl] at hx161_3)
    (try rw [Addr.add_zero'] at hx161_3)
    (try rw [show ((0 : Int)).toNat = 0 from rfl] at hx161_4)
    (try rw [show 0 * 5 = 0 from rfl] at hx161_4)
    (try rw [Addr.add_zero'] at hx161_4)
    replace p161:=eq_true p161
    replace q161:=eq_true q161
    go_enter Tryd.func16,Tryd.ntmps16
    go_wp2
    go_ret
    exact ⟨by first|rfl|(simp [errW_none,errW_some] <;> rfl)|(simp [*,errW_none,errW_some] <;> rfl),by repeat (first|(with_reducible first|exact HB.out|apply below_alloc|apply pw_below_drewN|apply below_drew1)|exact HB.out)⟩
  ·rw [if_neg c3] at H
   exact absurd H (by simp)
end Go.Proofs.YtadfkeipcebmfaaDoor.X
namespace Go.Proofs.YtadfkeipcebmfaaDoor.X
open Go.RowKit Go.Proofs.YtadfkeipcebmfaaDoorW.PrintWords
set_option linter.unusedVariables false
set_option linter.unusedSimpArgs false
theorem tl (a : ByteArray) : a.toList = a.data.toList:=ByteArray.toList_eq a
theorem w64' {x : Int} (h0 : -9223372036854775808 ≤ x) (h1 : x ≤ 9223372036854775807) : wrap64 x = x:=by unfold wrap64;omega
theorem idx_num (c : UInt8) : (Lib.indexByte [45,48,49,50,51,52,53,54,55,56,57] c < 0) = (¬ (c = 45 ∨ isDig c = true)):=by
 have:=all_bytes (p:=fun c => decide (Lib.indexByte [45,48,49,50,51,52,53,54,55,56,57] c < 0) == !(decide (c = 45) || isDig c)) (by decide +kernel) c
 simp only [beq_iff_eq] at this
 by_cases h1 : c = 45 <;> by_cases h2 : isDig c = true <;> simp_all
theorem dig_begins (c : UInt8) (h : c = 45 ∨ isDig c = true) : begins c = true ∧ isBlank c = false ∧ c ≠ 123 ∧ c ≠ 91 ∧ c ≠ 34 ∧ c ≠ 116 ∧ c ≠ 102 ∧ c ≠ 110:=by
 have:=all_bytes (p:=fun c => !(decide (c = 45) || isDig c) || (begins c && !isBlank c && decide (c ≠ 123) && decide (c ≠ 91) && decide (c ≠ 34) && decide (c ≠ 116) && decide (c ≠ 102) && decide (c ≠ 110))) (by decide +kernel) c
 rcases h with h|h
 ·subst h
  decide
 ·simp only [h,Bool.or_true,Bool.not_true,Bool.false_or,Bool.and_eq_true,decide_eq_true_eq,Bool.not_eq_true'] at this
  obtain ⟨⟨⟨⟨⟨⟨⟨a,b⟩,c⟩,d⟩,e⟩,f⟩,g⟩,i⟩:=this
  exact ⟨a,b,c,d,e,f,g,i⟩
theorem num_no (c : UInt8) (r : Bs) (h : ¬ (c = 45 ∨ isDig c = true)) : ∃ l e,num (c :: r) = .bad l e:=by
 have h1 : c ≠ 45:=fun e => h (.inl e)
 have h2 : isDig c = false:=by
  cases hh : isDig c with
  | false => rfl
  | true => exact absurd (.inr hh) h
 have h3 : (c == 48) = false:=by
  simp only [beq_eq_false_iff_ne,ne_eq]
  rintro rfl
  exact absurd h2 (by decide)
 refine ⟨c :: r,5,?_⟩
 have e1 : isC 45 (c :: r) = false:=by simpa [isC] using h1
 have e2 : isC 48 (c :: r) = false:=h3
 rw [num,e1]
 simp only [Bool.false_eq_true,if_false]
 rw [num1,e2]
 simp [digits,h2]
theorem digits_five (l r : Bs) (e : Int) (h : digits l = .bad r e) : e = 5:=by
 cases l with
 | nil => injection h with _ h;exact h.symm
 | cons c l =>
  simp only [digits] at h
  split at h
  ·cases h
  ·injection h with _ h;exact h.symm
theorem num_five (l r : Bs) (e : Int) (h : num l = .bad r e) : e = 5:=by
 unfold num at h
 have h1 : ∀ l r e,num1 l = .bad r e → e = 5:=by
  intro l r e h
  unfold num1 at h
  split at h
  ·cases h
  ·exact digits_five _ _ _ h
 have h2 : ∀ l r e,num2 l = .bad r e → e = 5:=by
  intro l r e h
  unfold num2 at h
  split at h
  ·exact digits_five _ _ _ h
  ·cases h
 have h3 : ∀ l r e,num3 l = .bad r e → e = 5:=by
  intro l r e h
  unfold num3 at h
  split at h
  ·split at h <;> exact digits_five _ _ _ h
  ·cases h
 split at h
 ·rename_i r1 e1 hh
  injection h with _ h
  subst h
  exact h1 _ _ _ hh
 ·split at h
  ·rename_i r1 e1 hh
   injection h with _ h
   subst h
   exact h2 _ _ _ hh
  ·exact h3 _ _ _ h
theorem number_law (a : ByteArray) (h : a.size ≤ 65536) : jsontext_number.f a = some (isNum a.data.toList):=by
 unfold jsontext_number.f
 rw [tl]
 have hs : a.data.toList.length = a.size:=by simp
 have hbk : str a.data.toList = a:=str_back a
 generalize hl : a.data.toList = l at hs hbk
 cases l with
 | nil => rw [if_pos rfl];rfl
 | cons c r =>
  rw [if_neg (by simp),if_pos (by simp at hs;omega)]
  have hb : bt a 0 = (c.toNat : Int):=by
   have h0 : 0 < a.size:=by simp at hs;omega
   unfold bt
   rw [dif_pos (by simpa using h0)]
   have : a[(0 : Int).toNat]'(by simpa using h0) = a.data.toList[0]'(by simp [hl]):=rfl
   rw [this]
   congr 2
   simp [hl]
  rw [strings_IndexByte.f,hb]
  have hc : ((c.toNat : Int)).toNat.toUInt8 = c:=by simp
  rw [hc]
  simp only [Option.bind_some]
  have hx:=idx_num c
  by_cases hd : c = 45 ∨ isDig c = true
  ·rw [if_neg (by rw [hx];exact fun hn => hn hd)]
   obtain ⟨b1,b2,b3,b4,b5,b6,b7,b8⟩:=dig_begins c hd
   have hp : parse (c :: r) = match num (c :: r) with
     | .bad r5 e => (.nil,(((c :: r).length - r5.length : Nat) : Int),e)
     | .ok r5 _ => match blanks r5 with
      | [] => (.leaf [] 4 ((c :: r).take ((c :: r).length - r5.length)) .nil,0,0)
      | c' :: r' => (.nil,(((c :: r).length - (r'.length + 1) : Nat) : Int),5):=by
    unfold parse
    rw [if_neg (by omega)]
    have e1 : blanks (c :: r) = c :: r:=by rw [blanks,b2];rfl
    rw [e1,value]
    rw [if_neg (by rw [b1];simp),if_neg b3,if_neg b4,if_neg b5,if_neg b6,if_neg b7,if_neg b8,number]
    cases num (c :: r) with
    | bad r5 e => rfl
    | ok r5 u => rfl
   have hpf : ∀ (f : F) (p e : Int),parse (c :: r) = (f,p,e) → jsontext_Parse.f a = some (f.flat,p,e):=by
    intro f p e h
    rw [jsontext_Parse.f,hl,h]
   cases hn : num (c :: r) with
   | bad r5 e =>
    obtain rfl:=num_five _ _ _ hn
    rw [hpf .nil _ 5 (by rw [hp,hn]),Option.bind_some,if_neg (show ¬ ((5 : Int) = 0) by decide),isNum,hn]
   | ok r5 u =>
    have hlt:=num_len _ _ _ hn
    cases hb5 : blanks r5 with
    | cons c' r' =>
     rw [hpf .nil (((c :: r).length - (r'.length + 1) : Nat) : Int) 5 (by rw [hp,hn];simp only;rw [hb5]),Option.bind_some,if_neg (show ¬ ((5 : Int) = 0) by decide)]
     have : r5 ≠ []:=by rintro rfl;simp [blanks] at hb5
     rw [isNum,hn]
     cases r5 with
     | nil => exact absurd rfl this
     | cons _ _ => rfl
    | nil =>
     rw [hpf (.leaf [] 4 ((c :: r).take ((c :: r).length - r5.length)) .nil) 0 0 (by rw [hp,hn];simp only;rw [hb5]),Option.bind_some,if_pos rfl]
     show (if (0 : Int) < ((1 : Nat) : Int) then (if (rd_T46 [(⟨4,1,0,str [],str (List.take ((c :: r).length - r5.length) (c :: r))⟩ : Nd)] 0).f0 = 4 then some ((rd_T46 [(⟨4,1,0,str [],str (List.take ((c :: r).length - r5.length) (c :: r))⟩ : Nd)] 0).f4.toList == c :: r) else some false) else none) = _
     rw [if_pos (by decide)]
     have e4 : ∀ t : Bs,(rd_T46 [(⟨4,1,0,str [],str t⟩ : Nd)] 0) = ⟨4,1,0,str [],str t⟩:=fun _ => rfl
     rw [e4,if_pos rfl,tl]
     congr 1
     rw [isNum,hn]
     show (List.take ((c :: r).length - r5.length) (c :: r) == c :: r) = _
     cases r5 with
     | nil => simp
     | cons c5 r6 =>
      simp only [beq_eq_false_iff_ne,ne_eq]
      intro he
      have:=congrArg List.length he
      rw [List.length_take] at this
      simp at this hlt
      omega
  ·rw [if_pos (by rw [hx];exact hd)]
   obtain ⟨l5,e5,h5⟩:=num_no c r hd
   rw [isNum,h5]
theorem wrong_law (k : Nat) (x : Nd) (keyed : Bool) (deep : Int) (hk : 3 ≤ k) (h3 : x.f3.size ≤ 9223372036854775807) (h4 : x.f4.size ≤ 9223372036854775807) :
  jsontext_wrong.f k x.f0 x.f1 x.f2 x.f3 x.f4 keyed deep = some (!(okN x keyed && decide (1 ≤ x.f1) && decide (deep < 32))):=by
 obtain ⟨k,rfl⟩ : ∃ k',k = k' + 3:=⟨k - 3,by omega⟩
 obtain ⟨f0,f1,f2,f3,f4⟩:=x
 simp only at h3 h4 ⊢
 have hv3 : utf8_ValidString.f f3 = some (Lib.validD f3.data.toList):=by rw [utf8_ValidString.f,if_pos h3]
 have hv4 : utf8_ValidString.f f4 = some (Lib.validD f4.data.toList):=by rw [utf8_ValidString.f,if_pos h4]
 have hj2 : ∀ (k : Nat) (b : Bool),jsontext_wrong.j2 (k + 1) b f0 f1 f2 f3 f4 = some (b || !(if f0 = 4 then decide (f4.size ≤ 65536) && isNum f4.data.toList else if f0 = 5 then Lib.validD f4.data.toList else f4.data.toList.isEmpty)):=by
  intro k b
  rw [jsontext_wrong.j2,hv4,tl]
  cases b with
  | true => rfl
  | false =>
   rw [if_neg (by decide)]
   by_cases c4 : f0 = 4
   ·rw [if_pos c4,if_pos c4]
    by_cases c5 : (f4.size : Int) > 65536
    ·rw [if_pos c5]
     have : ¬ f4.size ≤ 65536:=by omega
     simp [this]
    ·rw [if_neg c5,number_law f4 (by omega)]
     have : f4.size ≤ 65536:=by omega
     simp [this]
   ·rw [if_neg c4,if_neg c4]
    by_cases c5 : f0 = 5
    ·rw [if_pos c5,if_pos c5]
     rfl
    ·rw [if_neg c5,if_neg c5]
     cases f4.data.toList <;> rfl
 have hj1 : ∀ (k : Nat) (b : Bool),jsontext_wrong.j1 (k + 2) keyed b f0 f1 f2 f3 f4 = some (b || !(f3.data.toList.isEmpty || keyed) || !Lib.validD f3.data.toList || !(if f0 = 4 then decide (f4.size ≤ 65536) && isNum f4.data.toList else if f0 = 5 then Lib.validD f4.data.toList else f4.data.toList.isEmpty)):=by
  intro k b
  rw [jsontext_wrong.j1,hv3,tl]
  simp only [Option.bind_some,hj2]
  cases b <;> cases keyed <;> cases hl : f3.data.toList <;> simp
 have hj0 : ∀ (k : Nat) (b : Bool),jsontext_wrong.j0 (k + 3) keyed b f0 f1 f2 f3 f4 = some (b || (decide (0 < f2) && decide (f0 < 6)) || !(f3.data.toList.isEmpty || keyed) || !Lib.validD f3.data.toList || !(if f0 = 4 then decide (f4.size ≤ 65536) && isNum f4.data.toList else if f0 = 5 then Lib.validD f4.data.toList else f4.data.toList.isEmpty)):=by
  intro k b
  rw [jsontext_wrong.j0,hj1,hj1]
  cases b with
  | true => simp
  | false =>
   by_cases c : f2 > 0
   ·rw [if_neg (by decide),if_pos c]
    simp [c]
   ·rw [if_neg (by decide),if_neg c]
    have : ¬ 0 < f2:=by omega
    simp [this]
 rw [jsontext_wrong.f,hj0,hj0,okN]
 generalize (if f0 = 4 then decide (f4.size ≤ 65536) && isNum f4.data.toList else if f0 = 5 then Lib.validD f4.data.toList else f4.data.toList.isEmpty) = T
 generalize (f3.data.toList.isEmpty || keyed) = K
 generalize Lib.validD f3.data.toList = V
 by_cases a1 : f0 < 1
 ·have : ¬ 1 ≤ f0:=by omega
  simp [a1,this]
 ·by_cases a2 : f0 > 7
  ·have : ¬ f0 ≤ 7:=by omega
   simp [a2,this]
  ·by_cases a3 : f1 < 1
   ·have : ¬ 1 ≤ f1:=by omega
    simp [a3,this]
   ·by_cases a4 : f2 < 0
    ·have : ¬ 0 ≤ f2:=by omega
     simp [a4,this]
    ·rw [if_neg a1,if_neg a2,if_neg a3,if_neg a4]
     have b1 : 1 ≤ f0:=by omega
     have b2 : f0 ≤ 7:=by omega
     have b3 : 1 ≤ f1:=by omega
     have b4 : 0 ≤ f2:=by omega
     by_cases a5 : deep ≥ 32
     ·have : ¬ deep < 32:=by omega
      simp [a5,this]
     ·have c5 : deep < 32:=by omega
      by_cases a6 : 0 < f2 <;> by_cases a7 : f0 < 6
      ·have : ¬ f2 ≤ 0:=by omega
       have : ¬ 6 ≤ f0:=by omega
       simp [*]
      ·have : 6 ≤ f0:=by omega
       simp [*]
      ·have : f2 ≤ 0:=by omega
       simp [*]
      ·have : f2 ≤ 0:=by omega
       simp [*]
end Go.Proofs.YtadfkeipcebmfaaDoor.X
namespace Go.Proofs.YtadfkeipcebmfaaDoor.X
open Go.RowKit Go.Proofs.YtadfkeipcebmfaaDoorW.PrintWords
set_option linter.unusedVariables false
set_option linter.unusedSimpArgs false
def fit (l : List Nd) : Bool:=decide (l.length ≤ 1099511627776) && l.all fun x => decide (x.f3.size ≤ 1000000) && decide (x.f4.size ≤ 1000000) && decide (x.f2 ≤ 9223372036854775807) && decide (-9223372036854775808 ≤ x.f1) && decide (x.f1 ≤ 9223372036854775807)
theorem fit_len {l : List Nd} (h : fit l = true) : l.length ≤ 1099511627776:=by
 unfold fit at h
 simp only [Bool.and_eq_true,decide_eq_true_eq] at h
 exact h.1
theorem fit_at {l : List Nd} (h : fit l = true) {x : Nd} (hx : x ∈ l) : x.f3.size ≤ 1000000 ∧ x.f4.size ≤ 1000000 ∧ x.f2 ≤ 9223372036854775807 ∧ -9223372036854775808 ≤ x.f1 ∧ x.f1 ≤ 9223372036854775807:=by
 unfold fit at h
 simp only [Bool.and_eq_true,decide_eq_true_eq,List.all_eq_true] at h
 obtain ⟨⟨⟨⟨a,b⟩,c⟩,d⟩,e⟩:=h.2 x hx
 exact ⟨a,b,c,d,e⟩
theorem rd_cast (l : List Nd) (p : Nat) (x : Nd) (r : List Nd) (h : l.drop p = x :: r) : rd_T46 l (p : Int) = x ∧ p < l.length ∧ l.drop (p + 1) = r ∧ x ∈ l:=by
 have hp : p < l.length:=by
  have:=congrArg List.length h
  simp at this
  omega
 have e:=List.drop_eq_getElem_cons hp
 rw [h] at e
 injection e with e1 e2
 refine ⟨?_,hp,e2.symm,?_⟩
 ·unfold rd_T46
  rw [Int.toNat_natCast,List.getD_eq_getElem?_getD,List.getElem?_eq_getElem hp]
  exact e1.symm
 ·rw [e1]
  exact List.getElem_mem hp
def chk (o : Option (F × List Nd)) (p en : Nat) : Bool:=match o with
 | some (t,_) => decide (p + t.flat.length ≤ en)
 | none => false
def chks (o : Option (F × List Nd)) (p en : Nat) : Bool:=match o with
 | some (t,_) => decide (p + t.flat.length = en)
 | none => false
def ChkOk (l : List Nd) (d : Nat) : Prop:=∀ (deep : Nat) (keyed : Bool) (p en k : Nat),d + deep = 32 → p < en → en ≤ l.length → 3 * (l.length - p) + 4 ≤ k → jsontext_check.f k l (p : Int) (en : Int) keyed (deep : Int) = some (chk (dec d keyed (l.drop p)) p en)
theorem loop_law (l : List Nd) (hl : l.length ≤ 1099511627776) (d : Nat) (hd : ChkOk l d) (deep : Nat) (hdd : d + 1 + deep = 32) (f0 f1 f2 : Int) (f3 f4 : ByteArray) (at_ en : Nat) (hen : en ≤ l.length) (he1 : (en : Int) = (at_ : Int) + f1) (hN : f2 ≤ 9223372036854775807) :
  ∀ (n p : Nat) (i : Int) (k : Nat),0 ≤ i → i + n = f2 → p ≤ l.length → 3 * (l.length - p) + 5 ≤ k →
   jsontext_check.l0 k l (at_ : Int) (deep : Int) (p : Int) f2 i f0 f1 f2 f3 f4 = some (chks (kids (dec d (f0 == 7)) n (l.drop p)) p en)
 | 0,p,i,k,h0,hi,hp,hk => by
  obtain ⟨k,rfl⟩ : ∃ k',k = k' + 1:=⟨k - 1,by omega⟩
  rw [jsontext_check.l0,if_neg (by omega)]
  simp only [kids,chks,F.flat,List.length_nil,Nat.add_zero]
  rw [w64' (by omega) (by omega),← he1]
  congr 1
  by_cases h : p = en
  ·subst h
   simp
  ·refine (beq_false_of_ne (show (p : Int) ≠ (en : Int) by omega)).trans (Eq.symm ?_)
   exact decide_eq_false h
 | n + 1,p,i,k,h0,hi,hp,hk => by
  obtain ⟨k,rfl⟩ : ∃ k',k = k' + 1:=⟨k - 1,by omega⟩
  rw [jsontext_check.l0,if_pos (by omega),w64' (x:=(at_ : Int) + f1) (by omega) (by omega),← he1]
  by_cases hpe : (p : Int) ≥ (en : Int)
  ·rw [if_pos hpe]
   congr 1
   simp only [kids,chks]
   cases h1 : dec d (f0 == 7) (l.drop p) with
   | none => rfl
   | some x =>
    obtain ⟨t,r⟩:=x
    obtain ⟨a1,a2,a3⟩:=dec_ok _ _ _ _ _ h1
    have:=one_pos a2
    simp only
    cases h2 : kids (dec d (f0 == 7)) n r with
    | none => rfl
    | some y =>
     simp only [F.flat_app,List.length_append]
     exact (decide_eq_false (by omega)).symm
  ·rw [if_neg hpe,w64' (x:=(deep : Int) + 1) (by omega) (by omega)]
   have hc:=hd (deep + 1) (f0 == 7) p en k (by omega) (by omega) hen (by omega)
   rw [show ((deep : Int) + 1) = ((deep + 1 : Nat) : Int) by omega,hc]
   simp only [Option.bind_some,kids,chks,chk]
   cases h1 : dec d (f0 == 7) (l.drop p) with
   | none => simp
   | some x =>
    obtain ⟨t,r⟩:=x
    obtain ⟨a1,a2,a3⟩:=dec_ok _ _ _ _ _ h1
    have hpos:=one_pos a2
    obtain ⟨x0,tl0,hx0⟩ : ∃ x0 tl0,t.flat = x0 :: tl0:=by
     cases hf : t.flat with
     | nil => rw [hf] at hpos;simp at hpos
     | cons a b => exact ⟨a,b,rfl⟩
    obtain ⟨e1,e2,e3,e4⟩:=rd_cast l p x0 (tl0 ++ r) (by rw [a1,hx0];rfl)
    have hsz : x0.f1 = (t.flat.length : Nat):=by
     match t,a2,hx0 with
     | .leaf k1 d1 t1 .nil,_,hx0 =>
      simp only [F.flat,List.cons.injEq] at hx0
      rw [← hx0.1]
      rfl
     | .node k1 d1 ks1 .nil,_,hx0 =>
      simp only [F.flat,List.cons.injEq] at hx0
      rw [← hx0.1]
      simp [F.flat]
    simp only
    by_cases hle : p + t.flat.length ≤ en
    ·rw [if_pos (decide_eq_true hle),if_pos (by omega),if_pos (by omega),e1,hsz]
     have hlen : p + t.flat.length ≤ l.length:=by omega
     rw [w64' (by omega) (by omega),w64' (x:=i + 1) (by omega) (by omega)]
     have hr : r = l.drop (p + t.flat.length):=by
      rw [← List.drop_drop,a1]
      simp
     have:=loop_law l hl d hd deep hdd f0 f1 f2 f3 f4 at_ en hen he1 hN n (p + t.flat.length) (i + 1) k (by omega) (by omega) hlen (by omega)
     rw [show ((p : Int) + (t.flat.length : Nat)) = ((p + t.flat.length : Nat) : Int) by omega,this,← hr]
     simp only [chks]
     cases h2 : kids (dec d (f0 == 7)) n r with
     | none => rfl
     | some y =>
      simp only [F.flat_app,List.length_append,Nat.add_assoc]
    ·rw [if_neg (by simp;omega)]
     congr 1
     cases h2 : kids (dec d (f0 == 7)) n r with
     | none => rfl
     | some y =>
      simp only [F.flat_app,List.length_append]
      exact (decide_eq_false (by omega)).symm
theorem check_law (l : List Nd) (hl : fit l = true) : ∀ d,ChkOk l d
 | d,deep,keyed,p,en,k,hdd,hp,hen,hk => by
  have hlen:=fit_len hl
  obtain ⟨k,rfl⟩ : ∃ k',k = k' + 1:=⟨k - 1,by omega⟩
  obtain ⟨x,r,hx⟩ : ∃ x r,l.drop p = x :: r:=⟨_,_,List.drop_eq_getElem_cons (show p < l.length by omega)⟩
  obtain ⟨e1,e2,e3,e4⟩:=rd_cast l p x r hx
  obtain ⟨s3,s4,hn2,hs0,hs1⟩:=fit_at hl e4
  rw [jsontext_check.f,if_pos (by omega),if_pos (by omega),e1,wrong_law k x keyed deep (by omega) (by omega) (by omega)]
  simp only [Option.bind_some]
  match d,hdd with
  | 0,hdd =>
   obtain ⟨k,rfl⟩ : ∃ k',k = k' + 1:=⟨k - 1,by omega⟩
   rw [if_pos (by rw [decide_eq_false (by omega : ¬ (deep : Int) < 32)];simp),jsontext_check.j0,if_pos rfl]
   rfl
  | d + 1,hdd =>
   obtain ⟨k,rfl⟩ : ∃ k',k = k' + 1:=⟨k - 1,by omega⟩
   have hdec : dec (d + 1) keyed (x :: r) = if okN x keyed then match kids (dec d (x.f0 == 7)) x.f2.toNat r with
    | none => none
    | some (ks,r') => if x.f1 = ((r.length - r'.length + 1 : Nat) : Int) then some (if x.f0 < 6 then .leaf x.f3.data.toList x.f0 x.f4.data.toList .nil else .node x.f3.data.toList x.f0 ks .nil,r') else none
    else none:=rfl
   rw [hx,decide_eq_true (by omega : (deep : Int) < 32),Bool.and_true]
   by_cases hok : okN x keyed = true
   ·by_cases hs : 1 ≤ x.f1
    ·rw [hok,decide_eq_true hs,if_neg (by simp),jsontext_check.j0,w64' (x:=(en : Int) - (p : Int)) (by omega) (by omega)]
     by_cases hov : x.f1 > (en : Int) - (p : Int)
     ·rw [if_pos (decide_eq_true hov),hdec,if_pos hok]
      congr 1
      cases hk2 : kids (dec d (x.f0 == 7)) x.f2.toNat r with
      | none => rfl
      | some y =>
       obtain ⟨ks,r'⟩:=y
       simp only
       split
       ·rename_i hsz
        have hfl:=(dec_ok (d + 1) keyed (x :: r) _ r' (by rw [hdec,if_pos hok,hk2];simp only;rw [if_pos hsz])).1
        simp only [chk]
        have:=congrArg List.length hfl
        simp at this
        have h6:=(kids_ok (dec_ok d (x.f0 == 7)) _ _ _ _ hk2).1
        have h7:=congrArg List.length h6
        simp at h7
        exact (decide_eq_false (by omega)).symm
       ·rfl
     ·rw [if_neg (by simp;omega),w64' (x:=(p : Int) + 1) (by omega) (by omega)]
      obtain ⟨S,hS⟩ : ∃ S : Nat,x.f1 = (S : Int):=⟨x.f1.toNat,by omega⟩
      have h0 : 0 ≤ x.f2:=by
       simp only [okN,Bool.and_eq_true,decide_eq_true_eq] at hok
       omega
      have hll:=loop_law l hlen d (check_law l hl d) deep (by omega) x.f0 x.f1 x.f2 x.f3 x.f4 p (p + S) (by omega) (by omega) hn2 x.f2.toNat (p + 1) 0 k (by omega) (by omega) (by omega) (by omega)
      rw [show ((p : Int) + 1) = ((p + 1 : Nat) : Int) by omega,hll,e3,hdec,if_pos hok]
      congr 1
      cases hk2 : kids (dec d (x.f0 == 7)) x.f2.toNat r with
      | none => rfl
      | some y =>
       obtain ⟨ks,r'⟩:=y
       have h6:=(kids_ok (dec_ok d (x.f0 == 7)) _ _ _ _ hk2).1
       have h7:=congrArg List.length h6
       simp at h7
       simp only [chks]
       by_cases hsz : x.f1 = ((r.length - r'.length + 1 : Nat) : Int)
       ·rw [if_pos hsz]
        have hfl:=(dec_ok (d + 1) keyed (x :: r) _ r' (by rw [hdec,if_pos hok,hk2];simp only;rw [if_pos hsz])).1
        simp only [chk]
        have h8:=congrArg List.length hfl
        simp at h8
        rw [decide_eq_true (by omega),decide_eq_true (by omega)]
       ·rw [if_neg hsz]
        exact decide_eq_false (by omega)
    ·have hs2 : decide (1 ≤ x.f1) = false:=decide_eq_false hs
     rw [hs2,if_pos (by simp),jsontext_check.j0,if_pos rfl,hdec,if_pos hok]
     congr 1
     cases hk2 : kids (dec d (x.f0 == 7)) x.f2.toNat r with
     | none => rfl
     | some y =>
      simp only
      rw [if_neg (by omega)]
      rfl
   ·have hf : okN x keyed = false:=by simpa using hok
    rw [hf,if_pos (by simp),jsontext_check.j0,if_pos rfl,hdec,if_neg hok]
    rfl
theorem dec_size (d : Nat) (keyed : Bool) (x : Nd) (r : List Nd) (t : F) (r' : List Nd) (h : dec d keyed (x :: r) = some (t,r')) : x.f1 = (t.flat.length : Nat):=by
 obtain ⟨a1,a2,a3⟩:=dec_ok _ _ _ _ _ h
 match t,a2,a1 with
 | .leaf k1 d1 t1 .nil,_,hx0 =>
  simp only [F.flat,List.cons_append,List.cons.injEq] at hx0
  rw [hx0.1]
  rfl
 | .node k1 d1 ks1 .nil,_,hx0 =>
  simp only [F.flat,List.cons_append,List.cons.injEq] at hx0
  rw [hx0.1]
  simp [F.flat]
theorem Check_law (l : List Nd) (hl : fit l = true) (k : Nat) (hk : 3 * l.length + 4 ≤ k) : jsontext_Check.f k l = some (if (tree? l).isSome then 0 else 2):=by
 rw [jsontext_Check.f]
 cases l with
 | nil => rfl
 | cons x r =>
  have hl2:=fit_len hl
  rw [if_neg (by simp;omega),if_pos (by simp)]
  have e0 : rd_T46 (x :: r) 0 = x:=rfl
  rw [e0]
  have hc:=check_law (x :: r) hl 32 0 false 0 (x :: r).length k rfl (by simp) (Nat.le_refl _) (by omega)
  rw [show jsontext_check.f k (x :: r) 0 ((x :: r).length : Int) false 0 = _ from hc]
  simp only [List.drop_zero,Option.bind_some]
  cases hd : dec 32 false (x :: r) with
  | none =>
   have ht : tree? (x :: r) = none:=by unfold tree?;rw [hd]
   rw [ht]
   simp [chk]
  | some y =>
   obtain ⟨t,r'⟩:=y
   have hs:=dec_size _ _ _ _ _ _ hd
   have hf:=congrArg List.length (dec_ok _ _ _ _ _ hd).1
   simp only [List.length_append] at hf
   have hch : chk (some (t,r')) 0 (x :: r).length = true:=decide_eq_true (by omega)
   rw [hch]
   cases r' with
   | nil =>
    have ht : tree? (x :: r) = some t:=by unfold tree?;rw [hd]
    rw [if_pos (by simp at hf ⊢;omega),if_pos rfl,ht]
    rfl
   | cons a b =>
    have ht : tree? (x :: r) = none:=by unfold tree?;rw [hd]
    rw [if_neg (by simp at hf ⊢;omega),ht]
    rfl
end Go.Proofs.YtadfkeipcebmfaaDoor.X
namespace Go.Proofs.YtadfkeipcebmfaaDoor.X
open Go.RowKit Go.Proofs.YtadfkeipcebmfaaDoorW.PrintWords
set_option linter.unusedVariables false
set_option linter.unusedSimpArgs false
def jsontext_Print.f (l : List (S46)) : Option (ByteArray × Int) :=
 if fit l then match tree? l with
  | some t => if t.txt.length ≤ 17592186044416 then some (str t.txt,0) else none
  | none => some (⟨#[]⟩,2)
 else none
theorem write_root {t : F} (h : WriteOk t) (B b : Nat) (ad : Addr) (cp N : Nat) (l : List Nd) (w0 w : World) (hN : N = l.length) (hl : l = t.flat) (hcp : N ≤ cp) (hlen : N ≤ 1099511627776) (hbig : t.txt.length ≤ 17592186044416)
  (hC : Kd.C kN w0 (some ad) N l) (hB : w0.heap.size ≤ B) (hbel : Below w0.heap.size w0 w) (hbld : Bld B b [] w) :
  Calls Tryd.prog 37 #[.pointer (some ⟨b,0,none⟩),.slice (some ad) N cp,.int .i64 0] w fun e w' => (∃ x,e = .returned x) ∧ Bld B b t.txt w' ∧ Below B w w':=by
 have:=h.use B b ad cp N l [] [] [] w0 w hN (by rw [hl];simp) hcp hlen (by simpa [F.txt] using hbig) hC hB hbel hbld
 refine Calls.mono this ?_
 rintro e w' ⟨rfl,h2,h3,_⟩
 exact ⟨⟨_,rfl⟩,by simpa [F.txt] using h2,h3⟩
set_option maxHeartbeats 1000000 in
set_option maxRecDepth 100000 in
theorem jsontext_Print.calls (A0 : Option Addr) (c0 : Nat) (l0 : List (S46)) (r1 : ByteArray) (r2 : Int) (w : World) (hGU8 : GlobU8 w) (hr0 : Kd.C k46 w A0 l0.length l0) (hc0 : l0.length ≤ c0) (h : jsontext_Print.f l0 = some (r1,r2)) :
  Calls Tryd.prog 15 #[.slice A0 l0.length c0] w fun e w' => e = .returned (.tuple #[.string r1,.int .i64 r2]) ∧ Below w.heap.size w w':=by
 unfold jsontext_Print.f at h
 split at h
 ·rename_i hfit
  have hck:=Check_law l0 hfit (3 * l0.length + 4) (Nat.le_refl _)
  have HG:=Lib.hid hGU8
  have HR:=Lib.hid hr0
  have HC:=Lib.hid hc0
  cases ht : tree? l0 with
  | none =>
   rw [ht] at h hck
   simp only [Option.some.injEq,Prod.mk.injEq] at h
   obtain ⟨rfl,rfl⟩:=h
   have HCK : Hid (jsontext_Check.f (3 * l0.length + 4) l0 = some 2):=Lib.hid hck
   clear hck hfit ht hGU8 hr0 hc0
   go_enter Tryd.func15,Tryd.ntmps15
   go_wp2_with (go_at_call 16;refine (jsontext_Check.calls _ A0 c0 l0 2 _ HG.out HR.out HC.out HCK.out).mono ?_;rintro e w1 ⟨rfl,hb1⟩;have HB1:=Lib.hid hb1;clear hb1)
   go_ret2
   exact ⟨rfl,HB1.out⟩
  | some t =>
   rw [ht] at h hck
   simp only at h
   split at h
   ·rename_i hbig
    simp only [Option.some.injEq,Prod.mk.injEq] at h
    obtain ⟨rfl,rfl⟩:=h
    obtain ⟨e1,e2,e3⟩:=tree_flat ht
    have hlen:=fit_len hfit
    have hw:=write_all t e3 t (by
     match t,e2 with
     | .leaf _ _ _ .nil,_ => simp [F.trees]
     | .node _ _ _ .nil,_ => simp [F.trees])
    have HCK : Hid (jsontext_Check.f (3 * l0.length + 4) l0 = some 0):=Lib.hid hck
    have HW:=Lib.hid hw
    have HE:=Lib.hid e1
    have HLEN:=Lib.hid hlen
    have HBIG:=Lib.hid hbig
    obtain ⟨ad,rfl⟩ : ∃ ad,A0 = some ad:=by
     have hp:=one_pos e2
     obtain ⟨ad,e,_⟩:=at_T46 hr0 0 (Int.le_refl _) (by rw [e1];omega)
     exact ⟨ad,e⟩
    clear hck hfit ht hGU8 hr0 hc0 hw e1 e2 e3 hlen hbig
    generalize hN : l0.length = N
    have HN:=Lib.hid hN.symm
    have HR2 : Hid (Kd.C kN w (some ad) N l0):=Lib.hid (hN ▸ HR.out)
    have HC2 : Hid (N ≤ c0):=Lib.hid (hN ▸ HC.out)
    clear hN
    have hcall:=jsontext_Check.calls _ (some ad) c0 l0 0 w HG.out HR.out HC.out HCK.out
    rw [← HN.out] at hcall
    have HCALL:=Lib.hid hcall
    clear hcall
    go_enter Tryd.func15,Tryd.ntmps15
    go_upto_region 5 with (go_at_call 16;refine HCALL.out.mono ?_;rintro e w1 ⟨rfl,hb1⟩;have HB1:=Lib.hid hb1;clear hb1)
    have HBN : Hid (Bld w1.heap.size w1.heap.size [] (w1.alloc (.cells #[.pointer none,.slice none 0 0] 72 (0,0)))):=Lib.hid (bld_new w1 _ rfl)
    have HBA : Hid (Below w1.heap.size w1 (w1.alloc (.cells #[.pointer none,.slice none 0 0] 72 (0,0)))):=Lib.hid ((Below.refl _ _).alloc (Nat.le_refl _) _)
    have HLN : Hid (N ≤ 1099511627776):=Lib.hid (by rw [HN.out];exact HLEN.out)
    have HBW : Hid (Below w.heap.size w (w1.alloc (.cells #[.pointer none,.slice none 0 0] 72 (0,0)))):=Lib.hid (HB1.out.trans (HBA.out.mono HB1.out.size))
    go_wp2_with (first
     | (go_at_call 37;refine (write_root HW.out w1.heap.size w1.heap.size ad c0 N l0 w _ HN.out HE.out HC2.out HLN.out HBIG.out HR2.out HB1.out.size HBW.out HBN.out).mono ?_;rintro e w2 ⟨⟨x,rfl⟩,hb2,hbel2⟩;have HB2 : Hid (Bld w1.heap.size w1.heap.size t.txt w2):=Lib.hid hb2;have HBEL2:=Lib.hid hbel2;clear hb2 hbel2)
     | (go_at_call 38;refine (Tryd.Builder_String_any w1.heap.size w1.heap.size t.txt _ HB2.out HB2.out.lt).mono ?_;rintro e w4 ⟨rfl,hb4⟩;have HB4:=Lib.hid hb4;clear hb4))
    go_ret2
    exact ⟨rfl,HB1.out.trans ((HBA.out.trans (HBEL2.out.trans HB4.out)).mono HB1.out.size)⟩
   ·cases h
 ·cases h
end Go.Proofs.YtadfkeipcebmfaaDoor.X
namespace Go.Proofs.YtadfkeipcebmfaaDoor.X
open Go.RowKit Go.Proofs.YtadfkeipcebmfaaDoorW.PrintWords Go.Proofs.YtadfkeipcebmfaaDoorW.PrintLast Go.Proofs.YtadfkeipcebmfaaDoorW.PrintMore
attribute [local go_sem] max2_int min2_int max_two min_two max_three min_three max_four min_four
set_option linter.unusedVariables false
set_option linter.unusedSimpArgs false
def racewaylaw25_works.f  : Option (Bool):=(jsontext_Parse.f (⟨#[123,34,97,34,58,91,49,44,116,114,117,101,93,125]⟩ : ByteArray)).bind fun bt112 => ((jsontext_Print.f bt112.1).bind fun bt117 => ((jsontext_Parse.f (⟨#[91,49,44,93]⟩ : ByteArray)).bind fun bt119 => (if (bt112.1.length : Int) = 4 then (if bt112.2.1 = 0 then (if bt112.2.2 = 0 then (if 1 < (bt112.1.length : Int) then (if ((rd_T46 bt112.1 1).f3).toList = ([97] : List UInt8) then (if 2 < (bt112.1.length : Int) then (if ((rd_T46 bt112.1 2).f4).toList = ([49] : List UInt8) then (if bt117.1.toList = ([123,34,97,34,58,91,49,44,116,114,117,101,93,125] : List UInt8) then (if bt117.2 = 0 then (if bt119.2.1 = 3 then (some (bt119.2.2 == 5)) else (some false)) else (some false)) else (some false)) else (some false)) else (none)) else (some false)) else (none)) else (some false)) else (some false)) else (some false))))
set_option maxHeartbeats 8000000 in
set_option maxRecDepth 100000 in
theorem racewaylaw25_works.calls  (r : Bool) (w : World) (hGU8 : GlobU8 w) (h : racewaylaw25_works.f  = some r) :
  Calls Tryd.prog 13 #[] w fun e w' => e = .returned (.bool r) ∧ Below w.heap.size w w':=by
 have HGU8:=Aside0.mk hGU8
 clear hGU8
 have HB:=Aside0.mk (Below.refl w.heap.size w)
 have H : ((jsontext_Parse.f (⟨#[123,34,97,34,58,91,49,44,116,114,117,101,93,125]⟩ : ByteArray)).bind fun bt112 => ((jsontext_Print.f bt112.1).bind fun bt117 => ((jsontext_Parse.f (⟨#[91,49,44,93]⟩ : ByteArray)).bind fun bt119 => (if (bt112.1.length : Int) = 4 then (if bt112.2.1 = 0 then (if bt112.2.2 = 0 then (if 1 < (bt112.1.length : Int) then (if ((rd_T46 bt112.1 1).f3).toList = ([97] : List UInt8) then (if 2 < (bt112.1.length : Int) then (if ((rd_T46 bt112.1 2).f4).toList = ([49] : List UInt8) then (if bt117.1.toList = ([123,34,97,34,58,91,49,44,116,114,117,101,93,125] : List UInt8) then (if bt117.2 = 0 then (if bt119.2.1 = 3 then (some (bt119.2.2 == 5)) else (some false)) else (some false)) else (some false)) else (some false)) else (none)) else (some false)) else (none)) else (some false)) else (some false)) else (some false))))) = some r:=h
 clear h
 replace H:=Option.bind_eq_some_iff.mp H
 obtain ⟨⟨t112,t113,t114⟩,A10,H⟩:=H
 replace H : ((jsontext_Print.f t112).bind fun bt117 => ((jsontext_Parse.f (⟨#[91,49,44,93]⟩ : ByteArray)).bind fun bt119 => (if (t112.length : Int) = 4 then (if t113 = 0 then (if t114 = 0 then (if 1 < (t112.length : Int) then (if ((rd_T46 t112 1).f3).toList = ([97] : List UInt8) then (if 2 < (t112.length : Int) then (if ((rd_T46 t112 2).f4).toList = ([49] : List UInt8) then (if bt117.1.toList = ([123,34,97,34,58,91,49,44,116,114,117,101,93,125] : List UInt8) then (if bt117.2 = 0 then (if bt119.2.1 = 3 then (some (bt119.2.2 == 5)) else (some false)) else (some false)) else (some false)) else (some false)) else (none)) else (some false)) else (none)) else (some false)) else (some false)) else (some false)))) = some r:=H
 have A1:=Aside0.mk A10
 clear A10
 replace H:=Option.bind_eq_some_iff.mp H
 obtain ⟨⟨t117,t118⟩,A20,H⟩:=H
 replace H : ((jsontext_Parse.f (⟨#[91,49,44,93]⟩ : ByteArray)).bind fun bt119 => (if (t112.length : Int) = 4 then (if t113 = 0 then (if t114 = 0 then (if 1 < (t112.length : Int) then (if ((rd_T46 t112 1).f3).toList = ([97] : List UInt8) then (if 2 < (t112.length : Int) then (if ((rd_T46 t112 2).f4).toList = ([49] : List UInt8) then (if t117.toList = ([123,34,97,34,58,91,49,44,116,114,117,101,93,125] : List UInt8) then (if t118 = 0 then (if bt119.2.1 = 3 then (some (bt119.2.2 == 5)) else (some false)) else (some false)) else (some false)) else (some false)) else (none)) else (some false)) else (none)) else (some false)) else (some false)) else (some false))) = some r:=H
 have A2:=Aside0.mk A20
 clear A20
 replace H:=Option.bind_eq_some_iff.mp H
 obtain ⟨⟨t119,t120,t121⟩,A30,H⟩:=H
 replace H : (if (t112.length : Int) = 4 then (if t113 = 0 then (if t114 = 0 then (if 1 < (t112.length : Int) then (if ((rd_T46 t112 1).f3).toList = ([97] : List UInt8) then (if 2 < (t112.length : Int) then (if ((rd_T46 t112 2).f4).toList = ([49] : List UInt8) then (if t117.toList = ([123,34,97,34,58,91,49,44,116,114,117,101,93,125] : List UInt8) then (if t118 = 0 then (if t120 = 3 then (some (t121 == 5)) else (some false)) else (some false)) else (some false)) else (some false)) else (none)) else (some false)) else (none)) else (some false)) else (some false)) else (some false)) = some r:=H
 have A3:=Aside0.mk A30
 clear A30
 by_cases c4 : (t112.length : Int) = 4
 ·rw [if_pos c4] at H
  have c4b0 : ((t112.length : Int) == 4) = true:=beq_iff_eq.mpr c4
  have c4b1 : ((t112.length : Int) != 4) = false:=bne_eq_false_iff_eq.mpr c4
  clear c4
  by_cases c5 : t113 = 0
  ·rw [if_pos c5] at H
   have c5b0 : (t113 == 0) = true:=beq_iff_eq.mpr c5
   have c5b1 : (t113 != 0) = false:=bne_eq_false_iff_eq.mpr c5
   clear c5
   by_cases c6 : t114 = 0
   ·rw [if_pos c6] at H
    have c6b0 : (t114 == 0) = true:=beq_iff_eq.mpr c6
    have c6b1 : (t114 != 0) = false:=bne_eq_false_iff_eq.mpr c6
    clear c6
    by_cases c7 : 1 < (t112.length : Int)
    ·rw [if_pos c7] at H
     have c7b0 : decide (1 < (t112.length : Int)) = true:=decide_eq_true c7
     have c7b1 : decide (1 < t112.length) = true:=decide_eq_true (by omega)
     clear c7
     by_cases c8 : ((rd_T46 t112 1).f3).toList = ([97] : List UInt8)
     ·rw [if_pos c8] at H
      have c8b0 : (((rd_T46 t112 1).f3).toList == ([97] : List UInt8)) = true:=beq_iff_eq.mpr c8
      have c8b1 : (((rd_T46 t112 1).f3).toList != ([97] : List UInt8)) = false:=bne_eq_false_iff_eq.mpr c8
      clear c8
      by_cases c9 : 2 < (t112.length : Int)
      ·rw [if_pos c9] at H
       have c9b0 : decide (2 < (t112.length : Int)) = true:=decide_eq_true c9
       have c9b1 : decide (2 < t112.length) = true:=decide_eq_true (by omega)
       clear c9
       by_cases c10 : ((rd_T46 t112 2).f4).toList = ([49] : List UInt8)
       ·rw [if_pos c10] at H
        have c10b0 : (((rd_T46 t112 2).f4).toList == ([49] : List UInt8)) = true:=beq_iff_eq.mpr c10
        have c10b1 : (((rd_T46 t112 2).f4).toList != ([49] : List UInt8)) = false:=bne_eq_false_iff_eq.mpr c10
        clear c10
        by_cases c11 : t117.toList = ([123,34,97,34,58,91,49,44,116,114,117,101,93,125] : List UInt8)
        ·rw [if_pos c11] at H
         have c11b0 : (t117.toList == ([123,34,97,34,58,91,49,44,116,114,117,101,93,125] : List UInt8)) = true:=beq_iff_eq.mpr c11
         have c11b1 : (t117.toList != ([123,34,97,34,58,91,49,44,116,114,117,101,93,125] : List UInt8)) = false:=bne_eq_false_iff_eq.mpr c11
         clear c11
         by_cases c12 : t118 = 0
         ·rw [if_pos c12] at H
          have c12b0 : (t118 == 0) = true:=beq_iff_eq.mpr c12
          have c12b1 : (t118 != 0) = false:=bne_eq_false_iff_eq.mpr c12
          clear c12
          by_cases c13 : t120 = 3
          ·rw [if_pos c13] at H
           have c13b0 : (t120 == 3) = true:=beq_iff_eq.mpr c13
           have c13b1 : (t120 != 3) = false:=bne_eq_false_iff_eq.mpr c13
           clear c13
           obtain rfl:=Option.some.inj H
           go_enter Tryd.func13,Tryd.ntmps13
           go_wp2_with (first|((with_reducible refine gate_callee (f:=10) rfl ?_);refine goesL_ (some 10) rfl rfl Tryd.func10 (by kernel_rfl) rfl #[.string (⟨#[123,34,97,34,58,91,49,44,116,114,117,101,93,125]⟩ : ByteArray)] rfl (by (try simp only [List.map_toArray,List.map_cons,List.map_nil]);first|done|rfl|(simp only [List.length_drop,List.length_take];rfl)) ?_;(with_reducible refine (jsontext_Parse.calls (⟨#[123,34,97,34,58,91,49,44,116,114,117,101,93,125]⟩ : ByteArray) t112 t113 t114 _ ?side1 A1.out).mono ?_);(case side1 => first|exact HGU8.out|exact GlobU8.below HGU8.out (by repeat (first|(with_reducible first|exact HB.out|apply below_alloc|apply pw_below_drewN|apply below_drew1)|exact HB.out))|exact GlobU8.drawn HGU8.out (by repeat (first|exact Drawn0.refl _|apply Drawn0.step)));rintro e w14 ⟨v115,rfl,ho0,hb⟩;refine ⟨_,rfl,?_⟩;have n0_:=Aside0.mk (Kd.R_lower ho0 (below_size (by repeat (first|(with_reducible first|exact HB.out|apply below_alloc|apply pw_below_drewN|apply below_drew1)|exact HB.out))));have n1_:=Aside0.mk (below_step (by repeat (first|(with_reducible first|exact HB.out|apply below_alloc|apply pw_below_drewN|apply below_drew1)|exact HB.out)) hb);clear HB;have HO116:=n0_;have HB:=n1_;clear n0_ n1_;(try clear hb);(try clear hb2);(try clear hk);(try clear hi);(try clear ho0);obtain ⟨Ao15,co15,eo15⟩:=Kd.R_slice HO116.out;subst eo15)|((with_reducible refine gate_callee (f:=15) rfl ?_);refine goesL_ (some 16) rfl rfl Tryd.func15 (by kernel_rfl) rfl #[.slice Ao15 t112.length co15] rfl (by (try simp only [List.map_toArray,List.map_cons,List.map_nil]);first|done|rfl|(simp only [List.length_drop,List.length_take];rfl)) ?_;(with_reducible refine (jsontext_Print.calls _ _ t112 t117 t118 _ ?side3 ?side1 ?side2 A2.out).mono ?_);(case side1 => repeat (first|exact (Kd.R_reads' HO116.out).2.2|(with_reducible refine Kd.C_alloc ?_ _)|(with_reducible refine Kd.C_drewN ?_ _)|(with_reducible refine Kd.C_drew ?_)));(case side2 => exact (Kd.R_reads' HO116.out).2.1);(case side3 => first|exact HGU8.out|exact GlobU8.below HGU8.out (by repeat (first|(with_reducible first|exact HB.out|apply below_alloc|apply pw_below_drewN|apply below_drew1)|exact HB.out))|exact GlobU8.drawn HGU8.out (by repeat (first|exact Drawn0.refl _|apply Drawn0.step)));rintro e w16 ⟨rfl,hb⟩;refine ⟨_,rfl,?_⟩;have n0_:=Aside0.mk (Kd.R_below (by (with_reducible repeat (first|apply Kd.R_alloc|apply Kd.R_drewN|apply Kd.R_drew));exact HO116.out) hb);have n1_:=Aside0.mk (below_step (by repeat (first|(with_reducible first|exact HB.out|apply below_alloc|apply pw_below_drewN|apply below_drew1)|exact HB.out)) hb);clear HO116;clear HB;have HO116:=n0_;have HB:=n1_;clear n0_ n1_;(try clear hb);(try clear hb2);(try clear hk);(try clear hi))|((with_reducible refine gate_callee (f:=10) rfl ?_);refine goesL_ (some 20) rfl rfl Tryd.func10 (by kernel_rfl) rfl #[.string (⟨#[91,49,44,93]⟩ : ByteArray)] rfl (by (try simp only [List.map_toArray,List.map_cons,List.map_nil]);first|done|rfl|(simp only [List.length_drop,List.length_take];rfl)) ?_;(with_reducible refine (jsontext_Parse.calls (⟨#[91,49,44,93]⟩ : ByteArray) t119 t120 t121 _ ?side1 A3.out).mono ?_);(case side1 => first|exact HGU8.out|exact GlobU8.below HGU8.out (by repeat (first|(with_reducible first|exact HB.out|apply below_alloc|apply pw_below_drewN|apply below_drew1)|exact HB.out))|exact GlobU8.drawn HGU8.out (by repeat (first|exact Drawn0.refl _|apply Drawn0.step)));rintro e w17 ⟨v122,rfl,ho0,hb⟩;refine ⟨_,rfl,?_⟩;have n0_:=Aside0.mk (Kd.R_elder' (by (with_reducible repeat (first|apply Kd.R_alloc|apply Kd.R_drewN|apply Kd.R_drew));exact HO116.out) (Kd.R_base ho0) hb);have n1_:=Aside0.mk (Kd.R_lower (Kd.R_new' ho0 (Kd.R_lt (by (with_reducible repeat (first|apply Kd.R_alloc|apply Kd.R_drewN|apply Kd.R_drew));exact HO116.out))) (below_size (by repeat (first|(with_reducible first|exact HB.out|apply below_alloc|apply pw_below_drewN|apply below_drew1)|exact HB.out))));have n2_:=Aside0.mk (below_step (by repeat (first|(with_reducible first|exact HB.out|apply below_alloc|apply pw_below_drewN|apply below_drew1)|exact HB.out)) hb);clear HO116;clear HB;have HO116:=n0_;have HO123:=n1_;have HB:=n2_;clear n0_ n1_ n2_;(try clear hb);(try clear hb2);(try clear hk);(try clear hi);(try clear ho0);have p124 : 0 ≤ (1 : Int):=(by omega);have q124 : 1 < (t112.length : Int):=of_decide_eq_true (by first|(with_reducible assumption)|assumption);obtain ⟨ad124,e124,hx124_0,hx124_1,hx124_2,hx124_3,hx124_4⟩:=at_T46 (Kd.R_reads' HO116.out).2.2 1 p124 q124;cases e124;(try simp only [show (1 : Int).toNat = 1 from rfl,Nat.reduceMul,Nat.reduceEqDiff,Go.Addr.add,↓reduceIte] at hx124_0);(try simp only [show (1 : Int).toNat = 1 from rfl,Nat.reduceMul,Nat.reduceEqDiff,Go.Addr.add,↓reduceIte] at hx124_1);(try simp only [show (1 : Int).toNat = 1 from rfl,Nat.reduceMul,Nat.reduceEqDiff,Go.Addr.add,↓reduceIte] at hx124_2);(try simp only [show (1 : Int).toNat = 1 from rfl,Nat.reduceMul,Nat.reduceEqDiff,Go.Addr.add,↓reduceIte] at hx124_3);(try simp only [show (1 : Int).toNat = 1 from rfl,Nat.reduceMul,Nat.reduceEqDiff,Go.Addr.add,↓reduceIte] at hx124_4);have qi124 : (1 < t112.length) = True:=eq_true (by omega);(try rw [show ((1 : Int)).toNat = 1 from rfl] at hx124_0);(try rw [show 1 * 5 = 5 from rfl] at hx124_0);(try rw [show ((1 : Int)).toNat = 1 from rfl] at hx124_1);(try rw [show 1 * 5 = 5 from rfl] at hx124_1);(try rw [show ((1 : Int)).toNat = 1 from rfl] at hx124_2);(try rw [show 1 * 5 = 5 from rfl] at hx124_2);(try rw [show ((1 : Int)).toNat = 1 from rfl] at hx124_3);(try rw [show 1 * 5 = 5 from rfl] at hx124_3);(try rw [show ((1 : Int)).toNat = 1 from rfl] at hx124_4);(try rw [show 1 * 5 = 5 from rfl] at hx124_4);replace p124:=eq_true p124;replace q124:=eq_true q124;have p125 : 0 ≤ (2 : Int):=(by omega);have q125 : 2 < (t112.length : Int):=of_decide_eq_true (by first|(with_reducible assumption)|assumption);obtain ⟨ad125,e125,hx125_0,hx125_1,hx125_2,hx125_3,hx125_4⟩:=at_T46 (Kd.R_reads' HO116.out).2.2 2 p125 q125;obtain rfl : ad124 = ad125:=(by injection e125);(try simp only [show (2 : Int).toNat = 2 from rfl,Nat.reduceMul,Nat.reduceEqDiff,Go.Addr.add,↓reduceIte] at hx125_0);(try simp only [show (2 : Int).toNat = 2 from rfl,Nat.reduceMul,Nat.reduceEqDiff,Go.Addr.add,↓reduceIte] at hx125_1);(try simp only [show (2 : Int).toNat = 2 from rfl,Nat.reduceMul,Nat.reduceEqDiff,Go.Addr.add,↓reduceIte] at hx125_2);(try simp only [show (2 : Int).toNat = 2 from rfl,Nat.reduceMul,Nat.reduceEqDiff,Go.Addr.add,↓reduceIte] at hx125_3);(try simp only [show (2 : Int).toNat = 2 from rfl,Nat.reduceMul,Nat.reduceEqDiff,Go.Addr.add,↓reduceIte] at hx125_4);have qi125 : (2 < t112.length) = True:=eq_true (by omega);(try rw [show ((2 : Int)).toNat = 2 from rfl] at hx125_0);(try rw [show 2 * 5 = 10 from rfl] at hx125_0);(try rw [show ((2 : Int)).toNat = 2 from rfl] at hx125_1);(try rw [show 2 * 5 = 10 from rfl] at hx125_1);(try rw [show ((2 : Int)).toNat = 2 from rfl] at hx125_2);(try rw [show 2 * 5 = 10 from rfl] at hx125_2);(try rw [show ((2 : Int)).toNat = 2 from rfl] at hx125_3);(try rw [show 2 * 5 = 10 from rfl] at hx125_3);(try rw [show ((2 : Int)).toNat = 2 from rfl] at hx125_4);(try rw [show 2 * 5 = 10 from rfl] at hx125_4);replace p125:=eq_true p125;replace q125:=eq_true q125))
           go_ret
           exact ⟨by first|rfl|(simp [errW_none,errW_some] <;> rfl)|(simp [*,errW_none,errW_some] <;> rfl),by repeat (first|(with_reducible first|exact HB.out|apply below_alloc|apply pw_below_drewN|apply below_drew1)|exact HB.out)⟩
          ·rw [if_neg c13] at H
           have c13b0 : (t120 == 3) = false:=beq_eq_false_iff_ne.mpr c13
           have c13b1 : (t120 != 3) = true:=bne_iff_ne.mpr c13
           obtain rfl:=Option.some.inj H
           go_enter Tryd.func13,Tryd.ntmps13
           go_wp2_with (first|((with_reducible refine gate_callee (f:=10) rfl ?_);refine goesL_ (some 10) rfl rfl Tryd.func10 (by kernel_rfl) rfl #[.string (⟨#[123,34,97,34,58,91,49,44,116,114,117,101,93,125]⟩ : ByteArray)] rfl (by (try simp only [List.map_toArray,List.map_cons,List.map_nil]);first|done|rfl|(simp only [List.length_drop,List.length_take];rfl)) ?_;(with_reducible refine (jsontext_Parse.calls (⟨#[123,34,97,34,58,91,49,44,116,114,117,101,93,125]⟩ : ByteArray) t112 t113 t114 _ ?side1 A1.out).mono ?_);(case side1 => first|exact HGU8.out|exact GlobU8.below HGU8.out (by repeat (first|(with_reducible first|exact HB.out|apply below_alloc|apply pw_below_drewN|apply below_drew1)|exact HB.out))|exact GlobU8.drawn HGU8.out (by repeat (first|exact Drawn0.refl _|apply Drawn0.step)));rintro e w18 ⟨v115,rfl,ho0,hb⟩;refine ⟨_,rfl,?_⟩;have n0_:=Aside0.mk (Kd.R_lower ho0 (below_size (by repeat (first|(with_reducible first|exact HB.out|apply below_alloc|apply pw_below_drewN|apply below_drew1)|exact HB.out))));have n1_:=Aside0.mk (below_step (by repeat (first|(with_reducible first|exact HB.out|apply below_alloc|apply pw_below_drewN|apply below_drew1)|exact HB.out)) hb);clear HB;have HO116:=n0_;have HB:=n1_;clear n0_ n1_;(try clear hb);(try clear hb2);(try clear hk);(try clear hi);(try clear ho0);obtain ⟨Ao19,co19,eo19⟩:=Kd.R_slice HO116.out;subst eo19)|((with_reducible refine gate_callee (f:=15) rfl ?_);refine goesL_ (some 16) rfl rfl Tryd.func15 (by kernel_rfl) rfl #[.slice Ao19 t112.length co19] rfl (by (try simp only [List.map_toArray,List.map_cons,List.map_nil]);first|done|rfl|(simp only [List.length_drop,List.length_take];rfl)) ?_;(with_reducible refine (jsontext_Print.calls _ _ t112 t117 t118 _ ?side3 ?side1 ?side2 A2.out).mono ?_);(case side1 => repeat (first|exact (Kd.R_reads' HO116.out).2.2|(with_reducible refine Kd.C_alloc ?_ _)|(with_reducible refine Kd.C_drewN ?_ _)|(with_reducible refine Kd.C_drew ?_)));(case side2 => exact (Kd.R_reads' HO116.out).2.1);(case side3 => first|exact HGU8.out|exact GlobU8.below HGU8.out (by repeat (first|(with_reducible first|exact HB.out|apply below_alloc|apply pw_below_drewN|apply below_drew1)|exact HB.out))|exact GlobU8.drawn HGU8.out (by repeat (first|exact Drawn0.refl _|apply Drawn0.step)));rintro e w20 ⟨rfl,hb⟩;refine ⟨_,rfl,?_⟩;have n0_:=Aside0.mk (Kd.R_below (by (with_reducible repeat (first|apply Kd.R_alloc|apply Kd.R_drewN|apply Kd.R_drew));exact HO116.out) hb);have n1_:=Aside0.mk (below_step (by repeat (first|(with_reducible first|exact HB.out|apply below_alloc|apply pw_below_drewN|apply below_drew1)|exact HB.out)) hb);clear HO116;clear HB;have HO116:=n0_;have HB:=n1_;clear n0_ n1_;(try clear hb);(try clear hb2);(try clear hk);(try clear hi))|((with_reducible refine gate_callee (f:=10) rfl ?_);refine goesL_ (some 20) rfl rfl Tryd.func10 (by kernel_rfl) rfl #[.string (⟨#[91,49,44,93]⟩ : ByteArray)] rfl (by (try simp only [List.map_toArray,List.map_cons,List.map_nil]);first|done|rfl|(simp only [List.length_drop,List.length_take];rfl)) ?_;(with_reducible refine (jsontext_Parse.calls (⟨#[91,49,44,93]⟩ : ByteArray) t119 t120 t121 _ ?side1 A3.out).mono ?_);(case side1 => first|exact HGU8.out|exact GlobU8.below HGU8.out (by repeat (first|(with_reducible first|exact HB.out|apply below_alloc|apply pw_below_drewN|apply below_drew1)|exact HB.out))|exact GlobU8.drawn HGU8.out (by repeat (first|exact Drawn0.refl _|apply Drawn0.step)));rintro e w21 ⟨v122,rfl,ho0,hb⟩;refine ⟨_,rfl,?_⟩;have n0_:=Aside0.mk (Kd.R_elder' (by (with_reducible repeat (first|apply Kd.R_alloc|apply Kd.R_drewN|apply Kd.R_drew));exact HO116.out) (Kd.R_base ho0) hb);have n1_:=Aside0.mk (Kd.R_lower (Kd.R_new' ho0 (Kd.R_lt (by (with_reducible repeat (first|apply Kd.R_alloc|apply Kd.R_drewN|apply Kd.R_drew));exact HO116.out))) (below_size (by repeat (first|(with_reducible first|exact HB.out|apply below_alloc|apply pw_below_drewN|apply below_drew1)|exact HB.out))));have n2_:=Aside0.mk (below_step (by repeat (first|(with_reducible first|exact HB.out|apply below_alloc|apply pw_below_drewN|apply below_drew1)|exact HB.out)) hb);clear HO116;clear HB;have HO116:=n0_;have HO123:=n1_;have HB:=n2_;clear n0_ n1_ n2_;(try clear hb);(try clear hb2);(try clear hk);(try clear hi);(try clear ho0);have p124 : 0 ≤ (1 : Int):=(by omega);have q124 : 1 < (t112.length : Int):=of_decide_eq_true (by first|(with_reducible assumption)|assumption);obtain ⟨ad124,e124,hx124_0,hx124_1,hx124_2,hx124_3,hx124_4⟩:=at_T46 (Kd.R_reads' HO116.out).2.2 1 p124 q124;cases e124;(try simp only [show (1 : Int).toNat = 1 from rfl,Nat.reduceMul,Nat.reduceEqDiff,Go.Addr.add,↓reduceIte] at hx124_0);(try simp only [show (1 : Int).toNat = 1 from rfl,Nat.reduceMul,Nat.reduceEqDiff,Go.Addr.add,↓reduceIte] at hx124_1);(try simp only [show (1 : Int).toNat = 1 from rfl,Nat.reduceMul,Nat.reduceEqDiff,Go.Addr.add,↓reduceIte] at hx124_2);(try simp only [show (1 : Int).toNat = 1 from rfl,Nat.reduceMul,Nat.reduceEqDiff,Go.Addr.add,↓reduceIte] at hx124_3);(try simp only [show (1 : Int).toNat = 1 from rfl,Nat.reduceMul,Nat.reduceEqDiff,Go.Addr.add,↓reduceIte] at hx124_4);have qi124 : (1 < t112.length) = True:=eq_true (by omega);(try rw [show ((1 : Int)).toNat = 1 from rfl] at hx124_0);(try rw [show 1 * 5 = 5 from rfl] at hx124_0);(try rw [show ((1 : Int)).toNat = 1 from rfl] at hx124_1);(try rw [show 1 * 5 = 5 from rfl] at hx124_1);(try rw [show ((1 : Int)).toNat = 1 from rfl] at hx124_2);(try rw [show 1 * 5 = 5 from rfl] at hx124_2);(try rw [show ((1 : Int)).toNat = 1 from rfl] at hx124_3);(try rw [show 1 * 5 = 5 from rfl] at hx124_3);(try rw [show ((1 : Int)).toNat = 1 from rfl] at hx124_4);(try rw [show 1 * 5 = 5 from rfl] at hx124_4);replace p124:=eq_true p124;replace q124:=eq_true q124;have p125 : 0 ≤ (2 : Int):=(by omega);have q125 : 2 < (t112.length : Int):=of_decide_eq_true (by first|(with_reducible assumption)|assumption);obtain ⟨ad125,e125,hx125_0,hx125_1,hx125_2,hx125_3,hx125_4⟩:=at_T46 (Kd.R_reads' HO116.out).2.2 2 p125 q125;obtain rfl : ad124 = ad125:=(by injection e125);(try simp only [show (2 : Int).toNat = 2 from rfl,Nat.reduceMul,Nat.reduceEqDiff,Go.Addr.add,↓reduceIte] at hx125_0);(try simp only [show (2 : Int).toNat = 2 from rfl,Nat.reduceMul,Nat.reduceEqDiff,Go.Addr.add,↓reduceIte] at hx125_1);(try simp only [show (2 : Int).toNat = 2 from rfl,Nat.reduceMul,Nat.reduceEqDiff,Go.Addr.add,↓reduceIte] at hx125_2);(try simp only [show (2 : Int).toNat = 2 from rfl,Nat.reduceMul,Nat.reduceEqDiff,Go.Addr.add,↓reduceIte] at hx125_3);(try simp only [show (2 : Int).toNat = 2 from rfl,Nat.reduceMul,Nat.reduceEqDiff,Go.Addr.add,↓reduceIte] at hx125_4);have qi125 : (2 < t112.length) = True:=eq_true (by omega);(try rw [show ((2 : Int)).toNat = 2 from rfl] at hx125_0);(try rw [show 2 * 5 = 10 from rfl] at hx125_0);(try rw [show ((2 : Int)).toNat = 2 from rfl] at hx125_1);(try rw [show 2 * 5 = 10 from rfl] at hx125_1);(try rw [show ((2 : Int)).toNat = 2 from rfl] at hx125_2);(try rw [show 2 * 5 = 10 from rfl] at hx125_2);(try rw [show ((2 : Int)).toNat = 2 from rfl] at hx125_3);(try rw [show 2 * 5 = 10 from rfl] at hx125_3);(try rw [show ((2 : Int)).toNat = 2 from rfl] at hx125_4);(try rw [show 2 * 5 = 10 from rfl] at hx125_4);replace p125:=eq_true p125;replace q125:=eq_true q125))
           go_ret
           exact ⟨by first|rfl|(simp [errW_none,errW_some] <;> rfl)|(simp [*,errW_none,errW_some] <;> rfl),by repeat (first|(with_reducible first|exact HB.out|apply below_alloc|apply pw_below_drewN|apply below_drew1)|exact HB.out)⟩
         ·rw [if_neg c12] at H
          have c12b0 : (t118 == 0) = false:=beq_eq_false_iff_ne.mpr c12
          have c12b1 : (t118 != 0) = true:=bne_iff_ne.mpr c12
          obtain rfl:=Option.some.inj H
          go_enter Tryd.func13,Tryd.ntmps13
          go_wp2_with (first|((with_reducible refine gate_callee (f:=10) rfl ?_);refine goesL_ (some 10) rfl rfl Tryd.func10 (by kernel_rfl) rfl #[.string (⟨#[123,34,97,34,58,91,49,44,116,114,117,101,93,125]⟩ : ByteArray)] rfl (by (try simp only [List.map_toArray,List.map_cons,List.map_nil]);first|done|rfl|(simp only [List.length_drop,List.length_take];rfl)) ?_;(with_reducible refine (jsontext_Parse.calls (⟨#[123,34,97,34,58,91,49,44,116,114,117,101,93,125]⟩ : ByteArray) t112 t113 t114 _ ?side1 A1.out).mono ?_);(case side1 => first|exact HGU8.out|exact GlobU8.below HGU8.out (by repeat (first|(with_reducible first|exact HB.out|apply below_alloc|apply pw_below_drewN|apply below_drew1)|exact HB.out))|exact GlobU8.drawn HGU8.out (by repeat (first|exact Drawn0.refl _|apply Drawn0.step)));rintro e w22 ⟨v115,rfl,ho0,hb⟩;refine ⟨_,rfl,?_⟩;have n0_:=Aside0.mk (Kd.R_lower ho0 (below_size (by repeat (first|(with_reducible first|exact HB.out|apply below_alloc|apply pw_below_drewN|apply below_drew1)|exact HB.out))));have n1_:=Aside0.mk (below_step (by repeat (first|(with_reducible first|exact HB.out|apply below_alloc|apply pw_below_drewN|apply below_drew1)|exact HB.out)) hb);clear HB;have HO116:=n0_;have HB:=n1_;clear n0_ n1_;(try clear hb);(try clear hb2);(try clear hk);(try clear hi);(try clear ho0);obtain ⟨Ao23,co23,eo23⟩:=Kd.R_slice HO116.out;subst eo23)|((with_reducible refine gate_callee (f:=15) rfl ?_);refine goesL_ (some 16) rfl rfl Tryd.func15 (by kernel_rfl) rfl #[.slice Ao23 t112.length co23] rfl (by (try simp only [List.map_toArray,List.map_cons,List.map_nil]);first|done|rfl|(simp only [List.length_drop,List.length_take];rfl)) ?_;(with_reducible refine (jsontext_Print.calls _ _ t112 t117 t118 _ ?side3 ?side1 ?side2 A2.out).mono ?_);(case side1 => repeat (first|exact (Kd.R_reads' HO116.out).2.2|(with_reducible refine Kd.C_alloc ?_ _)|(with_reducible refine Kd.C_drewN ?_ _)|(with_reducible refine Kd.C_drew ?_)));(case side2 => exact (Kd.R_reads' HO116.out).2.1);(case side3 => first|exact HGU8.out|exact GlobU8.below HGU8.out (by repeat (first|(with_reducible first|exact HB.out|apply below_alloc|apply pw_below_drewN|apply below_drew1)|exact HB.out))|exact GlobU8.drawn HGU8.out (by repeat (first|exact Drawn0.refl _|apply Drawn0.step)));rintro e w24 ⟨rfl,hb⟩;refine ⟨_,rfl,?_⟩;have n0_:=Aside0.mk (Kd.R_below (by (with_reducible repeat (first|apply Kd.R_alloc|apply Kd.R_drewN|apply Kd.R_drew));exact HO116.out) hb);have n1_:=Aside0.mk (below_step (by repeat (first|(with_reducible first|exact HB.out|apply below_alloc|apply pw_below_drewN|apply below_drew1)|exact HB.out)) hb);clear HO116;clear HB;have HO116:=n0_;have HB:=n1_;clear n0_ n1_;(try clear hb);(try clear hb2);(try clear hk);(try clear hi))|((with_reducible refine gate_callee (f:=10) rfl ?_);refine goesL_ (some 20) rfl rfl Tryd.func10 (by kernel_rfl) rfl #[.string (⟨#[91,49,44,93]⟩ : ByteArray)] rfl (by (try simp only [List.map_toArray,List.map_cons,List.map_nil]);first|done|rfl|(simp only [List.length_drop,List.length_take];rfl)) ?_;(with_reducible refine (jsontext_Parse.calls (⟨#[91,49,44,93]⟩ : ByteArray) t119 t120 t121 _ ?side1 A3.out).mono ?_);(case side1 => first|exact HGU8.out|exact GlobU8.below HGU8.out (by repeat (first|(with_reducible first|exact HB.out|apply below_alloc|apply pw_below_drewN|apply below_drew1)|exact HB.out))|exact GlobU8.drawn HGU8.out (by repeat (first|exact Drawn0.refl _|apply Drawn0.step)));rintro e w25 ⟨v122,rfl,ho0,hb⟩;refine ⟨_,rfl,?_⟩;have n0_:=Aside0.mk (Kd.R_elder' (by (with_reducible repeat (first|apply Kd.R_alloc|apply Kd.R_drewN|apply Kd.R_drew));exact HO116.out) (Kd.R_base ho0) hb);have n1_:=Aside0.mk (Kd.R_lower (Kd.R_new' ho0 (Kd.R_lt (by (with_reducible repeat (first|apply Kd.R_alloc|apply Kd.R_drewN|apply Kd.R_drew));exact HO116.out))) (below_size (by repeat (first|(with_reducible first|exact HB.out|apply below_alloc|apply pw_below_drewN|apply below_drew1)|exact HB.out))));have n2_:=Aside0.mk (below_step (by repeat (first|(with_reducible first|exact HB.out|apply below_alloc|apply pw_below_drewN|apply below_drew1)|exact HB.out)) hb);clear HO116;clear HB;have HO116:=n0_;have HO123:=n1_;have HB:=n2_;clear n0_ n1_ n2_;(try clear hb);(try clear hb2);(try clear hk);(try clear hi);(try clear ho0);have p124 : 0 ≤ (1 : Int):=(by omega);have q124 : 1 < (t112.length : Int):=of_decide_eq_true (by first|(with_reducible assumption)|assumption);obtain ⟨ad124,e124,hx124_0,hx124_1,hx124_2,hx124_3,hx124_4⟩:=at_T46 (Kd.R_reads' HO116.out).2.2 1 p124 q124;cases e124;(try simp only [show (1 : Int).toNat = 1 from rfl,Nat.reduceMul,Nat.reduceEqDiff,Go.Addr.add,↓reduceIte] at hx124_0);(try simp only [show (1 : Int).toNat = 1 from rfl,Nat.reduceMul,Nat.reduceEqDiff,Go.Addr.add,↓reduceIte] at hx124_1);(try simp only [show (1 : Int).toNat = 1 from rfl,Nat.reduceMul,Nat.reduceEqDiff,Go.Addr.add,↓reduceIte] at hx124_2);(try simp only [show (1 : Int).toNat = 1 from rfl,Nat.reduceMul,Nat.reduceEqDiff,Go.Addr.add,↓reduceIte] at hx124_3);(try simp only [show (1 : Int).toNat = 1 from rfl,Nat.reduceMul,Nat.reduceEqDiff,Go.Addr.add,↓reduceIte] at hx124_4);have qi124 : (1 < t112.length) = True:=eq_true (by omega);(try rw [show ((1 : Int)).toNat = 1 from rfl] at hx124_0);(try rw [show 1 * 5 = 5 from rfl] at hx124_0);(try rw [show ((1 : Int)).toNat = 1 from rfl] at hx124_1);(try rw [show 1 * 5 = 5 from rfl] at hx124_1);(try rw [show ((1 : Int)).toNat = 1 from rfl] at hx124_2);(try rw [show 1 * 5 = 5 from rfl] at hx124_2);(try rw [show ((1 : Int)).toNat = 1 from rfl] at hx124_3);(try rw [show 1 * 5 = 5 from rfl] at hx124_3);(try rw [show ((1 : Int)).toNat = 1 from rfl] at hx124_4);(try rw [show 1 * 5 = 5 from rfl] at hx124_4);replace p124:=eq_true p124;replace q124:=eq_true q124;have p125 : 0 ≤ (2 : Int):=(by omega);have q125 : 2 < (t112.length : Int):=of_decide_eq_true (by first|(with_reducible assumption)|assumption);obtain ⟨ad125,e125,hx125_0,hx125_1,hx125_2,hx125_3,hx125_4⟩:=at_T46 (Kd.R_reads' HO116.out).2.2 2 p125 q125;obtain rfl : ad124 = ad125:=(by injection e125);(try simp only [show (2 : Int).toNat = 2 from rfl,Nat.reduceMul,Nat.reduceEqDiff,Go.Addr.add,↓reduceIte] at hx125_0);(try simp only [show (2 : Int).toNat = 2 from rfl,Nat.reduceMul,Nat.reduceEqDiff,Go.Addr.add,↓reduceIte] at hx125_1);(try simp only [show (2 : Int).toNat = 2 from rfl,Nat.reduceMul,Nat.reduceEqDiff,Go.Addr.add,↓reduceIte] at hx125_2);(try simp only [show (2 : Int).toNat = 2 from rfl,Nat.reduceMul,Nat.reduceEqDiff,Go.Addr.add,↓reduceIte] at hx125_3);(try simp only [show (2 : Int).toNat = 2 from rfl,Nat.reduceMul,Nat.reduceEqDiff,Go.Addr.add,↓reduceIte] at hx125_4);have qi125 : (2 < t112.length) = True:=eq_true (by omega);(try rw [show ((2 : Int)).toNat = 2 from rfl] at hx125_0);(try rw [show 2 * 5 = 10 from rfl] at hx125_0);(try rw [show ((2 : Int)).toNat = 2 from rfl] at hx125_1);(try rw [show 2 * 5 = 10 from rfl] at hx125_1);(try rw [show ((2 : Int)).toNat = 2 from rfl] at hx125_2);(try rw [show 2 * 5 = 10 from rfl] at hx125_2);(try rw [show ((2 : Int)).toNat = 2 from rfl] at hx125_3);(try rw [show 2 * 5 = 10 from rfl] at hx125_3);(try rw [show ((2 : Int)).toNat = 2 from rfl] at hx125_4);(try rw [show 2 * 5 = 10 from rfl] at hx125_4);replace p125:=eq_true p125;replace q125:=eq_true q125))
          go_ret
          exact ⟨by first|rfl|(simp [errW_none,errW_some] <;> rfl)|(simp [*,errW_none,errW_some] <;> rfl),by repeat (first|(with_reducible first|exact HB.out|apply below_alloc|apply pw_below_drewN|apply below_drew1)|exact HB.out)⟩
        ·rw [if_neg c11] at H
         have c11b0 : (t117.toList == ([123,34,97,34,58,91,49,44,116,114,117,101,93,125] : List UInt8)) = false:=beq_eq_false_iff_ne.mpr c11
         have c11b1 : (t117.toList != ([123,34,97,34,58,91,49,44,116,114,117,101,93,125] : List UInt8)) = true:=bne_iff_ne.mpr c11
         obtain rfl:=Option.some.inj H
         go_enter Tryd.func13,Tryd.ntmps13
         go_wp2_with (first|((with_reducible refine gate_callee (f:=10) rfl ?_);refine goesL_ (some 10) rfl rfl Tryd.func10 (by kernel_rfl) rfl #[.string (⟨#[123,34,97,34,58,91,49,44,116,114,117,101,93,125]⟩ : ByteArray)] rfl (by (try simp only [List.map_toArray,List.map_cons,List.map_nil]);first|done|rfl|(simp only [List.length_drop,List.length_take];rfl)) ?_;(with_reducible refine (jsontext_Parse.calls (⟨#[123,34,97,34,58,91,49,44,116,114,117,101,93,125]⟩ : ByteArray) t112 t113 t114 _ ?side1 A1.out).mono ?_);(case side1 => first|exact HGU8.out|exact GlobU8.below HGU8.out (by repeat (first|(with_reducible first|exact HB.out|apply below_alloc|apply pw_below_drewN|apply below_drew1)|exact HB.out))|exact GlobU8.drawn HGU8.out (by repeat (first|exact Drawn0.refl _|apply Drawn0.step)));rintro e w26 ⟨v115,rfl,ho0,hb⟩;refine ⟨_,rfl,?_⟩;have n0_:=Aside0.mk (Kd.R_lower ho0 (below_size (by repeat (first|(with_reducible first|exact HB.out|apply below_alloc|apply pw_below_drewN|apply below_drew1)|exact HB.out))));have n1_:=Aside0.mk (below_step (by repeat (first|(with_reducible first|exact HB.out|apply below_alloc|apply pw_below_drewN|apply below_drew1)|exact HB.out)) hb);clear HB;have HO116:=n0_;have HB:=n1_;clear n0_ n1_;(try clear hb);(try clear hb2);(try clear hk);(try clear hi);(try clear ho0);obtain ⟨Ao27,co27,eo27⟩:=Kd.R_slice HO116.out;subst eo27)|((with_reducible refine gate_callee (f:=15) rfl ?_);refine goesL_ (some 16) rfl rfl Tryd.func15 (by kernel_rfl) rfl #[.slice Ao27 t112.length co27] rfl (by (try simp only [List.map_toArray,List.map_cons,List.map_nil]);first|done|rfl|(simp only [List.length_drop,List.length_take];rfl)) ?_;(with_reducible refine (jsontext_Print.calls _ _ t112 t117 t118 _ ?side3 ?side1 ?side2 A2.out).mono ?_);(case side1 => repeat (first|exact (Kd.R_reads' HO116.out).2.2|(with_reducible refine Kd.C_alloc ?_ _)|(with_reducible refine Kd.C_drewN ?_ _)|(with_reducible refine Kd.C_drew ?_)));(case side2 => exact (Kd.R_reads' HO116.out).2.1);(case side3 => first|exact HGU8.out|exact GlobU8.below HGU8.out (by repeat (first|(with_reducible first|exact HB.out|apply below_alloc|apply pw_below_drewN|apply below_drew1)|exact HB.out))|exact GlobU8.drawn HGU8.out (by repeat (first|exact Drawn0.refl _|apply Drawn0.step)));rintro e w28 ⟨rfl,hb⟩;refine ⟨_,rfl,?_⟩;have n0_:=Aside0.mk (Kd.R_below (by (with_reducible repeat (first|apply Kd.R_alloc|apply Kd.R_drewN|apply Kd.R_drew));exact HO116.out) hb);have n1_:=Aside0.mk (below_step (by repeat (first|(with_reducible first|exact HB.out|apply below_alloc|apply pw_below_drewN|apply below_drew1)|exact HB.out)) hb);clear HO116;clear HB;have HO116:=n0_;have HB:=n1_;clear n0_ n1_;(try clear hb);(try clear hb2);(try clear hk);(try clear hi))|((with_reducible refine gate_callee (f:=10) rfl ?_);refine goesL_ (some 20) rfl rfl Tryd.func10 (by kernel_rfl) rfl #[.string (⟨#[91,49,44,93]⟩ : ByteArray)] rfl (by (try simp only [List.map_toArray,List.map_cons,List.map_nil]);first|done|rfl|(simp only [List.length_drop,List.length_take];rfl)) ?_;(with_reducible refine (jsontext_Parse.calls (⟨#[91,49,44,93]⟩ : ByteArray) t119 t120 t121 _ ?side1 A3.out).mono ?_);(case side1 => first|exact HGU8.out|exact GlobU8.below HGU8.out (by repeat (first|(with_reducible first|exact HB.out|apply below_alloc|apply pw_below_drewN|apply below_drew1)|exact HB.out))|exact GlobU8.drawn HGU8.out (by repeat (first|exact Drawn0.refl _|apply Drawn0.step)));rintro e w29 ⟨v122,rfl,ho0,hb⟩;refine ⟨_,rfl,?_⟩;have n0_:=Aside0.mk (Kd.R_elder' (by (with_reducible repeat (first|apply Kd.R_alloc|apply Kd.R_drewN|apply Kd.R_drew));exact HO116.out) (Kd.R_base ho0) hb);have n1_:=Aside0.mk (Kd.R_lower (Kd.R_new' ho0 (Kd.R_lt (by (with_reducible repeat (first|apply Kd.R_alloc|apply Kd.R_drewN|apply Kd.R_drew));exact HO116.out))) (below_size (by repeat (first|(with_reducible first|exact HB.out|apply below_alloc|apply pw_below_drewN|apply below_drew1)|exact HB.out))));have n2_:=Aside0.mk (below_step (by repeat (first|(with_reducible first|exact HB.out|apply below_alloc|apply pw_below_drewN|apply below_drew1)|exact HB.out)) hb);clear HO116;clear HB;have HO116:=n0_;have HO123:=n1_;have HB:=n2_;clear n0_ n1_ n2_;(try clear hb);(try clear hb2);(try clear hk);(try clear hi);(try clear ho0);have p124 : 0 ≤ (1 : Int):=(by omega);have q124 : 1 < (t112.length : Int):=of_decide_eq_true (by first|(with_reducible assumption)|assumption);obtain ⟨ad124,e124,hx124_0,hx124_1,hx124_2,hx124_3,hx124_4⟩:=at_T46 (Kd.R_reads' HO116.out).2.2 1 p124 q124;cases e124;(try simp only [show (1 : Int).toNat = 1 from rfl,Nat.reduceMul,Nat.reduceEqDiff,Go.Addr.add,↓reduceIte] at hx124_0);(try simp only [show (1 : Int).toNat = 1 from rfl,Nat.reduceMul,Nat.reduceEqDiff,Go.Addr.add,↓reduceIte] at hx124_1);(try simp only [show (1 : Int).toNat = 1 from rfl,Nat.reduceMul,Nat.reduceEqDiff,Go.Addr.add,↓reduceIte] at hx124_2);(try simp only [show (1 : Int).toNat = 1 from rfl,Nat.reduceMul,Nat.reduceEqDiff,Go.Addr.add,↓reduceIte] at hx124_3);(try simp only [show (1 : Int).toNat = 1 from rfl,Nat.reduceMul,Nat.reduceEqDiff,Go.Addr.add,↓reduceIte] at hx124_4);have qi124 : (1 < t112.length) = True:=eq_true (by omega);(try rw [show ((1 : Int)).toNat = 1 from rfl] at hx124_0);(try rw [show 1 * 5 = 5 from rfl] at hx124_0);(try rw [show ((1 : Int)).toNat = 1 from rfl] at hx124_1);(try rw [show 1 * 5 = 5 from rfl] at hx124_1);(try rw [show ((1 : Int)).toNat = 1 from rfl] at hx124_2);(try rw [show 1 * 5 = 5 from rfl] at hx124_2);(try rw [show ((1 : Int)).toNat = 1 from rfl] at hx124_3);(try rw [show 1 * 5 = 5 from rfl] at hx124_3);(try rw [show ((1 : Int)).toNat = 1 from rfl] at hx124_4);(try rw [show 1 * 5 = 5 from rfl] at hx124_4);replace p124:=eq_true p124;replace q124:=eq_true q124;have p125 : 0 ≤ (2 : Int):=(by omega);have q125 : 2 < (t112.length : Int):=of_decide_eq_true (by first|(with_reducible assumption)|assumption);obtain ⟨ad125,e125,hx125_0,hx125_1,hx125_2,hx125_3,hx125_4⟩:=at_T46 (Kd.R_reads' HO116.out).2.2 2 p125 q125;obtain rfl : ad124 = ad125:=(by injection e125);(try simp only [show (2 : Int).toNat = 2 from rfl,Nat.reduceMul,Nat.reduceEqDiff,Go.Addr.add,↓reduceIte] at hx125_0);(try simp only [show (2 : Int).toNat = 2 from rfl,Nat.reduceMul,Nat.reduceEqDiff,Go.Addr.add,↓reduceIte] at hx125_1);(try simp only [show (2 : Int).toNat = 2 from rfl,Nat.reduceMul,Nat.reduceEqDiff,Go.Addr.add,↓reduceIte] at hx125_2);(try simp only [show (2 : Int).toNat = 2 from rfl,Nat.reduceMul,Nat.reduceEqDiff,Go.Addr.add,↓reduceIte] at hx125_3);(try simp only [show (2 : Int).toNat = 2 from rfl,Nat.reduceMul,Nat.reduceEqDiff,Go.Addr.add,↓reduceIte] at hx125_4);have qi125 : (2 < t112.length) = True:=eq_true (by omega);(try rw [show ((2 : Int)).toNat = 2 from rfl] at hx125_0);(try rw [show 2 * 5 = 10 from rfl] at hx125_0);(try rw [show ((2 : Int)).toNat = 2 from rfl] at hx125_1);(try rw [show 2 * 5 = 10 from rfl] at hx125_1);(try rw [show ((2 : Int)).toNat = 2 from rfl] at hx125_2);(try rw [show 2 * 5 = 10 from rfl] at hx125_2);(try rw [show ((2 : Int)).toNat = 2 from rfl] at hx125_3);(try rw [show 2 * 5 = 10 from rfl] at hx125_3);(try rw [show ((2 : Int)).toNat = 2 from rfl] at hx125_4);(try rw [show 2 * 5 = 10 from rfl] at hx125_4);replace p125:=eq_true p125;replace q125:=eq_true q125))
         go_ret
         exact ⟨by first|rfl|(simp [errW_none,errW_some] <;> rfl)|(simp [*,errW_none,errW_some] <;> rfl),by repeat (first|(with_reducible first|exact HB.out|apply below_alloc|apply pw_below_drewN|apply below_drew1)|exact HB.out)⟩
       ·rw [if_neg c10] at H
        have c10b0 : (((rd_T46 t112 2).f4).toList == ([49] : List UInt8)) = false:=beq_eq_false_iff_ne.mpr c10
        have c10b1 : (((rd_T46 t112 2).f4).toList != ([49] : List UInt8)) = true:=bne_iff_ne.mpr c10
        obtain rfl:=Option.some.inj H
        go_enter Tryd.func13,Tryd.ntmps13
        go_wp2_with (first|((with_reducible refine gate_callee (f:=10) rfl ?_);refine goesL_ (some 10) rfl rfl Tryd.func10 (by kernel_rfl) rfl #[.string (⟨#[123,34,97,34,58,91,49,44,116,114,117,101,93,125]⟩ : ByteArray)] rfl (by (try simp only [List.map_toArray,List.map_cons,List.map_nil]);first|done|rfl|(simp only [List.length_drop,List.length_take];rfl)) ?_;(with_reducible refine (jsontext_Parse.calls (⟨#[123,34,97,34,58,91,49,44,116,114,117,101,93,125]⟩ : ByteArray) t112 t113 t114 _ ?side1 A1.out).mono ?_);(case side1 => first|exact HGU8.out|exact GlobU8.below HGU8.out (by repeat (first|(with_reducible first|exact HB.out|apply below_alloc|apply pw_below_drewN|apply below_drew1)|exact HB.out))|exact GlobU8.drawn HGU8.out (by repeat (first|exact Drawn0.refl _|apply Drawn0.step)));rintro e w30 ⟨v115,rfl,ho0,hb⟩;refine ⟨_,rfl,?_⟩;have n0_:=Aside0.mk (Kd.R_lower ho0 (below_size (by repeat (first|(with_reducible first|exact HB.out|apply below_alloc|apply pw_below_drewN|apply below_drew1)|exact HB.out))));have n1_:=Aside0.mk (below_step (by repeat (first|(with_reducible first|exact HB.out|apply below_alloc|apply pw_below_drewN|apply below_drew1)|exact HB.out)) hb);clear HB;have HO116:=n0_;have HB:=n1_;clear n0_ n1_;(try clear hb);(try clear hb2);(try clear hk);(try clear hi);(try clear ho0);obtain ⟨Ao31,co31,eo31⟩:=Kd.R_slice HO116.out;subst eo31)|((with_reducible refine gate_callee (f:=15) rfl ?_);refine goesL_ (some 16) rfl rfl Tryd.func15 (by kernel_rfl) rfl #[.slice Ao31 t112.length co31] rfl (by (try simp only [List.map_toArray,List.map_cons,List.map_nil]);first|done|rfl|(simp only [List.length_drop,List.length_take];rfl)) ?_;(with_reducible refine (jsontext_Print.calls _ _ t112 t117 t118 _ ?side3 ?side1 ?side2 A2.out).mono ?_);(case side1 => repeat (first|exact (Kd.R_reads' HO116.out).2.2|(with_reducible refine Kd.C_alloc ?_ _)|(with_reducible refine Kd.C_drewN ?_ _)|(with_reducible refine Kd.C_drew ?_)));(case side2 => exact (Kd.R_reads' HO116.out).2.1);(case side3 => first|exact HGU8.out|exact GlobU8.below HGU8.out (by repeat (first|(with_reducible first|exact HB.out|apply below_alloc|apply pw_below_drewN|apply below_drew1)|exact HB.out))|exact GlobU8.drawn HGU8.out (by repeat (first|exact Drawn0.refl _|apply Drawn0.step)));rintro e w32 ⟨rfl,hb⟩;refine ⟨_,rfl,?_⟩;have n0_:=Aside0.mk (Kd.R_below (by (with_reducible repeat (first|apply Kd.R_alloc|apply Kd.R_drewN|apply Kd.R_drew));exact HO116.out) hb);have n1_:=Aside0.mk (below_step (by repeat (first|(with_reducible first|exact HB.out|apply below_alloc|apply pw_below_drewN|apply below_drew1)|exact HB.out)) hb);clear HO116;clear HB;have HO116:=n0_;have HB:=n1_;clear n0_ n1_;(try clear hb);(try clear hb2);(try clear hk);(try clear hi))|((with_reducible refine gate_callee (f:=10) rfl ?_);refine goesL_ (some 20) rfl rfl Tryd.func10 (by kernel_rfl) rfl #[.string (⟨#[91,49,44,93]⟩ : ByteArray)] rfl (by (try simp only [List.map_toArray,List.map_cons,List.map_nil]);first|done|rfl|(simp only [List.length_drop,List.length_take];rfl)) ?_;(with_reducible refine (jsontext_Parse.calls (⟨#[91,49,44,93]⟩ : ByteArray) t119 t120 t121 _ ?side1 A3.out).mono ?_);(case side1 => first|exact HGU8.out|exact GlobU8.below HGU8.out (by repeat (first|(with_reducible first|exact HB.out|apply below_alloc|apply pw_below_drewN|apply below_drew1)|exact HB.out))|exact GlobU8.drawn HGU8.out (by repeat (first|exact Drawn0.refl _|apply Drawn0.step)));rintro e w33 ⟨v122,rfl,ho0,hb⟩;refine ⟨_,rfl,?_⟩;have n0_:=Aside0.mk (Kd.R_elder' (by (with_reducible repeat (first|apply Kd.R_alloc|apply Kd.R_drewN|apply Kd.R_drew));exact HO116.out) (Kd.R_base ho0) hb);have n1_:=Aside0.mk (Kd.R_lower (Kd.R_new' ho0 (Kd.R_lt (by (with_reducible repeat (first|apply Kd.R_alloc|apply Kd.R_drewN|apply Kd.R_drew));exact HO116.out))) (below_size (by repeat (first|(with_reducible first|exact HB.out|apply below_alloc|apply pw_below_drewN|apply below_drew1)|exact HB.out))));have n2_:=Aside0.mk (below_step (by repeat (first|(with_reducible first|exact HB.out|apply below_alloc|apply pw_below_drewN|apply below_drew1)|exact HB.out)) hb);clear HO116;clear HB;have HO116:=n0_;have HO123:=n1_;have HB:=n2_;clear n0_ n1_ n2_;(try clear hb);(try clear hb2);(try clear hk);(try clear hi);(try clear ho0);have p124 : 0 ≤ (1 : Int):=(by omega);have q124 : 1 < (t112.length : Int):=of_decide_eq_true (by first|(with_reducible assumption)|assumption);obtain ⟨ad124,e124,hx124_0,hx124_1,hx124_2,hx124_3,hx124_4⟩:=at_T46 (Kd.R_reads' HO116.out).2.2 1 p124 q124;cases e124;(try simp only [show (1 : Int).toNat = 1 from rfl,Nat.reduceMul,Nat.reduceEqDiff,Go.Addr.add,↓reduceIte] at hx124_0);(try simp only [show (1 : Int).toNat = 1 from rfl,Nat.reduceMul,Nat.reduceEqDiff,Go.Addr.add,↓reduceIte] at hx124_1);(try simp only [show (1 : Int).toNat = 1 from rfl,Nat.reduceMul,Nat.reduceEqDiff,Go.Addr.add,↓reduceIte] at hx124_2);(try simp only [show (1 : Int).toNat = 1 from rfl,Nat.reduceMul,Nat.reduceEqDiff,Go.Addr.add,↓reduceIte] at hx124_3);(try simp only [show (1 : Int).toNat = 1 from rfl,Nat.reduceMul,Nat.reduceEqDiff,Go.Addr.add,↓reduceIte] at hx124_4);have qi124 : (1 < t112.length) = True:=eq_true (by omega);(try rw [show ((1 : Int)).toNat = 1 from rfl] at hx124_0);(try rw [show 1 * 5 = 5 from rfl] at hx124_0);(try rw [show ((1 : Int)).toNat = 1 from rfl] at hx124_1);(try rw [show 1 * 5 = 5 from rfl] at hx124_1);(try rw [show ((1 : Int)).toNat = 1 from rfl] at hx124_2);(try rw [show 1 * 5 = 5 from rfl] at hx124_2);(try rw [show ((1 : Int)).toNat = 1 from rfl] at hx124_3);(try rw [show 1 * 5 = 5 from rfl] at hx124_3);(try rw [show ((1 : Int)).toNat = 1 from rfl] at hx124_4);(try rw [show 1 * 5 = 5 from rfl] at hx124_4);replace p124:=eq_true p124;replace q124:=eq_true q124;have p125 : 0 ≤ (2 : Int):=(by omega);have q125 : 2 < (t112.length : Int):=of_decide_eq_true (by first|(with_reducible assumption)|assumption);obtain ⟨ad125,e125,hx125_0,hx125_1,hx125_2,hx125_3,hx125_4⟩:=at_T46 (Kd.R_reads' HO116.out).2.2 2 p125 q125;obtain rfl : ad124 = ad125:=(by injection e125);(try simp only [show (2 : Int).toNat = 2 from rfl,Nat.reduceMul,Nat.reduceEqDiff,Go.Addr.add,↓reduceIte] at hx125_0);(try simp only [show (2 : Int).toNat = 2 from rfl,Nat.reduceMul,Nat.reduceEqDiff,Go.Addr.add,↓reduceIte] at hx125_1);(try simp only [show (2 : Int).toNat = 2 from rfl,Nat.reduceMul,Nat.reduceEqDiff,Go.Addr.add,↓reduceIte] at hx125_2);(try simp only [show (2 : Int).toNat = 2 from rfl,Nat.reduceMul,Nat.reduceEqDiff,Go.Addr.add,↓reduceIte] at hx125_3);(try simp only [show (2 : Int).toNat = 2 from rfl,Nat.reduceMul,Nat.reduceEqDiff,Go.Addr.add,↓reduceIte] at hx125_4);have qi125 : (2 < t112.length) = True:=eq_true (by omega);(try rw [show ((2 : Int)).toNat = 2 from rfl] at hx125_0);(try rw [show 2 * 5 = 10 from rfl] at hx125_0);(try rw [show ((2 : Int)).toNat = 2 from rfl] at hx125_1);(try rw [show 2 * 5 = 10 from rfl] at hx125_1);(try rw [show ((2 : Int)).toNat = 2 from rfl] at hx125_2);(try rw [show 2 * 5 = 10 from rfl] at hx125_2);(try rw [show ((2 : Int)).toNat = 2 from rfl] at hx125_3);(try rw [show 2 * 5 = 10 from rfl] at hx125_3);(try rw [show ((2 : Int)).toNat = 2 from rfl] at hx125_4);(try rw [show 2 * 5 = 10 from rfl] at hx125_4);replace p125:=eq_true p125;replace q125:=eq_true q125))
        go_ret
        exact ⟨by first|rfl|(simp [errW_none,errW_some] <;> rfl)|(simp [*,errW_none,errW_some] <;> rfl),by repeat (first|(with_reducible first|exact HB.out|apply below_alloc|apply pw_below_drewN|apply below_drew1)|exact HB.out)⟩
      ·rw [if_neg c9] at H
       exact absurd H (by simp)
     ·rw [if_neg c8] at H
      have c8b0 : (((rd_T46 t112 1).f3).toList == ([97] : List UInt8)) = false:=beq_eq_false_iff_ne.mpr c8
      have c8b1 : (((rd_T46 t112 1).f3).toList != ([97] : List UInt8)) = true:=bne_iff_ne.mpr c8
      obtain rfl:=Option.some.inj H
      go_enter Tryd.func13,Tryd.ntmps13
      go_wp2_with (first|((with_reducible refine gate_callee (f:=10) rfl ?_);refine goesL_ (some 10) rfl rfl Tryd.func10 (by kernel_rfl) rfl #[.string (⟨#[123,34,97,34,58,91,49,44,116,114,117,101,93,125]⟩ : ByteArray)] rfl (by (try simp only [List.map_toArray,List.map_cons,List.map_nil]);first|done|rfl|(simp only [List.length_drop,List.length_take];rfl)) ?_;(with_reducible refine (jsontext_Parse.calls (⟨#[123,34,97,34,58,91,49,44,116,114,117,101,93,125]⟩ : ByteArray) t112 t113 t114 _ ?side1 A1.out).mono ?_);(case side1 => first|exact HGU8.out|exact GlobU8.below HGU8.out (by repeat (first|(with_reducible first|exact HB.out|apply below_alloc|apply pw_below_drewN|apply below_drew1)|exact HB.out))|exact GlobU8.drawn HGU8.out (by repeat (first|exact Drawn0.refl _|apply Drawn0.step)));rintro e w34 ⟨v115,rfl,ho0,hb⟩;refine ⟨_,rfl,?_⟩;have n0_:=Aside0.mk (Kd.R_lower ho0 (below_size (by repeat (first|(with_reducible first|exact HB.out|apply below_alloc|apply pw_below_drewN|apply below_drew1)|exact HB.out))));have n1_:=Aside0.mk (below_step (by repeat (first|(with_reducible first|exact HB.out|apply below_alloc|apply pw_below_drewN|apply below_drew1)|exact HB.out)) hb);clear HB;have HO116:=n0_;have HB:=n1_;clear n0_ n1_;(try clear hb);(try clear hb2);(try clear hk);(try clear hi);(try clear ho0);obtain ⟨Ao35,co35,eo35⟩:=Kd.R_slice HO116.out;subst eo35)|((with_reducible refine gate_callee (f:=15) rfl ?_);refine goesL_ (some 16) rfl rfl Tryd.func15 (by kernel_rfl) rfl #[.slice Ao35 t112.length co35] rfl (by (try simp only [List.map_toArray,List.map_cons,List.map_nil]);first|done|rfl|(simp only [List.length_drop,List.length_take];rfl)) ?_;(with_reducible refine (jsontext_Print.calls _ _ t112 t117 t118 _ ?side3 ?side1 ?side2 A2.out).mono ?_);(case side1 => repeat (first|exact (Kd.R_reads' HO116.out).2.2|(with_reducible refine Kd.C_alloc ?_ _)|(with_reducible refine Kd.C_drewN ?_ _)|(with_reducible refine Kd.C_drew ?_)));(case side2 => exact (Kd.R_reads' HO116.out).2.1);(case side3 => first|exact HGU8.out|exact GlobU8.below HGU8.out (by repeat (first|(with_reducible first|exact HB.out|apply below_alloc|apply pw_below_drewN|apply below_drew1)|exact HB.out))|exact GlobU8.drawn HGU8.out (by repeat (first|exact Drawn0.refl _|apply Drawn0.step)));rintro e w36 ⟨rfl,hb⟩;refine ⟨_,rfl,?_⟩;have n0_:=Aside0.mk (Kd.R_below (by (with_reducible repeat (first|apply Kd.R_alloc|apply Kd.R_drewN|apply Kd.R_drew));exact HO116.out) hb);have n1_:=Aside0.mk (below_step (by repeat (first|(with_reducible first|exact HB.out|apply below_alloc|apply pw_below_drewN|apply below_drew1)|exact HB.out)) hb);clear HO116;clear HB;have HO116:=n0_;have HB:=n1_;clear n0_ n1_;(try clear hb);(try clear hb2);(try clear hk);(try clear hi))|((with_reducible refine gate_callee (f:=10) rfl ?_);refine goesL_ (some 20) rfl rfl Tryd.func10 (by kernel_rfl) rfl #[.string (⟨#[91,49,44,93]⟩ : ByteArray)] rfl (by (try simp only [List.map_toArray,List.map_cons,List.map_nil]);first|done|rfl|(simp only [List.length_drop,List.length_take];rfl)) ?_;(with_reducible refine (jsontext_Parse.calls (⟨#[91,49,44,93]⟩ : ByteArray) t119 t120 t121 _ ?side1 A3.out).mono ?_);(case side1 => first|exact HGU8.out|exact GlobU8.below HGU8.out (by repeat (first|(with_reducible first|exact HB.out|apply below_alloc|apply pw_below_drewN|apply below_drew1)|exact HB.out))|exact GlobU8.drawn HGU8.out (by repeat (first|exact Drawn0.refl _|apply Drawn0.step)));rintro e w37 ⟨v122,rfl,ho0,hb⟩;refine ⟨_,rfl,?_⟩;have n0_:=Aside0.mk (Kd.R_elder' (by (with_reducible repeat (first|apply Kd.R_alloc|apply Kd.R_drewN|apply Kd.R_drew));exact HO116.out) (Kd.R_base ho0) hb);have n1_:=Aside0.mk (Kd.R_lower (Kd.R_new' ho0 (Kd.R_lt (by (with_reducible repeat (first|apply Kd.R_alloc|apply Kd.R_drewN|apply Kd.R_drew));exact HO116.out))) (below_size (by repeat (first|(with_reducible first|exact HB.out|apply below_alloc|apply pw_below_drewN|apply below_drew1)|exact HB.out))));have n2_:=Aside0.mk (below_step (by repeat (first|(with_reducible first|exact HB.out|apply below_alloc|apply pw_below_drewN|apply below_drew1)|exact HB.out)) hb);clear HO116;clear HB;have HO116:=n0_;have HO123:=n1_;have HB:=n2_;clear n0_ n1_ n2_;(try clear hb);(try clear hb2);(try clear hk);(try clear hi);(try clear ho0);have p124 : 0 ≤ (1 : Int):=(by omega);have q124 : 1 < (t112.length : Int):=of_decide_eq_true (by first|(with_reducible assumption)|assumption);obtain ⟨ad124,e124,hx124_0,hx124_1,hx124_2,hx124_3,hx124_4⟩:=at_T46 (Kd.R_reads' HO116.out).2.2 1 p124 q124;cases e124;(try simp only [show (1 : Int).toNat = 1 from rfl,Nat.reduceMul,Nat.reduceEqDiff,Go.Addr.add,↓reduceIte] at hx124_0);(try simp only [show (1 : Int).toNat = 1 from rfl,Nat.reduceMul,Nat.reduceEqDiff,Go.Addr.add,↓reduceIte] at hx124_1);(try simp only [show (1 : Int).toNat = 1 from rfl,Nat.reduceMul,Nat.reduceEqDiff,Go.Addr.add,↓reduceIte] at hx124_2);(try simp only [show (1 : Int).toNat = 1 from rfl,Nat.reduceMul,Nat.reduceEqDiff,Go.Addr.add,↓reduceIte] at hx124_3);(try simp only [show (1 : Int).toNat = 1 from rfl,Nat.reduceMul,Nat.reduceEqDiff,Go.Addr.add,↓reduceIte] at hx124_4);have qi124 : (1 < t112.length) = True:=eq_true (by omega);(try rw [show ((1 : Int)).toNat = 1 from rfl] at hx124_0);(try rw [show 1 * 5 = 5 from rfl] at hx124_0);(try rw [show ((1 : Int)).toNat = 1 from rfl] at hx124_1);(try rw [show 1 * 5 = 5 from rfl] at hx124_1);(try rw [show ((1 : Int)).toNat = 1 from rfl] at hx124_2);(try rw [show 1 * 5 = 5 from rfl] at hx124_2);(try rw [show ((1 : Int)).toNat = 1 from rfl] at hx124_3);(try rw [show 1 * 5 = 5 from rfl] at hx124_3);(try rw [show ((1 : Int)).toNat = 1 from rfl] at hx124_4);(try rw [show 1 * 5 = 5 from rfl] at hx124_4);replace p124:=eq_true p124;replace q124:=eq_true q124))
      go_ret
      exact ⟨by first|rfl|(simp [errW_none,errW_some] <;> rfl)|(simp [*,errW_none,errW_some] <;> rfl),by repeat (first|(with_reducible first|exact HB.out|apply below_alloc|apply pw_below_drewN|apply below_drew1)|exact HB.out)⟩
    ·rw [if_neg c7] at H
     exact absurd H (by simp)
   ·rw [if_neg c6] at H
    have c6b0 : (t114 == 0) = false:=beq_eq_false_iff_ne.mpr c6
    have c6b1 : (t114 != 0) = true:=bne_iff_ne.mpr c6
    obtain rfl:=Option.some.inj H
    go_enter Tryd.func13,Tryd.ntmps13
    go_wp2_with (first|((with_reducible refine gate_callee (f:=10) rfl ?_);refine goesL_ (some 10) rfl rfl Tryd.func10 (by kernel_rfl) rfl #[.string (⟨#[123,34,97,34,58,91,49,44,116,114,117,101,93,125]⟩ : ByteArray)] rfl (by (try simp only [List.map_toArray,List.map_cons,List.map_nil]);first|done|rfl|(simp only [List.length_drop,List.length_take];rfl)) ?_;(with_reducible refine (jsontext_Parse.calls (⟨#[123,34,97,34,58,91,49,44,116,114,117,101,93,125]⟩ : ByteArray) t112 t113 t114 _ ?side1 A1.out).mono ?_);(case side1 => first|exact HGU8.out|exact GlobU8.below HGU8.out (by repeat (first|(with_reducible first|exact HB.out|apply below_alloc|apply pw_below_drewN|apply below_drew1)|exact HB.out))|exact GlobU8.drawn HGU8.out (by repeat (first|exact Drawn0.refl _|apply Drawn0.step)));rintro e w38 ⟨v115,rfl,ho0,hb⟩;refine ⟨_,rfl,?_⟩;have n0_:=Aside0.mk (Kd.R_lower ho0 (below_size (by repeat (first|(with_reducible first|exact HB.out|apply below_alloc|apply pw_below_drewN|apply below_drew1)|exact HB.out))));have n1_:=Aside0.mk (below_step (by repeat (first|(with_reducible first|exact HB.out|apply below_alloc|apply pw_below_drewN|apply below_drew1)|exact HB.out)) hb);clear HB;have HO116:=n0_;have HB:=n1_;clear n0_ n1_;(try clear hb);(try clear hb2);(try clear hk);(try clear hi);(try clear ho0);obtain ⟨Ao39,co39,eo39⟩:=Kd.R_slice HO116.out;subst eo39)|((with_reducible refine gate_callee (f:=15) rfl ?_);refine goesL_ (some 16) rfl rfl Tryd.func15 (by kernel_rfl) rfl #[.slice Ao39 t112.length co39] rfl (by (try simp only [List.map_toArray,List.map_cons,List.map_nil]);first|done|rfl|(simp only [List.length_drop,List.length_take];rfl)) ?_;(with_reducible refine (jsontext_Print.calls _ _ t112 t117 t118 _ ?side3 ?side1 ?side2 A2.out).mono ?_);(case side1 => repeat (first|exact (Kd.R_reads' HO116.out).2.2|(with_reducible refine Kd.C_alloc ?_ _)|(with_reducible refine Kd.C_drewN ?_ _)|(with_reducible refine Kd.C_drew ?_)));(case side2 => exact (Kd.R_reads' HO116.out).2.1);(case side3 => first|exact HGU8.out|exact GlobU8.below HGU8.out (by repeat (first|(with_reducible first|exact HB.out|apply below_alloc|apply pw_below_drewN|apply below_drew1)|exact HB.out))|exact GlobU8.drawn HGU8.out (by repeat (first|exact Drawn0.refl _|apply Drawn0.step)));rintro e w40 ⟨rfl,hb⟩;refine ⟨_,rfl,?_⟩;have n0_:=Aside0.mk (Kd.R_below (by (with_reducible repeat (first|apply Kd.R_alloc|apply Kd.R_drewN|apply Kd.R_drew));exact HO116.out) hb);have n1_:=Aside0.mk (below_step (by repeat (first|(with_reducible first|exact HB.out|apply below_alloc|apply pw_below_drewN|apply below_drew1)|exact HB.out)) hb);clear HO116;clear HB;have HO116:=n0_;have HB:=n1_;clear n0_ n1_;(try clear hb);(try clear hb2);(try clear hk);(try clear hi))|((with_reducible refine gate_callee (f:=10) rfl ?_);refine goesL_ (some 20) rfl rfl Tryd.func10 (by kernel_rfl) rfl #[.string (⟨#[91,49,44,93]⟩ : ByteArray)] rfl (by (try simp only [List.map_toArray,List.map_cons,List.map_nil]);first|done|rfl|(simp only [List.length_drop,List.length_take];rfl)) ?_;(with_reducible refine (jsontext_Parse.calls (⟨#[91,49,44,93]⟩ : ByteArray) t119 t120 t121 _ ?side1 A3.out).mono ?_);(case side1 => first|exact HGU8.out|exact GlobU8.below HGU8.out (by repeat (first|(with_reducible first|exact HB.out|apply below_alloc|apply pw_below_drewN|apply below_drew1)|exact HB.out))|exact GlobU8.drawn HGU8.out (by repeat (first|exact Drawn0.refl _|apply Drawn0.step)));rintro e w41 ⟨v122,rfl,ho0,hb⟩;refine ⟨_,rfl,?_⟩;have n0_:=Aside0.mk (Kd.R_elder' (by (with_reducible repeat (first|apply Kd.R_alloc|apply Kd.R_drewN|apply Kd.R_drew));exact HO116.out) (Kd.R_base ho0) hb);have n1_:=Aside0.mk (Kd.R_lower (Kd.R_new' ho0 (Kd.R_lt (by (with_reducible repeat (first|apply Kd.R_alloc|apply Kd.R_drewN|apply Kd.R_drew));exact HO116.out))) (below_size (by repeat (first|(with_reducible first|exact HB.out|apply below_alloc|apply pw_below_drewN|apply below_drew1)|exact HB.out))));have n2_:=Aside0.mk (below_step (by repeat (first|(with_reducible first|exact HB.out|apply below_alloc|apply pw_below_drewN|apply below_drew1)|exact HB.out)) hb);clear HO116;clear HB;have HO116:=n0_;have HO123:=n1_;have HB:=n2_;clear n0_ n1_ n2_;(try clear hb);(try clear hb2);(try clear hk);(try clear hi);(try clear ho0)))
    go_ret
    exact ⟨by first|rfl|(simp [errW_none,errW_some] <;> rfl)|(simp [*,errW_none,errW_some] <;> rfl),by repeat (first|(with_reducible first|exact HB.out|apply below_alloc|apply pw_below_drewN|apply below_drew1)|exact HB.out)⟩
  ·rw [if_neg c5] at H
   have c5b0 : (t113 == 0) = false:=beq_eq_false_iff_ne.mpr c5
   have c5b1 : (t113 != 0) = true:=bne_iff_ne.mpr c5
   obtain rfl:=Option.some.inj H
   go_enter Tryd.func13,Tryd.ntmps13
   go_wp2_with (first|((with_reducible refine gate_callee (f:=10) rfl ?_);refine goesL_ (some 10) rfl rfl Tryd.func10 (by kernel_rfl) rfl #[.string (⟨#[123,34,97,34,58,91,49,44,116,114,117,101,93,125]⟩ : ByteArray)] rfl (by (try simp only [List.map_toArray,List.map_cons,List.map_nil]);first|done|rfl|(simp only [List.length_drop,List.length_take];rfl)) ?_;(with_reducible refine (jsontext_Parse.calls (⟨#[123,34,97,34,58,91,49,44,116,114,117,101,93,125]⟩ : ByteArray) t112 t113 t114 _ ?side1 A1.out).mono ?_);(case side1 => first|exact HGU8.out|exact GlobU8.below HGU8.out (by repeat (first|(with_reducible first|exact HB.out|apply below_alloc|apply pw_below_drewN|apply below_drew1)|exact HB.out))|exact GlobU8.drawn HGU8.out (by repeat (first|exact Drawn0.refl _|apply Drawn0.step)));rintro e w42 ⟨v115,rfl,ho0,hb⟩;refine ⟨_,rfl,?_⟩;have n0_:=Aside0.mk (Kd.R_lower ho0 (below_size (by repeat (first|(with_reducible first|exact HB.out|apply below_alloc|apply pw_below_drewN|apply below_drew1)|exact HB.out))));have n1_:=Aside0.mk (below_step (by repeat (first|(with_reducible first|exact HB.out|apply below_alloc|apply pw_below_drewN|apply below_drew1)|exact HB.out)) hb);clear HB;have HO116:=n0_;have HB:=n1_;clear n0_ n1_;(try clear hb);(try clear hb2);(try clear hk);(try clear hi);(try clear ho0);obtain ⟨Ao43,co43,eo43⟩:=Kd.R_slice HO116.out;subst eo43)|((with_reducible refine gate_callee (f:=15) rfl ?_);refine goesL_ (some 16) rfl rfl Tryd.func15 (by kernel_rfl) rfl #[.slice Ao43 t112.length co43] rfl (by (try simp only [List.map_toArray,List.map_cons,List.map_nil]);first|done|rfl|(simp only [List.length_drop,List.length_take];rfl)) ?_;(with_reducible refine (jsontext_Print.calls _ _ t112 t117 t118 _ ?side3 ?side1 ?side2 A2.out).mono ?_);(case side1 => repeat (first|exact (Kd.R_reads' HO116.out).2.2|(with_reducible refine Kd.C_alloc ?_ _)|(with_reducible refine Kd.C_drewN ?_ _)|(with_reducible refine Kd.C_drew ?_)));(case side2 => exact (Kd.R_reads' HO116.out).2.1);(case side3 => first|exact HGU8.out|exact GlobU8.below HGU8.out (by repeat (first|(with_reducible first|exact HB.out|apply below_alloc|apply pw_below_drewN|apply below_drew1)|exact HB.out))|exact GlobU8.drawn HGU8.out (by repeat (first|exact Drawn0.refl _|apply Drawn0.step)));rintro e w44 ⟨rfl,hb⟩;refine ⟨_,rfl,?_⟩;have n0_:=Aside0.mk (Kd.R_below (by (with_reducible repeat (first|apply Kd.R_alloc|apply Kd.R_drewN|apply Kd.R_drew));exact HO116.out) hb);have n1_:=Aside0.mk (below_step (by repeat (first|(with_reducible first|exact HB.out|apply below_alloc|apply pw_below_drewN|apply below_drew1)|exact HB.out)) hb);clear HO116;clear HB;have HO116:=n0_;have HB:=n1_;clear n0_ n1_;(try clear hb);(try clear hb2);(try clear hk);(try clear hi))|((with_reducible refine gate_callee (f:=10) rfl ?_);refine goesL_ (some 20) rfl rfl Tryd.func10 (by kernel_rfl) rfl #[.string (⟨#[91,49,44,93]⟩ : ByteArray)] rfl (by (try simp only [List.map_toArray,List.map_cons,List.map_nil]);first|done|rfl|(simp only [List.length_drop,List.length_take];rfl)) ?_;(with_reducible refine (jsontext_Parse.calls (⟨#[91,49,44,93]⟩ : ByteArray) t119 t120 t121 _ ?side1 A3.out).mono ?_);(case side1 => first|exact HGU8.out|exact GlobU8.below HGU8.out (by repeat (first|(with_reducible first|exact HB.out|apply below_alloc|apply pw_below_drewN|apply below_drew1)|exact HB.out))|exact GlobU8.drawn HGU8.out (by repeat (first|exact Drawn0.refl _|apply Drawn0.step)));rintro e w45 ⟨v122,rfl,ho0,hb⟩;refine ⟨_,rfl,?_⟩;have n0_:=Aside0.mk (Kd.R_elder' (by (with_reducible repeat (first|apply Kd.R_alloc|apply Kd.R_drewN|apply Kd.R_drew));exact HO116.out) (Kd.R_base ho0) hb);have n1_:=Aside0.mk (Kd.R_lower (Kd.R_new' ho0 (Kd.R_lt (by (with_reducible repeat (first|apply Kd.R_alloc|apply Kd.R_drewN|apply Kd.R_drew));exact HO116.out))) (below_size (by repeat (first|(with_reducible first|exact HB.out|apply below_alloc|apply pw_below_drewN|apply below_drew1)|exact HB.out))));have n2_:=Aside0.mk (below_step (by repeat (first|(with_reducible first|exact HB.out|apply below_alloc|apply pw_below_drewN|apply below_drew1)|exact HB.out)) hb);clear HO116;clear HB;have HO116:=n0_;have HO123:=n1_;have HB:=n2_;clear n0_ n1_ n2_;(try clear hb);(try clear hb2);(try clear hk);(try clear hi);(try clear ho0)))
   go_ret
   exact ⟨by first|rfl|(simp [errW_none,errW_some] <;> rfl)|(simp [*,errW_none,errW_some] <;> rfl),by repeat (first|(with_reducible first|exact HB.out|apply below_alloc|apply pw_below_drewN|apply below_drew1)|exact HB.out)⟩
 ·rw [if_neg c4] at H
  have c4b0 : ((t112.length : Int) == 4) = false:=beq_eq_false_iff_ne.mpr c4
  have c4b1 : ((t112.length : Int) != 4) = true:=bne_iff_ne.mpr c4
  obtain rfl:=Option.some.inj H
  go_enter Tryd.func13,Tryd.ntmps13
  go_wp2_with (first|((with_reducible refine gate_callee (f:=10) rfl ?_);refine goesL_ (some 10) rfl rfl Tryd.func10 (by kernel_rfl) rfl #[.string (⟨#[123,34,97,34,58,91,49,44,116,114,117,101,93,125]⟩ : ByteArray)] rfl (by (try simp only [List.map_toArray,List.map_cons,List.map_nil]);first|done|rfl|(simp only [List.length_drop,List.length_take];rfl)) ?_;(with_reducible refine (jsontext_Parse.calls (⟨#[123,34,97,34,58,91,49,44,116,114,117,101,93,125]⟩ : ByteArray) t112 t113 t114 _ ?side1 A1.out).mono ?_);(case side1 => first|exact HGU8.out|exact GlobU8.below HGU8.out (by repeat (first|(with_reducible first|exact HB.out|apply below_alloc|apply pw_below_drewN|apply below_drew1)|exact HB.out))|exact GlobU8.drawn HGU8.out (by repeat (first|exact Drawn0.refl _|apply Drawn0.step)));rintro e w46 ⟨v115,rfl,ho0,hb⟩;refine ⟨_,rfl,?_⟩;have n0_:=Aside0.mk (Kd.R_lower ho0 (below_size (by repeat (first|(with_reducible first|exact HB.out|apply below_alloc|apply pw_below_drewN|apply below_drew1)|exact HB.out))));have n1_:=Aside0.mk (below_step (by repeat (first|(with_reducible first|exact HB.out|apply below_alloc|apply pw_below_drewN|apply below_drew1)|exact HB.out)) hb);clear HB;have HO116:=n0_;have HB:=n1_;clear n0_ n1_;(try clear hb);(try clear hb2);(try clear hk);(try clear hi);(try clear ho0);obtain ⟨Ao47,co47,eo47⟩:=Kd.R_slice HO116.out;subst eo47)|((with_reducible refine gate_callee (f:=15) rfl ?_);refine goesL_ (some 16) rfl rfl Tryd.func15 (by kernel_rfl) rfl #[.slice Ao47 t112.length co47] rfl (by (try simp only [List.map_toArray,List.map_cons,List.map_nil]);first|done|rfl|(simp only [List.length_drop,List.length_take];rfl)) ?_;(with_reducible refine (jsontext_Print.calls _ _ t112 t117 t118 _ ?side3 ?side1 ?side2 A2.out).mono ?_);(case side1 => repeat (first|exact (Kd.R_reads' HO116.out).2.2|(with_reducible refine Kd.C_alloc ?_ _)|(with_reducible refine Kd.C_drewN ?_ _)|(with_reducible refine Kd.C_drew ?_)));(case side2 => exact (Kd.R_reads' HO116.out).2.1);(case side3 => first|exact HGU8.out|exact GlobU8.below HGU8.out (by repeat (first|(with_reducible first|exact HB.out|apply below_alloc|apply pw_below_drewN|apply below_drew1)|exact HB.out))|exact GlobU8.drawn HGU8.out (by repeat (first|exact Drawn0.refl _|apply Drawn0.step)));rintro e w48 ⟨rfl,hb⟩;refine ⟨_,rfl,?_⟩;have n0_:=Aside0.mk (Kd.R_below (by (with_reducible repeat (first|apply Kd.R_alloc|apply Kd.R_drewN|apply Kd.R_drew));exact HO116.out) hb);have n1_:=Aside0.mk (below_step (by repeat (first|(with_reducible first|exact HB.out|apply below_alloc|apply pw_below_drewN|apply below_drew1)|exact HB.out)) hb);clear HO116;clear HB;have HO116:=n0_;have HB:=n1_;clear n0_ n1_;(try clear hb);(try clear hb2);(try clear hk);(try clear hi))|((with_reducible refine gate_callee (f:=10) rfl ?_);refine goesL_ (some 20) rfl rfl Tryd.func10 (by kernel_rfl) rfl #[.string (⟨#[91,49,44,93]⟩ : ByteArray)] rfl (by (try simp only [List.map_toArray,List.map_cons,List.map_nil]);first|done|rfl|(simp only [List.length_drop,List.length_take];rfl)) ?_;(with_reducible refine (jsontext_Parse.calls (⟨#[91,49,44,93]⟩ : ByteArray) t119 t120 t121 _ ?side1 A3.out).mono ?_);(case side1 => first|exact HGU8.out|exact GlobU8.below HGU8.out (by repeat (first|(with_reducible first|exact HB.out|apply below_alloc|apply pw_below_drewN|apply below_drew1)|exact HB.out))|exact GlobU8.drawn HGU8.out (by repeat (first|exact Drawn0.refl _|apply Drawn0.step)));rintro e w49 ⟨v122,rfl,ho0,hb⟩;refine ⟨_,rfl,?_⟩;have n0_:=Aside0.mk (Kd.R_elder' (by (with_reducible repeat (first|apply Kd.R_alloc|apply Kd.R_drewN|apply Kd.R_drew));exact HO116.out) (Kd.R_base ho0) hb);have n1_:=Aside0.mk (Kd.R_lower (Kd.R_new' ho0 (Kd.R_lt (by (with_reducible repeat (first|apply Kd.R_alloc|apply Kd.R_drewN|apply Kd.R_drew));exact HO116.out))) (below_size (by repeat (first|(with_reducible first|exact HB.out|apply below_alloc|apply pw_below_drewN|apply below_drew1)|exact HB.out))));have n2_:=Aside0.mk (below_step (by repeat (first|(with_reducible first|exact HB.out|apply below_alloc|apply pw_below_drewN|apply below_drew1)|exact HB.out)) hb);clear HO116;clear HB;have HO116:=n0_;have HO123:=n1_;have HB:=n2_;clear n0_ n1_ n2_;(try clear hb);(try clear hb2);(try clear hk);(try clear hi);(try clear ho0)))
  go_ret
  exact ⟨by first|rfl|(simp [errW_none,errW_some] <;> rfl)|(simp [*,errW_none,errW_some] <;> rfl),by repeat (first|(with_reducible first|exact HB.out|apply below_alloc|apply pw_below_drewN|apply below_drew1)|exact HB.out)⟩
end Go.Proofs.YtadfkeipcebmfaaDoor.X
namespace Go.Proofs.YtadfkeipcebmfaaDoor.X
open Go.RowKit Go.Proofs.YtadfkeipcebmfaaDoorW.PrintWords Go.Proofs.YtadfkeipcebmfaaDoorW.PrintLast Go.Proofs.YtadfkeipcebmfaaDoorW.PrintMore
attribute [local go_sem] max2_int min2_int max_two min_two max_three min_three max_four min_four
set_option linter.unusedVariables false
set_option linter.unusedSimpArgs false
def racewaylaw25_few.l0 : Nat → List (S46) → List (S46) → Int → Option ((List (S46)))
 | 0,_,_,_ => none
 | k + 1,x0,x3,x4 => if x4 < (x0.length : Int) then (if x4 < 120 then (if 0 ≤ x4 then (if 0 ≤ (mn (((rd_T46 x0 x4).f3).size : Int) 200) then (if (mn (((rd_T46 x0 x4).f3).size : Int) 200) ≤ (((rd_T46 x0 x4).f3).size : Int) then (if 0 ≤ (mn (((rd_T46 x0 x4).f4).size : Int) 200) then (if (mn (((rd_T46 x0 x4).f4).size : Int) 200) ≤ (((rd_T46 x0 x4).f4).size : Int) then (if x3.length < 2513169434916 then (racewaylaw25_few.l0 k x0 (x3 ++ [(⟨(rd_T46 x0 x4).f0,(rd_T46 x0 x4).f1,(rd_T46 x0 x4).f2,((rd_T46 x0 x4).f3).extract 0 ((mn (((rd_T46 x0 x4).f3).size : Int) 200) : Int).toNat,((rd_T46 x0 x4).f4).extract 0 ((mn (((rd_T46 x0 x4).f4).size : Int) 200) : Int).toNat⟩ : S46)]) (wrap64 (x4 + 1))) else (none)) else (none)) else (none)) else (none)) else (none)) else (none)) else (some x3)) else (some x3)
def racewaylaw25_few.f (k : Nat) (l0 : List (S46)) : Option ((List (S46))):=racewaylaw25_few.l0 k l0 ([] : List (S46)) 0
def racewaylaw25_few.T6 : Bool × List (List Nat × List Nat):=(true,[([],[]),([0],[0]),([],[]),([2],[2]),([3],[3]),([4],[4]),([1,5],[1,5]),([],[]),([7],[7]),([],[]),([9],[9]),([10],[10]),([11],[11]),([8,12],[8,12]),([0,1,2,3,4,5,6,7,8,9,10],[]),([14,6,0,1,2,3,4,5,6,7,8,9,10],[6,14]),([0,1,2,3,4,5,6,7,8,9,10,11,12,13,14,15],[]),([16,13,15,0,1,2,3,4,5,6,7,8,9,10,11,12,13,14,15],[13,16])])
def racewaylaw25_few.B6 : List Nat:=[0,1,0,4,12,28,63,0,128,0,512,1536,3584,8064,2047,18431,65535,131071]
theorem racewaylaw25_few.tab6 : rtab .any (opsOf Tryd.f14 6) = racewaylaw25_few.T6:=by kernel_rfl
theorem racewaylaw25_few.bits6 : waitsOk racewaylaw25_few.T6.2 racewaylaw25_few.B6 = true:=by kernel_rfl
set_option maxHeartbeats 8000000 in
set_option maxRecDepth 100000 in
theorem racewaylaw25_few.calls (k : Nat) (A0 : Option Addr) (c0 : Nat) (l0 : List (S46)) (r : List (S46)) (w : World) (hr0 : Kd.C k46 w A0 l0.length l0) (hc0 : l0.length ≤ c0) (h : racewaylaw25_few.f k l0 = some r) :
  Calls Tryd.prog 14 #[.slice A0 l0.length c0] w fun e w' => ∃ v0_ : Value,e = .returned (v0_) ∧ Kd.R k46 46 w' w.heap.size (fun _ => True) v0_ r ∧ Below w.heap.size w w':=by
 have hu46:=Tryd.underlying46
 have HR0:=Aside0.mk hr0
 have HC0:=Aside0.mk hc0
 clear hr0 hc0
 have HB:=Aside0.mk (Below.refl w.heap.size w)
 have H : (racewaylaw25_few.l0 k l0 ([] : List (S46)) 0) = some r:=h
 clear h
 have H':=Aside0.mk H
 clear H
 go_enter Tryd.func14,Tryd.ntmps14
 go_wp2
 go_loopg [3,4] k (fun kq v3 v4 w' => ∃ (x3_1 : List (S46)) (x4_1 : Int),v4 = .int .i64 x4_1 ∧ Aside0 (racewaylaw25_few.l0 kq l0 x3_1 x4_1 = some r) ∧ Aside0 (kq ≤ k) ∧ Aside0 (Kd.R k46 46 w' w.heap.size (fun _ => True) v3 x3_1) ∧ Aside0 (Below w.heap.size w w'))
 case atStart => exact ⟨(([] : List (S46))),(0),(by first|rfl|(simp;done)|(simp;decide +kernel)|(simp [*];done)),(by first|exact H'|(subst_vars;exact H')),⟨Nat.le_refl _⟩,⟨by first|exact Kd.R_nil _ _ _ _ _|exact Kd.N_nil _ _ _ _ _|exact Kd.V_nil _ _ _ _ _|exact Kd.Q_nil _ _ _ _ _|exact Kd.S_nil _ _ _ _ _⟩,⟨by repeat (first|(with_reducible first|exact HB.out|apply below_alloc|apply pw_below_drewN|apply below_drew1)|exact HB.out)⟩⟩
 case round =>
  clear H'
  try clear c1
  obtain ⟨x3_1,x4_1,rfl,HA,HK1,HO_3,HB⟩:=hrel
  cases gk with
  | zero => exact absurd HA.out (by simp [racewaylaw25_few.l0])
  | succ k1 =>
   have H:=HA.out
   clear HA
   simp only [racewaylaw25_few.l0] at H
   by_cases c2 : x4_1 < (l0.length : Int)
   ·rw [if_pos c2] at H
    have c2b0 : decide (x4_1 < (l0.length : Int)) = true:=decide_eq_true c2
    clear c2
    by_cases c3 : x4_1 < 120
    ·rw [if_pos c3] at H
     have c3b0 : decide (x4_1 < 120) = true:=decide_eq_true c3
     clear c3
     by_cases c4 : 0 ≤ x4_1
     ·rw [if_pos c4] at H
      have c4b0 : decide (0 ≤ x4_1) = true:=decide_eq_true c4
      clear c4
      obtain ⟨ji5,hji5⟩ : ∃ j_ : Int,(mn (((rd_T46 l0 x4_1).f3).size : Int) 200) = j_:=⟨_,rfl⟩
      replace H : (if 0 ≤ (ji5) then (if (ji5) ≤ (((rd_T46 l0 x4_1).f3).size : Int) then (if 0 ≤ (mn (((rd_T46 l0 x4_1).f4).size : Int) 200) then (if (mn (((rd_T46 l0 x4_1).f4).size : Int) 200) ≤ (((rd_T46 l0 x4_1).f4).size : Int) then (if x3_1.length < 2513169434916 then (racewaylaw25_few.l0 k1 l0 (x3_1 ++ [(⟨(rd_T46 l0 x4_1).f0,(rd_T46 l0 x4_1).f1,(rd_T46 l0 x4_1).f2,((rd_T46 l0 x4_1).f3).extract 0 ((ji5) : Int).toNat,((rd_T46 l0 x4_1).f4).extract 0 ((mn (((rd_T46 l0 x4_1).f4).size : Int) 200) : Int).toNat⟩ : S46)]) (wrap64 (x4_1 + 1))) else (none)) else (none)) else (none)) else (none)) else (none)) = some r:=by first|(rw [hji5] at H;exact H)|(simp only [hji5] at H ⊢;exact H)
      have hji5_ : (if 200 < (((rd_T46 l0 x4_1).f3).size : Int) then 200 else (((rd_T46 l0 x4_1).f3).size : Int)) = ji5:=hji5
      by_cases c6 : 0 ≤ (ji5)
      ·rw [if_pos c6] at H
       have c6b0:=eq_true c6
       have c6b1 : decide (0 ≤ (ji5)) = true:=decide_eq_true c6
       clear c6
       by_cases c7 : (ji5) ≤ (((rd_T46 l0 x4_1).f3).size : Int)
       ·rw [if_pos c7] at H
        have c7b0:=eq_true c7
        have c7b1 : decide ((ji5) ≤ (((rd_T46 l0 x4_1).f3).size : Int)) = true:=decide_eq_true c7
        clear c7
        obtain ⟨ji8,hji8⟩ : ∃ j_ : Int,(mn (((rd_T46 l0 x4_1).f4).size : Int) 200) = j_:=⟨_,rfl⟩
        replace H : (if 0 ≤ (ji8) then (if (ji8) ≤ (((rd_T46 l0 x4_1).f4).size : Int) then (if x3_1.length < 2513169434916 then (racewaylaw25_few.l0 k1 l0 (x3_1 ++ [(⟨(rd_T46 l0 x4_1).f0,(rd_T46 l0 x4_1).f1,(rd_T46 l0 x4_1).f2,((rd_T46 l0 x4_1).f3).extract 0 ((ji5) : Int).toNat,((rd_T46 l0 x4_1).f4).extract 0 ((ji8) : Int).toNat⟩ : S46)]) (wrap64 (x4_1 + 1))) else (none)) else (none)) else (none)) = some r:=by first|(rw [hji8] at H;exact H)|(simp only [hji8] at H ⊢;exact H)
        have hji8_ : (if 200 < (((rd_T46 l0 x4_1).f4).size : Int) then 200 else (((rd_T46 l0 x4_1).f4).size : Int)) = ji8:=hji8
        by_cases c9 : 0 ≤ (ji8)
        ·rw [if_pos c9] at H
         have c9b0:=eq_true c9
         have c9b1 : decide (0 ≤ (ji8)) = true:=decide_eq_true c9
         clear c9
         by_cases c10 : (ji8) ≤ (((rd_T46 l0 x4_1).f4).size : Int)
         ·rw [if_pos c10] at H
          have c10b0:=eq_true c10
          have c10b1 : decide ((ji8) ≤ (((rd_T46 l0 x4_1).f4).size : Int)) = true:=decide_eq_true c10
          clear c10
          by_cases c11 : x3_1.length < 2513169434916
          ·rw [if_pos c11] at H
           have LMc11:=Aside0.mk c11
           clear c11
           obtain ⟨y140,hy140⟩ : ∃ y_ : List (S46),y_ = (x3_1 ++ [(⟨(rd_T46 l0 x4_1).f0,(rd_T46 l0 x4_1).f1,(rd_T46 l0 x4_1).f2,((rd_T46 l0 x4_1).f3).extract 0 ((ji5) : Int).toNat,((rd_T46 l0 x4_1).f4).extract 0 ((ji8) : Int).toNat⟩ : S46)]):=⟨_,rfl⟩
           replace H : (racewaylaw25_few.l0 k1 l0 y140 (wrap64 (x4_1 + 1))) = some r:=by first|(rw [hy140];with_reducible exact H)|(have H2_:=(Option.bind_some _ _).symm.trans H;rw [hy140];with_reducible exact H2_)|(have H2_:=(Option.bind_some _ _).symm.trans H;with_reducible exact H2_)|with_reducible exact H|(rw [hy140];exact H)|exact H
           have Ny140:=Aside0.mk hy140
           clear hy140
           have H':=Aside0.mk H
           clear H
           have p138 : 0 ≤ (x4_1 : Int):=of_decide_eq_true (by first|(with_reducible assumption)|assumption)
           have q138 : x4_1 < (l0.length : Int):=of_decide_eq_true (by first|(with_reducible assumption)|assumption)
           obtain ⟨ad138,e138,hx138_0,hx138_1,hx138_2,hx138_3,hx138_4⟩:=at_T46 HR0.out x4_1 p138 q138
           cases e138
           replace hx138_0:=(HB.out.cell (World.block_lt_of_cell? w _ hx138_0)).trans hx138_0
           replace hx138_1:=(HB.out.cell (World.block_lt_of_cell? w _ hx138_1)).trans hx138_1
           replace hx138_2:=(HB.out.cell (World.block_lt_of_cell? w _ hx138_2)).trans hx138_2
           replace hx138_3:=(HB.out.cell (World.block_lt_of_cell? w _ hx138_3)).trans hx138_3
           replace hx138_4:=(HB.out.cell (World.block_lt_of_cell? w _ hx138_4)).trans hx138_4
           replace p138:=eq_true p138
           replace q138:=eq_true q138
           try go_wp2_with (first|((with_reducible refine gate_dst (N:=5) rfl ?_);refine box_event ?hg (N:=5) ?hd (cs:=#[.int .i64 0,.int .i64 0,.int .i64 0,.string (⟨#[]⟩ : ByteArray),.string (⟨#[]⟩ : ByteArray)]) (t:=46) ?hr ?_;(case hd => rfl);(case hg => rfl);(case hr => first|(go_simp;done)|(go_simp;rfl));intro gb139 hg w12 hbox hb;have n0_:=Aside0.mk (Kd.R_below (Kd.R_elderB (by (with_reducible repeat (first|apply Kd.R_alloc|apply Kd.R_drewN|apply Kd.R_drew));exact HO_3.out) gb139 (Nat.le_of_eq hg.symm)) hb);have n1_:=Aside0.mk (below_step (by repeat (first|(with_reducible first|exact HB.out|apply below_alloc|apply pw_below_drewN|apply below_drew1)|exact HB.out)) hb);have n2_:=Aside0.mk (hbox);have n3_:=Aside0.mk ((by rw [hg];exact (below_size (by repeat (first|(with_reducible first|exact HB.out|apply below_alloc|apply pw_below_drewN|apply below_drew1)|exact HB.out))) : w.heap.size ≤ gb139));have n4_:=Aside0.mk ((by rw [hg];exact (below_size (by repeat (first|(with_reducible first|exact HB.out|apply below_alloc|apply pw_below_drewN|apply below_drew1)|exact HB.out))) : w.heap.size ≤ gb139));clear HO_3;clear HB;have HO_3:=n0_;have HB:=n1_;have BK139:=n2_;have GW139:=n3_;have GE139:=n4_;clear n0_ n1_ n2_ n3_ n4_;clear hb hbox hg;have hcz13_0 : w12.cell? ⟨gb139,0,none⟩ = some (.int .i64 0):=(blk_cell BK139.out 0).trans rfl;have hcz13_1 : w12.cell? ⟨gb139,1,none⟩ = some (.int .i64 0):=(blk_cell BK139.out 1).trans rfl;have hcz13_2 : w12.cell? ⟨gb139,2,none⟩ = some (.int .i64 0):=(blk_cell BK139.out 2).trans rfl;have hcz13_3 : w12.cell? ⟨gb139,3,none⟩ = some (.string (⟨#[]⟩ : ByteArray)):=(blk_cell BK139.out 3).trans rfl;have hcz13_4 : w12.cell? ⟨gb139,4,none⟩ = some (.string (⟨#[]⟩ : ByteArray)):=(blk_cell BK139.out 4).trans rfl;have hfz13_0:=blk_frozen BK139.out 0;have hfz13_1:=blk_frozen BK139.out 1;have hfz13_2:=blk_frozen BK139.out 2;have hfz13_3:=blk_frozen BK139.out 3;have hfz13_4:=blk_frozen BK139.out 4))
           have n0_ : Aside0 (Kd.R k46 46 (((((w12.setCell ⟨gb139,0,none⟩ (.int .i64 ((rd_T46 l0 x4_1).f0))).setCell ⟨gb139,1,none⟩ (.int .i64 ((rd_T46 l0 x4_1).f1))).setCell ⟨gb139,2,none⟩ (.int .i64 ((rd_T46 l0 x4_1).f2))).setCell ⟨gb139,3,none⟩ (.string ((rd_T46 l0 x4_1).f3))).setCell ⟨gb139,4,none⟩ (.string ((rd_T46 l0 x4_1).f4))) w.heap.size (fun k_ => k_ ≠ gb139) u3 x3_1):=⟨by (with_reducible repeat (first|apply Kd.R_alloc|apply Kd.R_drewN|apply Kd.R_drew));exact Kd.R_mono (Kd.R_far (p:=⟨gb139,4,none⟩) (Kd.R_far (p:=⟨gb139,3,none⟩) (Kd.R_far (p:=⟨gb139,2,none⟩) (Kd.R_far (p:=⟨gb139,1,none⟩) (Kd.R_far (p:=⟨gb139,0,none⟩) (Kd.R_mono HO_3.out (fun k_ hk => (⟨hk,hk.2⟩ : _ ∧ k_ ≠ gb139))) (fun _ hk => hk.2) (.int .i64 ((rd_T46 l0 x4_1).f0))) (fun _ hk => hk.2) (.int .i64 ((rd_T46 l0 x4_1).f1))) (fun _ hk => hk.2) (.int .i64 ((rd_T46 l0 x4_1).f2))) (fun _ hk => hk.2) (.string ((rd_T46 l0 x4_1).f3))) (fun _ hk => hk.2) (.string ((rd_T46 l0 x4_1).f4))) (fun _ hk => hk.1.2)⟩
           have n1_ : Aside0 ((((((w12.setCell ⟨gb139,0,none⟩ (.int .i64 ((rd_T46 l0 x4_1).f0))).setCell ⟨gb139,1,none⟩ (.int .i64 ((rd_T46 l0 x4_1).f1))).setCell ⟨gb139,2,none⟩ (.int .i64 ((rd_T46 l0 x4_1).f2))).setCell ⟨gb139,3,none⟩ (.string ((rd_T46 l0 x4_1).f3))).setCell ⟨gb139,4,none⟩ (.string ((rd_T46 l0 x4_1).f4))).heap[gb139]? = some (.cells #[.int .i64 ((rd_T46 l0 x4_1).f0),.int .i64 ((rd_T46 l0 x4_1).f1),.int .i64 ((rd_T46 l0 x4_1).f2),.string ((rd_T46 l0 x4_1).f3),.string ((rd_T46 l0 x4_1).f4)] 46 (0,0))):=⟨by (with_reducible repeat (first|refine blk_drewN ?_ _|refine blk_drew ?_|refine blk_alloc ?_ _));refine blk_put (cs:=#[.int .i64 ((rd_T46 l0 x4_1).f0),.int .i64 ((rd_T46 l0 x4_1).f1),.int .i64 ((rd_T46 l0 x4_1).f2),.string ((rd_T46 l0 x4_1).f3),.string (⟨#[]⟩ : ByteArray)]) ?_ 4 _ rfl;(with_reducible repeat (first|refine blk_drewN ?_ _|refine blk_drew ?_|refine blk_alloc ?_ _));refine blk_put (cs:=#[.int .i64 ((rd_T46 l0 x4_1).f0),.int .i64 ((rd_T46 l0 x4_1).f1),.int .i64 ((rd_T46 l0 x4_1).f2),.string (⟨#[]⟩ : ByteArray),.string (⟨#[]⟩ : ByteArray)]) ?_ 3 _ rfl;(with_reducible repeat (first|refine blk_drewN ?_ _|refine blk_drew ?_|refine blk_alloc ?_ _));refine blk_put (cs:=#[.int .i64 ((rd_T46 l0 x4_1).f0),.int .i64 ((rd_T46 l0 x4_1).f1),.int .i64 0,.string (⟨#[]⟩ : ByteArray),.string (⟨#[]⟩ : ByteArray)]) ?_ 2 _ rfl;(with_reducible repeat (first|refine blk_drewN ?_ _|refine blk_drew ?_|refine blk_alloc ?_ _));refine blk_put (cs:=#[.int .i64 ((rd_T46 l0 x4_1).f0),.int .i64 0,.int .i64 0,.string (⟨#[]⟩ : ByteArray),.string (⟨#[]⟩ : ByteArray)]) ?_ 1 _ rfl;(with_reducible repeat (first|refine blk_drewN ?_ _|refine blk_drew ?_|refine blk_alloc ?_ _));refine blk_put (cs:=#[.int .i64 0,.int .i64 0,.int .i64 0,.string (⟨#[]⟩ : ByteArray),.string (⟨#[]⟩ : ByteArray)]) ?_ 0 _ rfl;(with_reducible repeat (first|refine blk_drewN ?_ _|refine blk_drew ?_|refine blk_alloc ?_ _));exact BK139.out⟩
           have n2_ : Aside0 (Below w.heap.size w (((((w12.setCell ⟨gb139,0,none⟩ (.int .i64 ((rd_T46 l0 x4_1).f0))).setCell ⟨gb139,1,none⟩ (.int .i64 ((rd_T46 l0 x4_1).f1))).setCell ⟨gb139,2,none⟩ (.int .i64 ((rd_T46 l0 x4_1).f2))).setCell ⟨gb139,3,none⟩ (.string ((rd_T46 l0 x4_1).f3))).setCell ⟨gb139,4,none⟩ (.string ((rd_T46 l0 x4_1).f4)))):=⟨by repeat (first|(with_reducible first|exact HB.out|apply below_alloc|apply pw_below_drewN|apply below_drew1|refine below_set ?_ GE139.out)|exact HB.out)⟩
           (try clear HO_3)
           (try clear BK139)
           (try clear HB)
           generalize (((((w12.setCell ⟨gb139,0,none⟩ (.int .i64 ((rd_T46 l0 x4_1).f0))).setCell ⟨gb139,1,none⟩ (.int .i64 ((rd_T46 l0 x4_1).f1))).setCell ⟨gb139,2,none⟩ (.int .i64 ((rd_T46 l0 x4_1).f2))).setCell ⟨gb139,3,none⟩ (.string ((rd_T46 l0 x4_1).f3))).setCell ⟨gb139,4,none⟩ (.string ((rd_T46 l0 x4_1).f4))) = w14 at n0_ n1_ n2_ ⊢
           have HO_3:=n0_
           have BK139:=n1_
           have HB:=n2_
           clear n0_ n1_ n2_
           have n0_:=Aside0.mk (Kd.R_drew HO_3.out)
           have n1_:=Aside0.mk (blk_drew BK139.out)
           have n2_:=Aside0.mk (below_drew1 HB.out)
           clear HO_3
           clear BK139
           clear HB
           have HO_3:=n0_
           have BK139:=n1_
           have HB:=n2_
           clear n0_ n1_ n2_
           refine start_ (n:=18) (S:=fun w' => w'.cell? ⟨gb139,0,none⟩ = some (.int .i64 ((rd_T46 l0 x4_1).f0)) ∧ w'.cell? ⟨gb139,1,none⟩ = some (.int .i64 ((rd_T46 l0 x4_1).f1)) ∧ w'.cell? ⟨gb139,2,none⟩ = some (.int .i64 ((rd_T46 l0 x4_1).f2)) ∧ w'.cell? ⟨gb139,3,none⟩ = some (.string ((rd_T46 l0 x4_1).f3)) ∧ w'.cell? ⟨gb139,4,none⟩ = some (.string ((rd_T46 l0 x4_1).f4))) (ds:=[15,17]) #[false,false,false,false,false,false,false,false,false,false,false,false,false,false,false,false,false,false] (by kernel_rfl) rfl rfl ⟨(blk_cell BK139.out 0).trans rfl,(blk_cell BK139.out 1).trans rfl,(blk_cell BK139.out 2).trans rfl,(blk_cell BK139.out 3).trans rfl,(blk_cell BK139.out 4).trans rfl⟩ (fun hHeld => ?_);refine with_tabW racewaylaw25_few.tab6 racewaylaw25_few.bits6 (fun HT_ HW_ => ?_)
           generalize w14.drew = w15 at HO_3 BK139 HB hHeld ⊢
           refine pure_ (i:=0) (N:=some 20) (v:=?_) (a':=?_) #[true,false,false,false,false,false,false,false,false,false,false,false,false,false,false,false,false,false] rfl rfl (any_of HT_.out (by kernel_rfl)) (fun _ _ _ h => h) (Or.inl ⟨by rfl,?_⟩) ?_ ?_
           rotate_left
           ·intro w'
            go_simp
            with_reducible rfl
           rotate_left
           ·simp only [Act.put,List.setIfInBounds_toArray,List.set_cons_zero,List.set_cons_succ,i64_w,i32_w]
            rfl
           refine pure_ (i:=2) (N:=some 22) (v:=?_) (a':=?_) #[true,false,true,false,false,false,false,false,false,false,false,false,false,false,false,false,false,false] rfl rfl (any_of HT_.out (by kernel_rfl)) (fun _ _ _ h => h) (Or.inl ⟨by rfl,?_⟩) ?_ ?_
           rotate_left
           ·intro w'
            go_simp
            with_reducible rfl
           rotate_left
           ·simp only [Act.put,List.setIfInBounds_toArray,List.set_cons_zero,List.set_cons_succ,i64_w,i32_w]
            rfl
           refine pure_ (i:=7) (N:=some 27) (v:=?_) (a':=?_) #[true,false,true,false,false,false,false,true,false,false,false,false,false,false,false,false,false,false] rfl rfl (any_of HT_.out (by kernel_rfl)) (fun _ _ _ h => h) (Or.inl ⟨by rfl,?_⟩) ?_ ?_
           rotate_left
           ·intro w'
            go_simp
            with_reducible rfl
           rotate_left
           ·simp only [Act.put,List.setIfInBounds_toArray,List.set_cons_zero,List.set_cons_succ,i64_w,i32_w]
            rfl
           refine pure_ (i:=9) (N:=some 29) (v:=?_) (a':=?_) #[true,false,true,false,false,false,false,true,false,true,false,false,false,false,false,false,false,false] rfl rfl (any_of HT_.out (by kernel_rfl)) (fun _ _ _ h => h) (Or.inl ⟨by rfl,?_⟩) ?_ ?_
           rotate_left
           ·intro w'
            go_simp
            with_reducible rfl
           rotate_left
           ·simp only [Act.put,List.setIfInBounds_toArray,List.set_cons_zero,List.set_cons_succ,i64_w,i32_w]
            rfl
           refine take_ (i:=1) (N:=some 21) (v:=?_) (a':=?_) #[true,true,true,false,false,false,false,true,false,true,false,false,false,false,false,false,false,false] rfl rfl (take_ofW HT_.out HW_.out (by kernel_rfl)) (fun _ _ _ h => h) (Or.inl ⟨by rfl,?_⟩) hHeld ?_ ?_
           rotate_left
           ·rintro w' ⟨s0,s1,s2,s3,s4⟩
            go_simp
            with_reducible rfl
           rotate_left
           ·simp only [Act.put,List.setIfInBounds_toArray,List.set_cons_zero,List.set_cons_succ,i64_w,i32_w]
            rfl
           refine take_ (i:=3) (N:=some 23) (v:=?_) (a':=?_) #[true,true,true,true,false,false,false,true,false,true,false,false,false,false,false,false,false,false] rfl rfl (take_ofW HT_.out HW_.out (by kernel_rfl)) (fun _ _ _ h => h) (Or.inl ⟨by rfl,?_⟩) hHeld ?_ ?_
           rotate_left
           ·rintro w' ⟨s0,s1,s2,s3,s4⟩
            go_simp
            with_reducible rfl
           rotate_left
           ·simp only [Act.put,List.setIfInBounds_toArray,List.set_cons_zero,List.set_cons_succ,i64_w,i32_w]
            rfl
           refine pure_ (i:=4) (N:=some 24) (v:=?_) (a':=?_) #[true,true,true,true,true,false,false,true,false,true,false,false,false,false,false,false,false,false] rfl rfl (any_of HT_.out (by kernel_rfl)) (fun _ _ _ h => h) (Or.inl ⟨by rfl,?_⟩) ?_ ?_
           rotate_left
           ·intro w'
            go_simp
            with_reducible rfl
           rotate_left
           ·simp only [Act.put,List.setIfInBounds_toArray,List.set_cons_zero,List.set_cons_succ,i64_w,i32_w]
            rfl
           refine pure_ (i:=5) (N:=some 25) (v:=?_) (a':=?_) #[true,true,true,true,true,true,false,true,false,true,false,false,false,false,false,false,false,false] rfl rfl (any_of HT_.out (by kernel_rfl)) (fun _ _ _ h => h) (Or.inl ⟨by rfl,?_⟩) ?_ ?_
           rotate_left
           ·intro w'
            go_simp
            with_reducible rfl
           rotate_left
           ·simp only [Act.put,List.setIfInBounds_toArray,List.set_cons_zero,List.set_cons_succ,i64_w,i32_w]
            rfl
           refine pure_ (i:=6) (N:=some 26) (v:=?_) (a':=?_) #[true,true,true,true,true,true,true,true,false,true,false,false,false,false,false,false,false,false] rfl rfl (any_of HT_.out (by kernel_rfl)) (fun _ _ _ h => h) (Or.inl ⟨by rfl,?_⟩) ?_ ?_
           rotate_left
           ·intro w'
            go_simp
            with_reducible rfl
           rotate_left
           ·simp only [Act.put,List.setIfInBounds_toArray,List.set_cons_zero,List.set_cons_succ,i64_w,i32_w]
            rfl
           refine take_ (i:=8) (N:=some 28) (v:=?_) (a':=?_) #[true,true,true,true,true,true,true,true,true,true,false,false,false,false,false,false,false,false] rfl rfl (take_ofW HT_.out HW_.out (by kernel_rfl)) (fun _ _ _ h => h) (Or.inl ⟨by rfl,?_⟩) hHeld ?_ ?_
           rotate_left
           ·rintro w' ⟨s0,s1,s2,s3,s4⟩
            go_simp
            with_reducible rfl
           rotate_left
           ·simp only [Act.put,List.setIfInBounds_toArray,List.set_cons_zero,List.set_cons_succ,i64_w,i32_w]
            rfl
           refine take_ (i:=10) (N:=some 30) (v:=?_) (a':=?_) #[true,true,true,true,true,true,true,true,true,true,true,false,false,false,false,false,false,false] rfl rfl (take_ofW HT_.out HW_.out (by kernel_rfl)) (fun _ _ _ h => h) (Or.inl ⟨by rfl,?_⟩) hHeld ?_ ?_
           rotate_left
           ·rintro w' ⟨s0,s1,s2,s3,s4⟩
            go_simp
            with_reducible rfl
           rotate_left
           ·simp only [Act.put,List.setIfInBounds_toArray,List.set_cons_zero,List.set_cons_succ,i64_w,i32_w]
            rfl
           refine pure_ (i:=11) (N:=some 31) (v:=?_) (a':=?_) #[true,true,true,true,true,true,true,true,true,true,true,true,false,false,false,false,false,false] rfl rfl (any_of HT_.out (by kernel_rfl)) (fun _ _ _ h => h) (Or.inl ⟨by rfl,?_⟩) ?_ ?_
           rotate_left
           ·intro w'
            go_simp
            with_reducible rfl
           rotate_left
           ·simp only [Act.put,List.setIfInBounds_toArray,List.set_cons_zero,List.set_cons_succ,i64_w,i32_w]
            rfl
           refine pure_ (i:=12) (N:=some 32) (v:=?_) (a':=?_) #[true,true,true,true,true,true,true,true,true,true,true,true,true,false,false,false,false,false] rfl rfl (any_of HT_.out (by kernel_rfl)) (fun _ _ _ h => h) (Or.inl ⟨by rfl,?_⟩) ?_ ?_
           rotate_left
           ·intro w'
            go_simp
            with_reducible rfl
           rotate_left
           ·simp only [Act.put,List.setIfInBounds_toArray,List.set_cons_zero,List.set_cons_succ,i64_w,i32_w]
            rfl
           refine pure_ (i:=13) (N:=some 33) (v:=?_) (a':=?_) #[true,true,true,true,true,true,true,true,true,true,true,true,true,true,false,false,false,false] rfl rfl (any_of HT_.out (by kernel_rfl)) (fun _ _ _ h => h) (Or.inl ⟨by rfl,?_⟩) ?_ ?_
           rotate_left
           ·intro w'
            go_simp
            with_reducible rfl
           rotate_left
           ·simp only [Act.put,List.setIfInBounds_toArray,List.set_cons_zero,List.set_cons_succ,i64_w,i32_w]
            rfl
           refine pure_ (i:=14) (N:=some 34) (v:=?_) (a':=?_) #[true,true,true,true,true,true,true,true,true,true,true,true,true,true,true,false,false,false] rfl rfl (any_of HT_.out (by kernel_rfl)) (fun _ _ _ h => h) (Or.inl ⟨by rfl,?_⟩) ?_ ?_
           rotate_left
           ·intro w'
            go_simp
            with_reducible rfl
           rotate_left
           ·simp only [Act.put,List.setIfInBounds_toArray,List.set_cons_zero,List.set_cons_succ,i64_w,i32_w]
            rfl
           refine last_ (i:=15) (N:=none) #[true,true,true,true,true,true,true,true,true,true,true,true,true,true,true,true,false,false] rfl rfl (one_of HT_.out (by kernel_rfl)) (by decide) (fun K hK => ?_)
           have hs16 : w15.cell? ⟨gb139,3,none⟩ = some (.string ((rd_T46 l0 x4_1).f3)):=(blk_cell BK139.out 3).trans rfl
           have hfs16:=blk_frozen BK139.out 3
           refine skip_ (w1:=?_) (by rfl) rfl ?_ ?_
           rotate_left
           ·go_simp
            rfl
           refine hK.out _ _ ?_
           clear hK K
           refine pure_ (i:=16) (N:=some 35) (v:=?_) (a':=?_) #[true,true,true,true,true,true,true,true,true,true,true,true,true,true,true,true,true,false] rfl rfl (any_of HT_.out (by kernel_rfl)) (fun _ _ _ h => h) (Or.inl ⟨by rfl,?_⟩) ?_ ?_
           rotate_left
           ·intro w'
            go_simp
            with_reducible rfl
           rotate_left
           ·simp only [Act.put,List.setIfInBounds_toArray,List.set_cons_zero,List.set_cons_succ,i64_w,i32_w]
            rfl
           refine last_ (i:=17) (N:=none) #[true,true,true,true,true,true,true,true,true,true,true,true,true,true,true,true,true,true] rfl rfl (one_of HT_.out (by kernel_rfl)) (by decide) (fun K hK => ?_)
           have hs17 : w15.cell? ⟨gb139,4,none⟩ = some (.string ((rd_T46 l0 x4_1).f4)):=(blk_cell BK139.out 4).trans rfl
           have hfs17:=blk_frozen BK139.out 4
           refine skip_ (w1:=?_) (by rfl) rfl ?_ ?_
           rotate_left
           ·go_simp
            rfl
           refine hK.out _ _ ?_
           clear hK K
           refine done_ (done_of HT_.out (by kernel_rfl)) ?_
           have hcz18_0 : w15.cell? ⟨gb139,0,none⟩ = some (.int .i64 ((rd_T46 l0 x4_1).f0)):=(blk_cell BK139.out 0).trans rfl
           have hcz18_1 : w15.cell? ⟨gb139,1,none⟩ = some (.int .i64 ((rd_T46 l0 x4_1).f1)):=(blk_cell BK139.out 1).trans rfl
           have hcz18_2 : w15.cell? ⟨gb139,2,none⟩ = some (.int .i64 ((rd_T46 l0 x4_1).f2)):=(blk_cell BK139.out 2).trans rfl
           have hcz18_3 : w15.cell? ⟨gb139,3,none⟩ = some (.string ((rd_T46 l0 x4_1).f3)):=(blk_cell BK139.out 3).trans rfl
           have hcz18_4 : w15.cell? ⟨gb139,4,none⟩ = some (.string ((rd_T46 l0 x4_1).f4)):=(blk_cell BK139.out 4).trans rfl
           have hfz18_0:=blk_frozen BK139.out 0
           have hfz18_1:=blk_frozen BK139.out 1
           have hfz18_2:=blk_frozen BK139.out 2
           have hfz18_3:=blk_frozen BK139.out 3
           have hfz18_4:=blk_frozen BK139.out 4
           try go_wp2_with (first|((with_reducible refine gate_builtin (b:=.append) (xs:=#[.tmp 36,.tmp 38]) rfl ?_);at_builtin;refine Kd.R_append k46 (w0:=w) w.heap.size rfl (.tmp 36) (.tmp 38) 22 46 (.agg #[(.int .i64 0),(.int .i64 0),(.int .i64 0),(.string ⟨#[]⟩),(.string ⟨#[]⟩)]) 56 rfl Tryd.underlying22 info46 rfl (by decide) (by omega) u3 x3_1 (⟨(rd_T46 l0 x4_1).f0,(rd_T46 l0 x4_1).f1,(rd_T46 l0 x4_1).f2,((rd_T46 l0 x4_1).f3).extract 0 ((ji5) : Int).toNat,((rd_T46 l0 x4_1).f4).extract 0 ((ji8) : Int).toNat⟩ : S46) [.int .i64 ((rd_T46 l0 x4_1).f0),.int .i64 ((rd_T46 l0 x4_1).f1),.int .i64 ((rd_T46 l0 x4_1).f2),.string (((rd_T46 l0 x4_1).f3).extract 0 ((ji5) : Int).toNat),.string (((rd_T46 l0 x4_1).f4).extract 0 ((ji8) : Int).toNat)] (fun k_ => k_ ≠ gb139) (fun _ => False) rfl (by first|(go_simp;done)|(go_simp;rfl)) ?aP (fun _ hk => hk.elim) ?aF ?aO ?aB ?aS ?aL ?_;(case aP => exact k46_mkM _ _ _ (⟨(rd_T46 l0 x4_1).f0,(rd_T46 l0 x4_1).f1,(rd_T46 l0 x4_1).f2,((rd_T46 l0 x4_1).f3).extract 0 ((ji5) : Int).toNat,((rd_T46 l0 x4_1).f4).extract 0 ((ji8) : Int).toNat⟩ : S46));(case aB => exact (by repeat (first|(with_reducible first|exact HB.out|apply below_alloc|apply pw_below_drewN|apply below_drew1|refine below_set ?_ GE139.out)|exact HB.out)));(case aF => exact (fun k_ hk => Kd.freshB (g:=gb139) (o:=.cells #[.int .i64 ((rd_T46 l0 x4_1).f0),.int .i64 ((rd_T46 l0 x4_1).f1),.int .i64 ((rd_T46 l0 x4_1).f2),.string (((rd_T46 l0 x4_1).f3).extract 0 ((ji5) : Int).toNat),.string (((rd_T46 l0 x4_1).f4).extract 0 ((ji8) : Int).toNat)] 46 (0,0)) (by (with_reducible repeat (first|refine blk_drewN ?_ _|refine blk_drew ?_|refine blk_alloc ?_ _));refine blk_put (cs:=#[.int .i64 ((rd_T46 l0 x4_1).f0),.int .i64 ((rd_T46 l0 x4_1).f1),.int .i64 ((rd_T46 l0 x4_1).f2),.string (((rd_T46 l0 x4_1).f3).extract 0 ((ji5) : Int).toNat),.string ((rd_T46 l0 x4_1).f4)]) ?_ 4 _ rfl;(with_reducible repeat (first|refine blk_drewN ?_ _|refine blk_drew ?_|refine blk_alloc ?_ _));refine blk_put (cs:=#[.int .i64 ((rd_T46 l0 x4_1).f0),.int .i64 ((rd_T46 l0 x4_1).f1),.int .i64 ((rd_T46 l0 x4_1).f2),.string ((rd_T46 l0 x4_1).f3),.string ((rd_T46 l0 x4_1).f4)]) ?_ 3 _ rfl;(with_reducible repeat (first|refine blk_drewN ?_ _|refine blk_drew ?_|refine blk_alloc ?_ _));exact BK139.out) k_ hk));(case aO => exact (by (with_reducible repeat (first|apply Kd.R_alloc|apply Kd.R_drewN|apply Kd.R_drew));exact Kd.R_mono (Kd.R_far (p:=⟨gb139,4,none⟩) (Kd.R_far (p:=⟨gb139,3,none⟩) (Kd.R_mono HO_3.out (fun k_ hk => (⟨hk,hk⟩ : _ ∧ k_ ≠ gb139))) (fun _ hk => hk.2) (.string (((rd_T46 l0 x4_1).f3).extract 0 ((ji5) : Int).toNat))) (fun _ hk => hk.2) (.string (((rd_T46 l0 x4_1).f4).extract 0 ((ji8) : Int).toNat))) (fun _ hk => hk.1)));(case aS => exact (below_size (by repeat (first|(with_reducible first|exact HB.out|apply below_alloc|apply pw_below_drewN|apply below_drew1|refine below_set ?_ GE139.out)|exact HB.out))));(case aL => have:=LMc11.out;omega);intro v141 w19 ho hb hg hat;rw [← Ny140.out] at ho;have n0_:=Aside0.mk (blk_grown (g:=gb139) (o:=.cells #[.int .i64 ((rd_T46 l0 x4_1).f0),.int .i64 ((rd_T46 l0 x4_1).f1),.int .i64 ((rd_T46 l0 x4_1).f2),.string (((rd_T46 l0 x4_1).f3).extract 0 ((ji5) : Int).toNat),.string (((rd_T46 l0 x4_1).f4).extract 0 ((ji8) : Int).toNat)] 46 (0,0)) (by (with_reducible repeat (first|refine blk_drewN ?_ _|refine blk_drew ?_|refine blk_alloc ?_ _));refine blk_put (cs:=#[.int .i64 ((rd_T46 l0 x4_1).f0),.int .i64 ((rd_T46 l0 x4_1).f1),.int .i64 ((rd_T46 l0 x4_1).f2),.string (((rd_T46 l0 x4_1).f3).extract 0 ((ji5) : Int).toNat),.string ((rd_T46 l0 x4_1).f4)]) ?_ 4 _ rfl;(with_reducible repeat (first|refine blk_drewN ?_ _|refine blk_drew ?_|refine blk_alloc ?_ _));refine blk_put (cs:=#[.int .i64 ((rd_T46 l0 x4_1).f0),.int .i64 ((rd_T46 l0 x4_1).f1),.int .i64 ((rd_T46 l0 x4_1).f2),.string ((rd_T46 l0 x4_1).f3),.string ((rd_T46 l0 x4_1).f4)]) ?_ 3 _ rfl;(with_reducible repeat (first|refine blk_drewN ?_ _|refine blk_drew ?_|refine blk_alloc ?_ _));exact BK139.out) hg (Kd.R_away HO_3.out (fun _ hk => hk)));have n1_:=Aside0.mk (hb);have n2_:=Aside0.mk (ho);clear BK139;clear HB;clear HO_3;have BK139:=n0_;have HB:=n1_;have HO142:=n2_;clear n0_ n1_ n2_;clear ho hb hg hat))
           go_roundg k1
           case measure => have:=HK1.out;omega
           case rel => exact ⟨(y140),(wrap64 (x4_1 + 1)),(by first|rfl|(simp;done)|(simp;decide +kernel)|(simp [*];done)),(by first|exact H'|(subst_vars;exact H')),⟨by have:=HK1.out;omega⟩,⟨by (with_reducible repeat (first|apply Kd.R_alloc|apply Kd.R_drewN|apply Kd.R_drew));exact Kd.R_mono HO142.out (fun _ hk => trivial)⟩,⟨by repeat (first|(with_reducible first|exact HB.out|apply below_alloc|apply pw_below_drewN|apply below_drew1|refine below_set ?_ GE139.out)|exact HB.out)⟩⟩
          ·rw [if_neg c11] at H
           exact absurd H (by simp)
         ·rw [if_neg c10] at H
          exact absurd H (by simp)
        ·rw [if_neg c9] at H
         exact absurd H (by simp)
       ·rw [if_neg c7] at H
        exact absurd H (by simp)
      ·rw [if_neg c6] at H
       exact absurd H (by simp)
     ·rw [if_neg c4] at H
      exact absurd H (by simp)
    ·rw [if_neg c3] at H
     have c3b0 : decide (x4_1 < 120) = false:=decide_eq_false c3
     clear c3
     obtain rfl:=Option.some.inj H
     go_wp2
     go_ret
     exact ⟨_,by first|rfl|(simp [errW_none,errW_some] <;> rfl)|(simp [*,errW_none,errW_some] <;> rfl),by (with_reducible repeat (first|apply Kd.R_alloc|apply Kd.R_drewN|apply Kd.R_drew));exact HO_3.out,by repeat (first|(with_reducible first|exact HB.out|apply below_alloc|apply pw_below_drewN|apply below_drew1)|exact HB.out)⟩
   ·rw [if_neg c2] at H
    have c2b0 : decide (x4_1 < (l0.length : Int)) = false:=decide_eq_false c2
    clear c2
    obtain rfl:=Option.some.inj H
    go_wp2
    go_ret
    exact ⟨_,by first|rfl|(simp [errW_none,errW_some] <;> rfl)|(simp [*,errW_none,errW_some] <;> rfl),by (with_reducible repeat (first|apply Kd.R_alloc|apply Kd.R_drewN|apply Kd.R_drew));exact HO_3.out,by repeat (first|(with_reducible first|exact HB.out|apply below_alloc|apply pw_below_drewN|apply below_drew1)|exact HB.out)⟩
end Go.Proofs.YtadfkeipcebmfaaDoor.X
namespace Go.Proofs.YtadfkeipcebmfaaDoor.X
open Go.RowKit Go.Proofs.YtadfkeipcebmfaaDoorW.PrintWords Go.Proofs.YtadfkeipcebmfaaDoorW.PrintLast Go.Proofs.YtadfkeipcebmfaaDoorW.PrintMore
attribute [local go_sem] max2_int min2_int max_two min_two max_three min_three max_four min_four
set_option linter.unusedVariables false
set_option linter.unusedSimpArgs false
def jsontext_Leaf.f (k : Nat) (a0 : Int) (a1 : ByteArray) : Option ((List (S46))):=(some (([(⟨a0,1,0,(⟨#[]⟩ : ByteArray),a1⟩ : S46)] : List (S46)) : List (S46))).bind fun y218 => (if a0 ≥ 6 then (some ([] : List (S46))) else ((jsontext_Check.f k y218).bind fun t221 => (if t221 = 0 then (some y218) else (some ([] : List (S46))))))
set_option maxHeartbeats 8000000 in
set_option maxRecDepth 100000 in
theorem jsontext_Leaf.calls (k : Nat) (a0 : Int) (a1 : ByteArray) (r : List (S46)) (w : World) (hGU8 : GlobU8 w) (h : jsontext_Leaf.f k a0 a1 = some r) :
  Calls Tryd.prog 17 #[.int .i64 a0,.string a1] w fun e w' => ∃ v0_ : Value,e = .returned (v0_) ∧ Kd.R k46 46 w' w.heap.size (fun _ => True) v0_ r ∧ Below w.heap.size w w':=by
 have hu46:=Tryd.underlying46
 have HGU8:=Aside0.mk hGU8
 clear hGU8
 have HB:=Aside0.mk (Below.refl w.heap.size w)
 have H : ((some (([(⟨a0,1,0,(⟨#[]⟩ : ByteArray),a1⟩ : S46)] : List (S46)) : List (S46))).bind fun y218 => (if a0 ≥ 6 then (some ([] : List (S46))) else ((jsontext_Check.f k y218).bind fun t221 => (if t221 = 0 then (some y218) else (some ([] : List (S46))))))) = some r:=h
 clear h
 obtain ⟨y218,hy218⟩ : ∃ y_ : List (S46),y_ = (([(⟨a0,1,0,(⟨#[]⟩ : ByteArray),a1⟩ : S46)] : List (S46))):=⟨_,rfl⟩
 replace H : (if a0 ≥ 6 then (some ([] : List (S46))) else ((jsontext_Check.f k y218).bind fun t221 => (if t221 = 0 then (some y218) else (some ([] : List (S46)))))) = some r:=by first|(rw [hy218];with_reducible exact H)|(have H2_:=(Option.bind_some _ _).symm.trans H;rw [hy218];with_reducible exact H2_)|(have H2_:=(Option.bind_some _ _).symm.trans H;with_reducible exact H2_)|with_reducible exact H|(rw [hy218];exact H)|exact H
 have Ny218:=Aside0.mk hy218
 clear hy218
 by_cases c3 : a0 ≥ 6
 ·rw [if_pos c3] at H
  have c3b0 : decide (6 ≤ a0) = true:=decide_eq_true c3
  clear c3
  obtain rfl:=Option.some.inj H
  go_enter Tryd.func17,Tryd.ntmps17
  go_wp2_with (first|((with_reducible refine gate_dst (N:=9) rfl ?_);refine Kd.R_lit k46 _ 46 ?hg (N:=9) ?hd (xs:=([(⟨a0,1,0,(⟨#[]⟩ : ByteArray),a1⟩ : S46)] : List (S46))) (inner:=[.int .i64 a0,.int .i64 1,.int .i64 0,.string (⟨#[]⟩ : ByteArray),.string a1]) (ok:=fun _ => True) (okp:=fun _ => True) ?hr ?hp (fun _ hk => hk) trivial (Below.refl _ _) (Nat.le_refl _) (by simp) ?_;(case hd => rfl);(case hg => rfl);(case hr => first|(go_simp;done)|(go_simp;rfl));(case hp => exact (Reps.c5 (show Kd.M k46 _ _ _ (⟨a0,1,0,(⟨#[]⟩ : ByteArray),a1⟩ : S46) [.int .i64 a0,.int .i64 1,.int .i64 0,.string (⟨#[]⟩ : ByteArray),.string a1] from (k46_mkM _ _ _ (⟨a0,1,0,(⟨#[]⟩ : ByteArray),a1⟩ : S46) )) (Reps.none _ _)));intro v219 w4 ho5 hb hg_ hnew_;clear hg_ hnew_;(first|rw [← Ny218.out] at ho5|(simp only [Int.reduceToNat] at ho5;rw [← Ny218.out] at ho5));have n0_:=Aside0.mk (Kd.R_lower ho5 (below_size (by repeat (first|(with_reducible first|exact HB.out|apply below_alloc|apply pw_below_drewN|apply below_drew1)|exact HB.out))));have n1_:=Aside0.mk (below_step (by repeat (first|(with_reducible first|exact HB.out|apply below_alloc|apply pw_below_drewN|apply below_drew1)|exact HB.out)) hb);clear HB;have HO220:=n0_;have HB:=n1_;clear n0_ n1_;clear hb ho5))
  go_ret
  exact ⟨_,by first|rfl|(simp [errW_none,errW_some] <;> rfl)|(simp [*,errW_none,errW_some] <;> rfl),by first|exact Kd.R_nil _ _ _ _ _|exact Kd.N_nil _ _ _ _ _|exact Kd.V_nil _ _ _ _ _|exact Kd.Q_nil _ _ _ _ _|exact Kd.S_nil _ _ _ _ _,by repeat (first|(with_reducible first|exact HB.out|apply below_alloc|apply pw_below_drewN|apply below_drew1)|exact HB.out)⟩
 ·rw [if_neg c3] at H
  have c3b0 : decide (6 ≤ a0) = false:=decide_eq_false c3
  clear c3
  replace H:=Option.bind_eq_some_iff.mp H
  obtain ⟨t221,A60,H⟩:=H
  replace H : (if t221 = 0 then (some y218) else (some ([] : List (S46)))) = some r:=H
  have A6:=Aside0.mk A60
  clear A60
  by_cases c7 : t221 = 0
  ·rw [if_pos c7] at H
   have c7b0 : (t221 == 0) = true:=beq_iff_eq.mpr c7
   have c7b1 : (t221 != 0) = false:=bne_eq_false_iff_eq.mpr c7
   clear c7
   obtain rfl:=Option.some.inj H
   go_enter Tryd.func17,Tryd.ntmps17
   go_wp2_with (first|((with_reducible refine gate_dst (N:=9) rfl ?_);refine Kd.R_lit k46 _ 46 ?hg (N:=9) ?hd (xs:=([(⟨a0,1,0,(⟨#[]⟩ : ByteArray),a1⟩ : S46)] : List (S46))) (inner:=[.int .i64 a0,.int .i64 1,.int .i64 0,.string (⟨#[]⟩ : ByteArray),.string a1]) (ok:=fun _ => True) (okp:=fun _ => True) ?hr ?hp (fun _ hk => hk) trivial (Below.refl _ _) (Nat.le_refl _) (by simp) ?_;(case hd => rfl);(case hg => rfl);(case hr => first|(go_simp;done)|(go_simp;rfl));(case hp => exact (Reps.c5 (show Kd.M k46 _ _ _ (⟨a0,1,0,(⟨#[]⟩ : ByteArray),a1⟩ : S46) [.int .i64 a0,.int .i64 1,.int .i64 0,.string (⟨#[]⟩ : ByteArray),.string a1] from (k46_mkM _ _ _ (⟨a0,1,0,(⟨#[]⟩ : ByteArray),a1⟩ : S46) )) (Reps.none _ _)));intro v219 w8 ho9 hb hg_ hnew_;clear hg_ hnew_;(first|rw [← Ny218.out] at ho9|(simp only [Int.reduceToNat] at ho9;rw [← Ny218.out] at ho9));have n0_:=Aside0.mk (Kd.R_lower ho9 (below_size (by repeat (first|(with_reducible first|exact HB.out|apply below_alloc|apply pw_below_drewN|apply below_drew1)|exact HB.out))));have n1_:=Aside0.mk (below_step (by repeat (first|(with_reducible first|exact HB.out|apply below_alloc|apply pw_below_drewN|apply below_drew1)|exact HB.out)) hb);clear HB;have HO220:=n0_;have HB:=n1_;clear n0_ n1_;clear hb ho9;obtain ⟨Ao10,co10,eo10⟩:=Kd.R_slice HO220.out;subst eo10)|(go_at_call 16;(with_reducible refine (jsontext_Check.calls k _ _ y218 t221 _ ?side3 ?side1 ?side2 A6.out).mono ?_);(case side1 => repeat (first|exact (Kd.R_reads' HO220.out).2.2|(with_reducible refine Kd.C_alloc ?_ _)|(with_reducible refine Kd.C_drewN ?_ _)|(with_reducible refine Kd.C_drew ?_)));(case side2 => exact (Kd.R_reads' HO220.out).2.1);(case side3 => first|exact HGU8.out|exact GlobU8.below HGU8.out (by repeat (first|(with_reducible first|exact HB.out|apply below_alloc|apply pw_below_drewN|apply below_drew1)|exact HB.out))|exact GlobU8.drawn HGU8.out (by repeat (first|exact Drawn0.refl _|apply Drawn0.step)));rintro e w11 ⟨rfl,hb⟩;have n0_:=Aside0.mk (Kd.R_below (by (with_reducible repeat (first|apply Kd.R_alloc|apply Kd.R_drewN|apply Kd.R_drew));exact HO220.out) hb);have n1_:=Aside0.mk (below_step (by repeat (first|(with_reducible first|exact HB.out|apply below_alloc|apply pw_below_drewN|apply below_drew1)|exact HB.out)) hb);clear HO220;clear HB;have HO220:=n0_;have HB:=n1_;clear n0_ n1_;(try clear hb);(try clear hb2);(try clear hk);(try clear hi)))
   go_ret
   exact ⟨_,by first|rfl|(simp [errW_none,errW_some] <;> rfl)|(simp [*,errW_none,errW_some] <;> rfl),by (with_reducible repeat (first|apply Kd.R_alloc|apply Kd.R_drewN|apply Kd.R_drew));exact HO220.out,by repeat (first|(with_reducible first|exact HB.out|apply below_alloc|apply pw_below_drewN|apply below_drew1)|exact HB.out)⟩
  ·rw [if_neg c7] at H
   have c7b0 : (t221 == 0) = false:=beq_eq_false_iff_ne.mpr c7
   have c7b1 : (t221 != 0) = true:=bne_iff_ne.mpr c7
   obtain rfl:=Option.some.inj H
   go_enter Tryd.func17,Tryd.ntmps17
   go_wp2_with (first|((with_reducible refine gate_dst (N:=9) rfl ?_);refine Kd.R_lit k46 _ 46 ?hg (N:=9) ?hd (xs:=([(⟨a0,1,0,(⟨#[]⟩ : ByteArray),a1⟩ : S46)] : List (S46))) (inner:=[.int .i64 a0,.int .i64 1,.int .i64 0,.string (⟨#[]⟩ : ByteArray),.string a1]) (ok:=fun _ => True) (okp:=fun _ => True) ?hr ?hp (fun _ hk => hk) trivial (Below.refl _ _) (Nat.le_refl _) (by simp) ?_;(case hd => rfl);(case hg => rfl);(case hr => first|(go_simp;done)|(go_simp;rfl));(case hp => exact (Reps.c5 (show Kd.M k46 _ _ _ (⟨a0,1,0,(⟨#[]⟩ : ByteArray),a1⟩ : S46) [.int .i64 a0,.int .i64 1,.int .i64 0,.string (⟨#[]⟩ : ByteArray),.string a1] from (k46_mkM _ _ _ (⟨a0,1,0,(⟨#[]⟩ : ByteArray),a1⟩ : S46) )) (Reps.none _ _)));intro v219 w12 ho13 hb hg_ hnew_;clear hg_ hnew_;(first|rw [← Ny218.out] at ho13|(simp only [Int.reduceToNat] at ho13;rw [← Ny218.out] at ho13));have n0_:=Aside0.mk (Kd.R_lower ho13 (below_size (by repeat (first|(with_reducible first|exact HB.out|apply below_alloc|apply pw_below_drewN|apply below_drew1)|exact HB.out))));have n1_:=Aside0.mk (below_step (by repeat (first|(with_reducible first|exact HB.out|apply below_alloc|apply pw_below_drewN|apply below_drew1)|exact HB.out)) hb);clear HB;have HO220:=n0_;have HB:=n1_;clear n0_ n1_;clear hb ho13;obtain ⟨Ao14,co14,eo14⟩:=Kd.R_slice HO220.out;subst eo14)|(go_at_call 16;(with_reducible refine (jsontext_Check.calls k _ _ y218 t221 _ ?side3 ?side1 ?side2 A6.out).mono ?_);(case side1 => repeat (first|exact (Kd.R_reads' HO220.out).2.2|(with_reducible refine Kd.C_alloc ?_ _)|(with_reducible refine Kd.C_drewN ?_ _)|(with_reducible refine Kd.C_drew ?_)));(case side2 => exact (Kd.R_reads' HO220.out).2.1);(case side3 => first|exact HGU8.out|exact GlobU8.below HGU8.out (by repeat (first|(with_reducible first|exact HB.out|apply below_alloc|apply pw_below_drewN|apply below_drew1)|exact HB.out))|exact GlobU8.drawn HGU8.out (by repeat (first|exact Drawn0.refl _|apply Drawn0.step)));rintro e w15 ⟨rfl,hb⟩;have n0_:=Aside0.mk (Kd.R_below (by (with_reducible repeat (first|apply Kd.R_alloc|apply Kd.R_drewN|apply Kd.R_drew));exact HO220.out) hb);have n1_:=Aside0.mk (below_step (by repeat (first|(with_reducible first|exact HB.out|apply below_alloc|apply pw_below_drewN|apply below_drew1)|exact HB.out)) hb);clear HO220;clear HB;have HO220:=n0_;have HB:=n1_;clear n0_ n1_;(try clear hb);(try clear hb2);(try clear hk);(try clear hi)))
   go_ret
   exact ⟨_,by first|rfl|(simp [errW_none,errW_some] <;> rfl)|(simp [*,errW_none,errW_some] <;> rfl),by first|exact Kd.R_nil _ _ _ _ _|exact Kd.N_nil _ _ _ _ _|exact Kd.V_nil _ _ _ _ _|exact Kd.Q_nil _ _ _ _ _|exact Kd.S_nil _ _ _ _ _,by repeat (first|(with_reducible first|exact HB.out|apply below_alloc|apply pw_below_drewN|apply below_drew1)|exact HB.out)⟩
end Go.Proofs.YtadfkeipcebmfaaDoor.X
namespace Go.Proofs.YtadfkeipcebmfaaDoor.X
open Go.RowKit Go.Proofs.YtadfkeipcebmfaaDoorW.PrintWords Go.Proofs.YtadfkeipcebmfaaDoorW.PrintLast Go.Proofs.YtadfkeipcebmfaaDoorW.PrintMore
attribute [local go_sem] max2_int min2_int max_two min_two max_three min_three max_four min_four
set_option linter.unusedVariables false
set_option linter.unusedSimpArgs false
def jsontext_made.l0 : Nat → Int → List ByteArray → List (S46) → List (List (S46)) → Int → Int → Option ((List (S46)))
 | 0,_,_,_,_,_,_ => none
 | k + 1,x0,x1,x7,x16,x17,x18 => if x18 < x17 then (if 0 ≤ x18 then (if x18 < (x16.length : Int) then ((jsontext_Check.f k (rd_L3 x16 x18)).bind fun t227 => (if t227 = 0 then (if x7.length + (rd_L3 x16 x18).length < 2513169434916 then ((some (x7 ++ (rd_L3 x16 x18) : List (S46))).bind fun y228 => (if x0 = 7 then (if x18 < (x1.length : Int) then ((utf8_ValidString.f (rdOf ByteArray.empty x1 x18)).bind fun t232 => (if t232 = true then (if 0 ≤ (x7.length : Int) then (if (x7.length : Int) < (y228.length : Int) then (jsontext_made.l0 k x0 x1 (y228.set ((x7.length : Int) : Int).toNat (⟨(rd_T46 y228 (x7.length : Int)).f0,(rd_T46 y228 (x7.length : Int)).f1,(rd_T46 y228 (x7.length : Int)).f2,rdOf ByteArray.empty x1 x18,(rd_T46 y228 (x7.length : Int)).f4⟩ : S46)) x16 x17 (wrap64 (x18 + 1))) else (none)) else (none)) else (some ([] : List (S46))))) else (none)) else (jsontext_made.l0 k x0 x1 y228 x16 x17 (wrap64 (x18 + 1))))) else (none)) else (some ([] : List (S46))))) else (none)) else (none)) else (if 0 < (x7.length : Int) then (some (x7.set (0 : Int).toNat (⟨(rd_T46 x7 0).f0,(x7.length : Int),(rd_T46 x7 0).f2,(rd_T46 x7 0).f3,(rd_T46 x7 0).f4⟩ : S46))) else (none))
def jsontext_made.f (k : Nat) (a0 : Int) (l1 : List ByteArray) (l2 : List (List (S46))) : Option ((List (S46))):=jsontext_made.l0 k a0 l1 (([(⟨a0,0,(l2.length : Int),(⟨#[]⟩ : ByteArray),(⟨#[]⟩ : ByteArray)⟩ : S46)] : List (S46))) l2 (l2.length : Int) 0
set_option maxHeartbeats 8000000 in
set_option maxRecDepth 100000 in
theorem jsontext_made.calls (k : Nat) (a0 : Int) (A1 : Option Addr) (c1 : Nat) (l1 : List ByteArray) (A2 : Option Addr) (c2 : Nat) (l2 : List (List (S46))) (r : List (S46)) (w : World) (hGU8 : GlobU8 w) (hr1 : Kd.C Kd.string w A1 l1.length l1) (hc1 : l1.length ≤ c1) (hr2 : Kd.C (Kd.slice 46 k46) w A2 l2.length l2) (hc2 : l2.length ≤ c2) (h : jsontext_made.f k a0 l1 l2 = some r) :
  Calls Tryd.prog 40 #[.int .i64 a0,.slice A1 l1.length c1,.slice A2 l2.length c2] w fun e w' => ∃ v0_ : Value,e = .returned (v0_) ∧ Kd.R k46 46 w' w.heap.size (fun _ => True) v0_ r ∧ Below w.heap.size w w':=by
 have hu46:=Tryd.underlying46
 have HGU8:=Aside0.mk hGU8
 clear hGU8
 have HR1:=Aside0.mk hr1
 have HC1:=Aside0.mk hc1
 clear hr1 hc1
 have HR2:=Aside0.mk hr2
 have HC2:=Aside0.mk hc2
 clear hr2 hc2
 have HB:=Aside0.mk (Below.refl w.heap.size w)
 have H : (jsontext_made.l0 k a0 l1 (([(⟨a0,0,(l2.length : Int),(⟨#[]⟩ : ByteArray),(⟨#[]⟩ : ByteArray)⟩ : S46)] : List (S46))) l2 (l2.length : Int) 0) = some r:=h
 clear h
 obtain ⟨y222,hy222⟩ : ∃ y_ : List (S46),y_ = (([(⟨a0,0,(l2.length : Int),(⟨#[]⟩ : ByteArray),(⟨#[]⟩ : ByteArray)⟩ : S46)] : List (S46))):=⟨_,rfl⟩
 replace H : (jsontext_made.l0 k a0 l1 y222 l2 (l2.length : Int) 0) = some r:=by first|(rw [hy222];with_reducible exact H)|(have H2_:=(Option.bind_some _ _).symm.trans H;rw [hy222];with_reducible exact H2_)|(have H2_:=(Option.bind_some _ _).symm.trans H;with_reducible exact H2_)|with_reducible exact H|(rw [hy222];exact H)|exact H
 have Ny222:=Aside0.mk hy222
 clear hy222
 have H':=Aside0.mk H
 clear H
 go_enter Tryd.func40,Tryd.ntmps40
 go_wp2_with (first|((with_reducible refine gate_dst (N:=15) rfl ?_);refine Kd.R_lit k46 _ 46 ?hg (N:=15) ?hd (xs:=([(⟨a0,0,(l2.length : Int),(⟨#[]⟩ : ByteArray),(⟨#[]⟩ : ByteArray)⟩ : S46)] : List (S46))) (inner:=[.int .i64 a0,.int .i64 0,.int .i64 (l2.length : Int),.string (⟨#[]⟩ : ByteArray),.string (⟨#[]⟩ : ByteArray)]) (ok:=fun _ => True) (okp:=fun _ => True) ?hr ?hp (fun _ hk => hk) trivial (Below.refl _ _) (Nat.le_refl _) (by simp) ?_;(case hd => rfl);(case hg => rfl);(case hr => first|(go_simp;done)|(go_simp;rfl));(case hp => exact (Reps.c5 (show Kd.M k46 _ _ _ (⟨a0,0,(l2.length : Int),(⟨#[]⟩ : ByteArray),(⟨#[]⟩ : ByteArray)⟩ : S46) [.int .i64 a0,.int .i64 0,.int .i64 (l2.length : Int),.string (⟨#[]⟩ : ByteArray),.string (⟨#[]⟩ : ByteArray)] from (k46_mkM _ _ _ (⟨a0,0,(l2.length : Int),(⟨#[]⟩ : ByteArray),(⟨#[]⟩ : ByteArray)⟩ : S46) )) (Reps.none _ _)));intro v223 w4 ho5 hb hg_ hnew_;clear hg_ hnew_;(first|rw [← Ny222.out] at ho5|(simp only [Int.reduceToNat] at ho5;rw [← Ny222.out] at ho5));have n0_:=Aside0.mk (Kd.R_lower ho5 (below_size (by repeat (first|(with_reducible first|exact HB.out|apply below_alloc|apply pw_below_drewN|apply below_drew1)|exact HB.out))));have n1_:=Aside0.mk (below_step (by repeat (first|(with_reducible first|exact HB.out|apply below_alloc|apply pw_below_drewN|apply below_drew1)|exact HB.out)) hb);clear HB;have HO224:=n0_;have HB:=n1_;clear n0_ n1_;clear hb ho5))
 go_loopg [7,18] k (fun kq v7 v18 w' => ∃ (x7_1 : List (S46)) (x18_1 : Int),v18 = .int .i64 x18_1 ∧ Aside0 (jsontext_made.l0 kq a0 l1 x7_1 l2 (l2.length : Int) x18_1 = some r) ∧ Aside0 (kq ≤ k) ∧ Aside0 (Kd.R k46 46 w' w.heap.size (fun _ => True) v7 x7_1) ∧ Aside0 (Below w.heap.size w w'))
 case atStart => exact ⟨(y222),(0),(by first|rfl|(simp;done)|(simp;decide +kernel)|(simp [*];done)),(by first|exact H'|(subst_vars;exact H')),⟨Nat.le_refl _⟩,⟨by (with_reducible repeat (first|apply Kd.R_alloc|apply Kd.R_drewN|apply Kd.R_drew));exact HO224.out⟩,⟨by repeat (first|(with_reducible first|exact HB.out|apply below_alloc|apply pw_below_drewN|apply below_drew1)|exact HB.out)⟩⟩
 case round =>
  clear H'
  try clear c1
  try clear c2
  try clear p2
  try clear c4
  try clear c5
  obtain ⟨x7_1,x18_1,rfl,HA,HK1,HO_7,HB⟩:=hrel
  cases gk with
  | zero => exact absurd HA.out (by simp [jsontext_made.l0])
  | succ k1 =>
   have H:=HA.out
   clear HA
   simp only [jsontext_made.l0] at H
   by_cases c6 : x18_1 < (l2.length : Int)
   ·rw [if_pos c6] at H
    have c6b0 : decide (x18_1 < (l2.length : Int)) = true:=decide_eq_true c6
    clear c6
    by_cases c7 : 0 ≤ x18_1
    ·rw [if_pos c7] at H
     have c7b0 : decide (0 ≤ x18_1) = true:=decide_eq_true c7
     clear c7
     by_cases c8 : x18_1 < (l2.length : Int)
     ·rw [if_pos c8] at H
      have c8b0 : decide (x18_1 < (l2.length : Int)) = true:=decide_eq_true c8
      clear c8
      replace H:=Option.bind_eq_some_iff.mp H
      obtain ⟨t227,A90,H⟩:=H
      replace H : (if t227 = 0 then (if x7_1.length + (rd_L3 l2 x18_1).length < 2513169434916 then ((some (x7_1 ++ (rd_L3 l2 x18_1) : List (S46))).bind fun y228 => (if a0 = 7 then (if x18_1 < (l1.length : Int) then ((utf8_ValidString.f (rdOf ByteArray.empty l1 x18_1)).bind fun t232 => (if t232 = true then (if 0 ≤ (x7_1.length : Int) then (if (x7_1.length : Int) < (y228.length : Int) then (jsontext_made.l0 k1 a0 l1 (y228.set x7_1.length (⟨(rd_T46 y228 (x7_1.length : Int)).f0,(rd_T46 y228 (x7_1.length : Int)).f1,(rd_T46 y228 (x7_1.length : Int)).f2,rdOf ByteArray.empty l1 x18_1,(rd_T46 y228 (x7_1.length : Int)).f4⟩ : S46)) l2 (l2.length : Int) (wrap64 (x18_1 + 1))) else (none)) else (none)) else (some ([] : List (S46))))) else (none)) else (jsontext_made.l0 k1 a0 l1 y228 l2 (l2.length : Int) (wrap64 (x18_1 + 1))))) else (none)) else (some ([] : List (S46)))) = some r:=H
      have A9:=Aside0.mk A90
      clear A90
      by_cases c10 : t227 = 0
      ·rw [if_pos c10] at H
       have c10b0 : (t227 == 0) = true:=beq_iff_eq.mpr c10
       have c10b1 : (t227 != 0) = false:=bne_eq_false_iff_eq.mpr c10
       clear c10
       by_cases c11 : x7_1.length + (rd_L3 l2 x18_1).length < 2513169434916
       ·rw [if_pos c11] at H
        have LMc11:=Aside0.mk c11
        clear c11
        obtain ⟨y228,hy228⟩ : ∃ y_ : List (S46),y_ = (x7_1 ++ (rd_L3 l2 x18_1)):=⟨_,rfl⟩
        replace H : (if a0 = 7 then (if x18_1 < (l1.length : Int) then ((utf8_ValidString.f (rdOf ByteArray.empty l1 x18_1)).bind fun t232 => (if t232 = true then (if 0 ≤ (x7_1.length : Int) then (if (x7_1.length : Int) < (y228.length : Int) then (jsontext_made.l0 k1 a0 l1 (y228.set x7_1.length (⟨(rd_T46 y228 (x7_1.length : Int)).f0,(rd_T46 y228 (x7_1.length : Int)).f1,(rd_T46 y228 (x7_1.length : Int)).f2,rdOf ByteArray.empty l1 x18_1,(rd_T46 y228 (x7_1.length : Int)).f4⟩ : S46)) l2 (l2.length : Int) (wrap64 (x18_1 + 1))) else (none)) else (none)) else (some ([] : List (S46))))) else (none)) else (jsontext_made.l0 k1 a0 l1 y228 l2 (l2.length : Int) (wrap64 (x18_1 + 1)))) = some r:=by first|(rw [hy228];with_reducible exact H)|(have H2_:=(Option.bind_some _ _).symm.trans H;rw [hy228];with_reducible exact H2_)|(have H2_:=(Option.bind_some _ _).symm.trans H;with_reducible exact H2_)|with_reducible exact H|(rw [hy228];exact H)|exact H
        have Ny228:=Aside0.mk hy228
        clear hy228
        by_cases c12 : a0 = 7
        ·rw [if_pos c12] at H
         have c12b0 : (a0 == 7) = true:=beq_iff_eq.mpr c12
         have c12b1 : (a0 != 7) = false:=bne_eq_false_iff_eq.mpr c12
         clear c12
         by_cases c13 : x18_1 < (l1.length : Int)
         ·rw [if_pos c13] at H
          have c13b0 : decide (x18_1 < (l1.length : Int)) = true:=decide_eq_true c13
          clear c13
          replace H:=Option.bind_eq_some_iff.mp H
          obtain ⟨t232,A140,H⟩:=H
          replace H : (if t232 = true then (if 0 ≤ (x7_1.length : Int) then (if (x7_1.length : Int) < (y228.length : Int) then (jsontext_made.l0 k1 a0 l1 (y228.set x7_1.length (⟨(rd_T46 y228 (x7_1.length : Int)).f0,(rd_T46 y228 (x7_1.length : Int)).f1,(rd_T46 y228 (x7_1.length : Int)).f2,rdOf ByteArray.empty l1 x18_1,(rd_T46 y228 (x7_1.length : Int)).f4⟩ : S46)) l2 (l2.length : Int) (wrap64 (x18_1 + 1))) else (none)) else (none)) else (some ([] : List (S46)))) = some r:=H
          have A14:=Aside0.mk A140
          clear A140
          by_cases c15 : t232 = true
          ·subst c15
           have H1 : (if 0 ≤ (x7_1.length : Int) then (if (x7_1.length : Int) < (y228.length : Int) then (jsontext_made.l0 k1 a0 l1 (y228.set x7_1.length (⟨(rd_T46 y228 (x7_1.length : Int)).f0,(rd_T46 y228 (x7_1.length : Int)).f1,(rd_T46 y228 (x7_1.length : Int)).f2,rdOf ByteArray.empty l1 x18_1,(rd_T46 y228 (x7_1.length : Int)).f4⟩ : S46)) l2 (l2.length : Int) (wrap64 (x18_1 + 1))) else (none)) else (none)) = some r:=by rw [if_pos rfl] at H;exact H
           clear H
           have H:=H1
           clear H1
           by_cases c16 : 0 ≤ (x7_1.length : Int)
           ·rw [if_pos c16] at H
            have c16b0 : decide (0 ≤ (x7_1.length : Int)) = true:=decide_eq_true c16
            have c16b1 : decide (0 ≤ x7_1.length) = true:=decide_eq_true (by omega)
            clear c16
            by_cases c17 : (x7_1.length : Int) < (y228.length : Int)
            ·rw [if_pos c17] at H
             have c17b0 : decide ((x7_1.length : Int) < (y228.length : Int)) = true:=decide_eq_true c17
             have c17b1 : decide (x7_1.length < y228.length) = true:=decide_eq_true (Int.ofNat_lt.mp c17)
             clear c17
             obtain ⟨y234,hy234⟩ : ∃ y_ : List (S46),y_ = (y228.set x7_1.length (⟨(rd_T46 y228 (x7_1.length : Int)).f0,(rd_T46 y228 (x7_1.length : Int)).f1,(rd_T46 y228 (x7_1.length : Int)).f2,rdOf ByteArray.empty l1 x18_1,(rd_T46 y228 (x7_1.length : Int)).f4⟩ : S46)):=⟨_,rfl⟩
             replace H : (jsontext_made.l0 k1 a0 l1 y234 l2 (l2.length : Int) (wrap64 (x18_1 + 1))) = some r:=by first|(rw [hy234];with_reducible exact H)|(have H2_:=(Option.bind_some _ _).symm.trans H;rw [hy234];with_reducible exact H2_)|(have H2_:=(Option.bind_some _ _).symm.trans H;with_reducible exact H2_)|with_reducible exact H|(rw [hy234];exact H)|exact H
             have Ny234:=Aside0.mk hy234
             clear hy234
             have H':=Aside0.mk H
             clear H
             have p226 : 0 ≤ (x18_1 : Int):=of_decide_eq_true (by first|(with_reducible assumption)|assumption)
             have q226 : x18_1 < (l2.length : Int):=of_decide_eq_true (by first|(with_reducible assumption)|assumption)
             obtain ⟨ad226,A226_0,c226_0,e226,hx226_0,hl226_0,hi226_0⟩:=at_L3 HR2.out x18_1 p226 q226
             cases e226
             replace hx226_0:=(HB.out.cell (World.block_lt_of_cell? w _ hx226_0)).trans hx226_0
             have HR226_0:=Aside0.mk hi226_0
             have HC226_0:=Aside0.mk hl226_0
             clear hi226_0 hl226_0
             replace p226:=eq_true p226
             replace q226:=eq_true q226
             go_wp2_with (first|((with_reducible refine gate_callee (f:=16) rfl ?_);refine goesL_ (some 24) rfl rfl Tryd.func16 (by kernel_rfl) rfl #[.slice A226_0 (rd_L3 l2 x18_1).length c226_0] rfl (by (try simp only [List.map_toArray,List.map_cons,List.map_nil]);first|done|rfl|(simp only [List.length_drop,List.length_take];rfl)) ?_;(with_reducible refine (jsontext_Check.calls k1 _ _ (rd_L3 l2 x18_1) t227 _ ?side3 ?side1 ?side2 A9.out).mono ?_);(case side1 => repeat (first|exact (Kd.C_below HR226_0.out HB.out)|(with_reducible refine Kd.C_alloc ?_ _)|(with_reducible refine Kd.C_drewN ?_ _)|(with_reducible refine Kd.C_drew ?_)));(case side2 => exact HC226_0.out);(case side3 => first|exact HGU8.out|exact GlobU8.below HGU8.out (by repeat (first|(with_reducible first|exact HB.out|apply below_alloc|apply pw_below_drewN|apply below_drew1)|exact HB.out))|exact GlobU8.drawn HGU8.out (by repeat (first|exact Drawn0.refl _|apply Drawn0.step)));rintro e w19 ⟨rfl,hb⟩;refine ⟨_,rfl,?_⟩;have n0_:=Aside0.mk (Kd.R_below (by (with_reducible repeat (first|apply Kd.R_alloc|apply Kd.R_drewN|apply Kd.R_drew));exact HO_7.out) hb);have n1_:=Aside0.mk (below_step (by repeat (first|(with_reducible first|exact HB.out|apply below_alloc|apply pw_below_drewN|apply below_drew1)|exact HB.out)) hb);clear HO_7;clear HB;have HO_7:=n0_;have HB:=n1_;clear n0_ n1_;(try clear hb);(try clear hb2);(try clear hk);(try clear hi);obtain ⟨Ao20,co20,eo20⟩:=Kd.R_slice HO_7.out;subst eo20)|((with_reducible refine gate_builtin (b:=.append) (xs:=#[.tmp 28,.tmp 29]) rfl ?_);at_builtin;refine Kd.R_append_rows k46 (w0:=w) w.heap.size rfl (.tmp 28) (.tmp 29) 22 46 (.agg #[(.int .i64 0),(.int .i64 0),(.int .i64 0),(.string ⟨#[]⟩),(.string ⟨#[]⟩)]) 56 rfl Tryd.underlying22 info46 rfl (by decide) (by omega) (.slice Ao20 x7_1.length co20) x7_1 (rd_L3 l2 x18_1) _ _ _ (fun _ => True) (fun _ => False) rfl rfl ?aO ?aR (fun _ _ h => h) (fun _ h => h.elim) ?aF ?aB ?aS ?aL ?_;(case aR => repeat (first|exact (Kd.C_below HR226_0.out HB.out)|(with_reducible refine Kd.C_alloc ?_ _)|(with_reducible refine Kd.C_drewN ?_ _)|(with_reducible refine Kd.C_drew ?_)));(case aB => exact (by repeat (first|(with_reducible first|exact HB.out|apply below_alloc|apply pw_below_drewN|apply below_drew1)|exact HB.out)));(case aF => exact (fun _ _ => trivial));(case aO => exact (by (with_reducible repeat (first|apply Kd.R_alloc|apply Kd.R_drewN|apply Kd.R_drew));exact HO_7.out));(case aS => exact (below_size (by repeat (first|(with_reducible first|exact HB.out|apply below_alloc|apply pw_below_drewN|apply below_drew1)|exact HB.out))));(case aL => have:=LMc11.out;omega);intro v229 w21 ho hb hg hat;rw [← Ny228.out] at ho;have n0_:=Aside0.mk (hb);have n1_:=Aside0.mk (ho);clear HB;clear HO_7;have HB:=n0_;have HO230:=n1_;clear n0_ n1_;clear ho hb hg hat;have p231 : 0 ≤ (x18_1 : Int):=of_decide_eq_true (by first|(with_reducible assumption)|assumption);have q231 : x18_1 < (l1.length : Int):=of_decide_eq_true (by first|(with_reducible assumption)|assumption);obtain ⟨ad231,e231,hx231_0⟩:=Kd.at_string HR1.out x18_1 p231 q231;cases e231;replace hx231_0:=(HB.out.cell (World.block_lt_of_cell? w _ hx231_0)).trans hx231_0;replace p231:=eq_true p231;replace q231:=eq_true q231)|((with_reducible refine gate_callee (f:=64) rfl ?_);refine goesL_ (some 37) rfl rfl Tryd.func64 (by kernel_rfl) rfl #[.string (rdOf ByteArray.empty l1 x18_1)] rfl (by (try simp only [List.map_toArray,List.map_cons,List.map_nil]);first|done|rfl|(simp only [List.length_drop,List.length_take];rfl)) ?_;(with_reducible refine (utf8_ValidString.calls (rdOf ByteArray.empty l1 x18_1) true _ ?side1 A14.out).mono ?_);(case side1 => first|exact HGU8.out|exact GlobU8.below HGU8.out (by repeat (first|(with_reducible first|exact HB.out|apply below_alloc|apply pw_below_drewN|apply below_drew1)|exact HB.out))|exact GlobU8.drawn HGU8.out (by repeat (first|exact Drawn0.refl _|apply Drawn0.step)));rintro e w22 ⟨rfl,hb⟩;refine ⟨_,rfl,?_⟩;have n0_:=Aside0.mk (Kd.R_below (by (with_reducible repeat (first|apply Kd.R_alloc|apply Kd.R_drewN|apply Kd.R_drew));exact HO230.out) hb);have n1_:=Aside0.mk (below_step (by repeat (first|(with_reducible first|exact HB.out|apply below_alloc|apply pw_below_drewN|apply below_drew1)|exact HB.out)) hb);clear HO230;clear HB;have HO230:=n0_;have HB:=n1_;clear n0_ n1_;(try clear hb);(try clear hb2);(try clear hk);(try clear hi);have p233 : 0 ≤ (x18_1 : Int):=of_decide_eq_true (by first|(with_reducible assumption)|assumption);have q233 : x18_1 < (l1.length : Int):=of_decide_eq_true (by first|(with_reducible assumption)|assumption);obtain ⟨ad233,e233,hx233_0⟩:=Kd.at_string HR1.out x18_1 p233 q233;obtain rfl : ad231 = ad233:=(by injection e233);replace hx233_0:=(HB.out.cell (World.block_lt_of_cell? w _ hx233_0)).trans hx233_0;replace p233:=eq_true p233;replace q233:=eq_true q233;have p18 : 0 ≤ ((x7_1.length : Int) : Int):=of_decide_eq_true (by first|(with_reducible assumption)|assumption);have q18 : ((x7_1.length : Int) : Int) < ((y228.length : Int) : Int):=of_decide_eq_true (by first|(with_reducible assumption)|assumption);obtain ⟨go18,co18,eo18,gb18,gl18,cl18,HG18⟩:=Kd.R_form HO230.out (by omega);(first|cases eo18|(injection eo18 with ea_ en_ ec_;(first|subst ea_|(injection ea_ with ea_;subst ea_));subst ec_;clear en_));have GB18:=Aside0.mk gb18;have GG18:=Aside0.mk HG18;clear gb18 gl18 HG18;obtain ⟨ce18,hcl18,hM18,hcc18,hfr18⟩:=Kd.R_elem HO230.out z46 ((x7_1.length : Int) : Int) p18 q18;obtain rfl:=k46_openM hM18;have hx18_0 : w22.cell? ⟨go18,x7_1.length * 5,none⟩ = some (.int .i64 ((rd_T46 y228 (x7_1.length : Int)).f0)):=hcc18 0 _ rfl;have hx18_1 : w22.cell? ⟨go18,x7_1.length * 5 + 1,none⟩ = some (.int .i64 ((rd_T46 y228 (x7_1.length : Int)).f1)):=hcc18 1 _ rfl;have hx18_2 : w22.cell? ⟨go18,x7_1.length * 5 + 2,none⟩ = some (.int .i64 ((rd_T46 y228 (x7_1.length : Int)).f2)):=hcc18 2 _ rfl;have hx18_3 : w22.cell? ⟨go18,x7_1.length * 5 + 3,none⟩ = some (.string ((rd_T46 y228 (x7_1.length : Int)).f3)):=hcc18 3 _ rfl;have hx18_4 : w22.cell? ⟨go18,x7_1.length * 5 + 4,none⟩ = some (.string ((rd_T46 y228 (x7_1.length : Int)).f4)):=hcc18 4 _ rfl;have hf18_0 : w22.frozen? ⟨go18,x7_1.length * 5,none⟩ = false:=hfr18 0;have hf18_1 : w22.frozen? ⟨go18,x7_1.length * 5 + 1,none⟩ = false:=hfr18 1;have hf18_2 : w22.frozen? ⟨go18,x7_1.length * 5 + 2,none⟩ = false:=hfr18 2;have hf18_3 : w22.frozen? ⟨go18,x7_1.length * 5 + 3,none⟩ = false:=hfr18 3;have hf18_4 : w22.frozen? ⟨go18,x7_1.length * 5 + 4,none⟩ = false:=hfr18 4;clear hcl18 hcc18 hfr18 hM18;replace p18:=eq_true p18;replace q18:=eq_true q18;have HX23:=Aside0.mk (show Kd.R k46 46 w22 w.heap.size (fun _ => True) (.slice (some ⟨go18,0,none⟩) y228.length co18) y228 from (by (with_reducible repeat (first|apply Kd.R_alloc|apply Kd.R_drewN|apply Kd.R_drew));exact HO230.out));obtain ⟨ce23,hcl23,hM23,hcc23,hfr23⟩:=Kd.R_elem HX23.out z46 ((x7_1.length : Int) : Int) (of_decide_eq_true (by first|(with_reducible assumption)|assumption)) (by have h_ : ((x7_1.length : Int) : Int) < ((y228.length : Int) : Int):=of_decide_eq_true (by first|(with_reducible assumption)|assumption);first|exact h_|(have e_:=(Kd.R_reads' HO230.out).1;omega)|simpa using h_);obtain rfl:=k46_openM hM23;have HP23:=Kd.R_seg HX23.out ((x7_1.length : Int) : Int) (of_decide_eq_true (by first|(with_reducible assumption)|assumption)) (by have h_ : ((x7_1.length : Int) : Int) < ((y228.length : Int) : Int):=of_decide_eq_true (by first|(with_reducible assumption)|assumption);first|exact h_|(have e_:=(Kd.R_reads' HO230.out).1;omega)|simpa using h_) (seg:=[.string (rdOf ByteArray.empty l1 x18_1)]) (j:=3) hcl23 hcc23 (show 4 ≤ 5 from by decide) (x':=(⟨(rd_T46 y228 (x7_1.length : Int)).f0,(rd_T46 y228 (x7_1.length : Int)).f1,(rd_T46 y228 (x7_1.length : Int)).f2,rdOf ByteArray.empty l1 x18_1,(rd_T46 y228 (x7_1.length : Int)).f4⟩ : S46)) (k46_mkM _ _ _ (⟨(rd_T46 y228 (x7_1.length : Int)).f0,(rd_T46 y228 (x7_1.length : Int)).f1,(rd_T46 y228 (x7_1.length : Int)).f2,rdOf ByteArray.empty l1 x18_1,(rd_T46 y228 (x7_1.length : Int)).f4⟩ : S46) ) (fun _ hk => hk);have hx23_3:=hcc23 3 _ rfl;(try simp only [show (k46).sz = 5 from rfl,Nat.mul_one,Nat.add_zero] at hx23_3);have hf23_3:=hfr23 3;(try simp only [show (k46).sz = 5 from rfl,Nat.mul_one,Nat.add_zero] at hf23_3);clear hcl23 hcc23 hfr23 hM23)|((with_reducible refine gate_store (t:=9) (p:=46) rfl ?_);refine store_event (t:=9) (p:=46) (v:=?vo_w24) (w1:=(w22.setCell ⟨go18,x7_1.length * 5 + 3,none⟩ (.string (rdOf ByteArray.empty l1 x18_1)))) ?hg ?ho ?hn ?hr ?_;(case ho => rfl);(case hg => rfl);(case hn => rfl);(case hr => first|(go_simp;done)|(go_simp;rfl));intro w24 hw;have hg : w22.grownBy w24 (some go18):=(by rw [hw];exact HP23.2);have hp_ : Kd.R k46 46 w24 w.heap.size (fun _ => True) (.slice (some ⟨go18,0,none⟩) y228.length co18) y234:=(by rw [hw,Ny234.out];exact HP23.1);clear HP23;have n0_:=Aside0.mk (hp_);have n1_:=Aside0.mk ((by rw [hw];exact below_set (HB.out) GB18.out : Below w.heap.size w w24));clear HO230;clear HB;have HO230:=n0_;have HB:=n1_;clear n0_ n1_;clear hg hw hp_))
             go_roundg k1
             case measure => have:=HK1.out;omega
             case rel => exact ⟨(y234),(wrap64 (x18_1 + 1)),(by first|rfl|(simp;done)|(simp;decide +kernel)|(simp [*];done)),(by first|exact H'|(subst_vars;exact H')),⟨by have:=HK1.out;omega⟩,⟨by (with_reducible repeat (first|apply Kd.R_alloc|apply Kd.R_drewN|apply Kd.R_drew));exact HO230.out⟩,⟨by repeat (first|(with_reducible first|exact HB.out|apply below_alloc|apply pw_below_drewN|apply below_drew1)|exact HB.out)⟩⟩
            ·rw [if_neg c17] at H
             exact absurd H (by simp)
           ·rw [if_neg c16] at H
            exact absurd H (by simp)
          ·replace c15:=Bool.eq_false_iff.mpr c15
           subst c15
           have H1 : (some ([] : List (S46))) = some r:=by rw [if_neg (show ¬ (false = true) by decide)] at H;exact H
           clear H
           have H:=H1
           clear H1
           obtain rfl:=Option.some.inj H
           have p226 : 0 ≤ (x18_1 : Int):=of_decide_eq_true (by first|(with_reducible assumption)|assumption)
           have q226 : x18_1 < (l2.length : Int):=of_decide_eq_true (by first|(with_reducible assumption)|assumption)
           obtain ⟨ad226,A226_0,c226_0,e226,hx226_0,hl226_0,hi226_0⟩:=at_L3 HR2.out x18_1 p226 q226
           cases e226
           replace hx226_0:=(HB.out.cell (World.block_lt_of_cell? w _ hx226_0)).trans hx226_0
           have HR226_0:=Aside0.mk hi226_0
           have HC226_0:=Aside0.mk hl226_0
           clear hi226_0 hl226_0
           replace p226:=eq_true p226
           replace q226:=eq_true q226
           go_wp2_with (first|((with_reducible refine gate_callee (f:=16) rfl ?_);refine goesL_ (some 24) rfl rfl Tryd.func16 (by kernel_rfl) rfl #[.slice A226_0 (rd_L3 l2 x18_1).length c226_0] rfl (by (try simp only [List.map_toArray,List.map_cons,List.map_nil]);first|done|rfl|(simp only [List.length_drop,List.length_take];rfl)) ?_;(with_reducible refine (jsontext_Check.calls k1 _ _ (rd_L3 l2 x18_1) t227 _ ?side3 ?side1 ?side2 A9.out).mono ?_);(case side1 => repeat (first|exact (Kd.C_below HR226_0.out HB.out)|(with_reducible refine Kd.C_alloc ?_ _)|(with_reducible refine Kd.C_drewN ?_ _)|(with_reducible refine Kd.C_drew ?_)));(case side2 => exact HC226_0.out);(case side3 => first|exact HGU8.out|exact GlobU8.below HGU8.out (by repeat (first|(with_reducible first|exact HB.out|apply below_alloc|apply pw_below_drewN|apply below_drew1)|exact HB.out))|exact GlobU8.drawn HGU8.out (by repeat (first|exact Drawn0.refl _|apply Drawn0.step)));rintro e w25 ⟨rfl,hb⟩;refine ⟨_,rfl,?_⟩;have n0_:=Aside0.mk (Kd.R_below (by (with_reducible repeat (first|apply Kd.R_alloc|apply Kd.R_drewN|apply Kd.R_drew));exact HO_7.out) hb);have n1_:=Aside0.mk (below_step (by repeat (first|(with_reducible first|exact HB.out|apply below_alloc|apply pw_below_drewN|apply below_drew1)|exact HB.out)) hb);clear HO_7;clear HB;have HO_7:=n0_;have HB:=n1_;clear n0_ n1_;(try clear hb);(try clear hb2);(try clear hk);(try clear hi);obtain ⟨Ao26,co26,eo26⟩:=Kd.R_slice HO_7.out;subst eo26)|((with_reducible refine gate_builtin (b:=.append) (xs:=#[.tmp 28,.tmp 29]) rfl ?_);at_builtin;refine Kd.R_append_rows k46 (w0:=w) w.heap.size rfl (.tmp 28) (.tmp 29) 22 46 (.agg #[(.int .i64 0),(.int .i64 0),(.int .i64 0),(.string ⟨#[]⟩),(.string ⟨#[]⟩)]) 56 rfl Tryd.underlying22 info46 rfl (by decide) (by omega) (.slice Ao26 x7_1.length co26) x7_1 (rd_L3 l2 x18_1) _ _ _ (fun _ => True) (fun _ => False) rfl rfl ?aO ?aR (fun _ _ h => h) (fun _ h => h.elim) ?aF ?aB ?aS ?aL ?_;(case aR => repeat (first|exact (Kd.C_below HR226_0.out HB.out)|(with_reducible refine Kd.C_alloc ?_ _)|(with_reducible refine Kd.C_drewN ?_ _)|(with_reducible refine Kd.C_drew ?_)));(case aB => exact (by repeat (first|(with_reducible first|exact HB.out|apply below_alloc|apply pw_below_drewN|apply below_drew1)|exact HB.out)));(case aF => exact (fun _ _ => trivial));(case aO => exact (by (with_reducible repeat (first|apply Kd.R_alloc|apply Kd.R_drewN|apply Kd.R_drew));exact HO_7.out));(case aS => exact (below_size (by repeat (first|(with_reducible first|exact HB.out|apply below_alloc|apply pw_below_drewN|apply below_drew1)|exact HB.out))));(case aL => have:=LMc11.out;omega);intro v229 w27 ho hb hg hat;rw [← Ny228.out] at ho;have n0_:=Aside0.mk (hb);have n1_:=Aside0.mk (ho);clear HB;clear HO_7;have HB:=n0_;have HO230:=n1_;clear n0_ n1_;clear ho hb hg hat;have p231 : 0 ≤ (x18_1 : Int):=of_decide_eq_true (by first|(with_reducible assumption)|assumption);have q231 : x18_1 < (l1.length : Int):=of_decide_eq_true (by first|(with_reducible assumption)|assumption);obtain ⟨ad231,e231,hx231_0⟩:=Kd.at_string HR1.out x18_1 p231 q231;cases e231;replace hx231_0:=(HB.out.cell (World.block_lt_of_cell? w _ hx231_0)).trans hx231_0;replace p231:=eq_true p231;replace q231:=eq_true q231)|((with_reducible refine gate_callee (f:=64) rfl ?_);refine goesL_ (some 37) rfl rfl Tryd.func64 (by kernel_rfl) rfl #[.string (rdOf ByteArray.empty l1 x18_1)] rfl (by (try simp only [List.map_toArray,List.map_cons,List.map_nil]);first|done|rfl|(simp only [List.length_drop,List.length_take];rfl)) ?_;(with_reducible refine (utf8_ValidString.calls (rdOf ByteArray.empty l1 x18_1) false _ ?side1 A14.out).mono ?_);(case side1 => first|exact HGU8.out|exact GlobU8.below HGU8.out (by repeat (first|(with_reducible first|exact HB.out|apply below_alloc|apply pw_below_drewN|apply below_drew1)|exact HB.out))|exact GlobU8.drawn HGU8.out (by repeat (first|exact Drawn0.refl _|apply Drawn0.step)));rintro e w28 ⟨rfl,hb⟩;refine ⟨_,rfl,?_⟩;have n0_:=Aside0.mk (Kd.R_below (by (with_reducible repeat (first|apply Kd.R_alloc|apply Kd.R_drewN|apply Kd.R_drew));exact HO230.out) hb);have n1_:=Aside0.mk (below_step (by repeat (first|(with_reducible first|exact HB.out|apply below_alloc|apply pw_below_drewN|apply below_drew1)|exact HB.out)) hb);clear HO230;clear HB;have HO230:=n0_;have HB:=n1_;clear n0_ n1_;(try clear hb);(try clear hb2);(try clear hk);(try clear hi)))
           go_ret
           exact ⟨_,by first|rfl|(simp [errW_none,errW_some] <;> rfl)|(simp [*,errW_none,errW_some] <;> rfl),by first|exact Kd.R_nil _ _ _ _ _|exact Kd.N_nil _ _ _ _ _|exact Kd.V_nil _ _ _ _ _|exact Kd.Q_nil _ _ _ _ _|exact Kd.S_nil _ _ _ _ _,by repeat (first|(with_reducible first|exact HB.out|apply below_alloc|apply pw_below_drewN|apply below_drew1)|exact HB.out)⟩
         ·rw [if_neg c13] at H
          exact absurd H (by simp)
        ·rw [if_neg c12] at H
         have c12b0 : (a0 == 7) = false:=beq_eq_false_iff_ne.mpr c12
         have c12b1 : (a0 != 7) = true:=bne_iff_ne.mpr c12
         have H':=Aside0.mk H
         clear H
         have p226 : 0 ≤ (x18_1 : Int):=of_decide_eq_true (by first|(with_reducible assumption)|assumption)
         have q226 : x18_1 < (l2.length : Int):=of_decide_eq_true (by first|(with_reducible assumption)|assumption)
         obtain ⟨ad226,A226_0,c226_0,e226,hx226_0,hl226_0,hi226_0⟩:=at_L3 HR2.out x18_1 p226 q226
         cases e226
         replace hx226_0:=(HB.out.cell (World.block_lt_of_cell? w _ hx226_0)).trans hx226_0
         have HR226_0:=Aside0.mk hi226_0
         have HC226_0:=Aside0.mk hl226_0
         clear hi226_0 hl226_0
         replace p226:=eq_true p226
         replace q226:=eq_true q226
         go_wp2_with (first|((with_reducible refine gate_callee (f:=16) rfl ?_);refine goesL_ (some 24) rfl rfl Tryd.func16 (by kernel_rfl) rfl #[.slice A226_0 (rd_L3 l2 x18_1).length c226_0] rfl (by (try simp only [List.map_toArray,List.map_cons,List.map_nil]);first|done|rfl|(simp only [List.length_drop,List.length_take];rfl)) ?_;(with_reducible refine (jsontext_Check.calls k1 _ _ (rd_L3 l2 x18_1) t227 _ ?side3 ?side1 ?side2 A9.out).mono ?_);(case side1 => repeat (first|exact (Kd.C_below HR226_0.out HB.out)|(with_reducible refine Kd.C_alloc ?_ _)|(with_reducible refine Kd.C_drewN ?_ _)|(with_reducible refine Kd.C_drew ?_)));(case side2 => exact HC226_0.out);(case side3 => first|exact HGU8.out|exact GlobU8.below HGU8.out (by repeat (first|(with_reducible first|exact HB.out|apply below_alloc|apply pw_below_drewN|apply below_drew1)|exact HB.out))|exact GlobU8.drawn HGU8.out (by repeat (first|exact Drawn0.refl _|apply Drawn0.step)));rintro e w29 ⟨rfl,hb⟩;refine ⟨_,rfl,?_⟩;have n0_:=Aside0.mk (Kd.R_below (by (with_reducible repeat (first|apply Kd.R_alloc|apply Kd.R_drewN|apply Kd.R_drew));exact HO_7.out) hb);have n1_:=Aside0.mk (below_step (by repeat (first|(with_reducible first|exact HB.out|apply below_alloc|apply pw_below_drewN|apply below_drew1)|exact HB.out)) hb);clear HO_7;clear HB;have HO_7:=n0_;have HB:=n1_;clear n0_ n1_;(try clear hb);(try clear hb2);(try clear hk);(try clear hi);obtain ⟨Ao30,co30,eo30⟩:=Kd.R_slice HO_7.out;subst eo30)|((with_reducible refine gate_builtin (b:=.append) (xs:=#[.tmp 28,.tmp 29]) rfl ?_);at_builtin;refine Kd.R_append_rows k46 (w0:=w) w.heap.size rfl (.tmp 28) (.tmp 29) 22 46 (.agg #[(.int .i64 0),(.int .i64 0),(.int .i64 0),(.string ⟨#[]⟩),(.string ⟨#[]⟩)]) 56 rfl Tryd.underlying22 info46 rfl (by decide) (by omega) (.slice Ao30 x7_1.length co30) x7_1 (rd_L3 l2 x18_1) _ _ _ (fun _ => True) (fun _ => False) rfl rfl ?aO ?aR (fun _ _ h => h) (fun _ h => h.elim) ?aF ?aB ?aS ?aL ?_;(case aR => repeat (first|exact (Kd.C_below HR226_0.out HB.out)|(with_reducible refine Kd.C_alloc ?_ _)|(with_reducible refine Kd.C_drewN ?_ _)|(with_reducible refine Kd.C_drew ?_)));(case aB => exact (by repeat (first|(with_reducible first|exact HB.out|apply below_alloc|apply pw_below_drewN|apply below_drew1)|exact HB.out)));(case aF => exact (fun _ _ => trivial));(case aO => exact (by (with_reducible repeat (first|apply Kd.R_alloc|apply Kd.R_drewN|apply Kd.R_drew));exact HO_7.out));(case aS => exact (below_size (by repeat (first|(with_reducible first|exact HB.out|apply below_alloc|apply pw_below_drewN|apply below_drew1)|exact HB.out))));(case aL => have:=LMc11.out;omega);intro v229 w31 ho hb hg hat;rw [← Ny228.out] at ho;have n0_:=Aside0.mk (hb);have n1_:=Aside0.mk (ho);clear HB;clear HO_7;have HB:=n0_;have HO230:=n1_;clear n0_ n1_;clear ho hb hg hat))
         go_roundg k1
         case measure => have:=HK1.out;omega
         case rel => exact ⟨(y228),(wrap64 (x18_1 + 1)),(by first|rfl|(simp;done)|(simp;decide +kernel)|(simp [*];done)),(by first|exact H'|(subst_vars;exact H')),⟨by have:=HK1.out;omega⟩,⟨by (with_reducible repeat (first|apply Kd.R_alloc|apply Kd.R_drewN|apply Kd.R_drew));exact HO230.out⟩,⟨by repeat (first|(with_reducible first|exact HB.out|apply below_alloc|apply pw_below_drewN|apply below_drew1)|exact HB.out)⟩⟩
       ·rw [if_neg c11] at H
        exact absurd H (by simp)
      ·rw [if_neg c10] at H
       have c10b0 : (t227 == 0) = false:=beq_eq_false_iff_ne.mpr c10
       have c10b1 : (t227 != 0) = true:=bne_iff_ne.mpr c10
       obtain rfl:=Option.some.inj H
       have p226 : 0 ≤ (x18_1 : Int):=of_decide_eq_true (by first|(with_reducible assumption)|assumption)
       have q226 : x18_1 < (l2.length : Int):=of_decide_eq_true (by first|(with_reducible assumption)|assumption)
       obtain ⟨ad226,A226_0,c226_0,e226,hx226_0,hl226_0,hi226_0⟩:=at_L3 HR2.out x18_1 p226 q226
       cases e226
       replace hx226_0:=(HB.out.cell (World.block_lt_of_cell? w _ hx226_0)).trans hx226_0
       have HR226_0:=Aside0.mk hi226_0
       have HC226_0:=Aside0.mk hl226_0
       clear hi226_0 hl226_0
       replace p226:=eq_true p226
       replace q226:=eq_true q226
       go_wp2_with (first|((with_reducible refine gate_callee (f:=16) rfl ?_);refine goesL_ (some 24) rfl rfl Tryd.func16 (by kernel_rfl) rfl #[.slice A226_0 (rd_L3 l2 x18_1).length c226_0] rfl (by (try simp only [List.map_toArray,List.map_cons,List.map_nil]);first|done|rfl|(simp only [List.length_drop,List.length_take];rfl)) ?_;(with_reducible refine (jsontext_Check.calls k1 _ _ (rd_L3 l2 x18_1) t227 _ ?side3 ?side1 ?side2 A9.out).mono ?_);(case side1 => repeat (first|exact (Kd.C_below HR226_0.out HB.out)|(with_reducible refine Kd.C_alloc ?_ _)|(with_reducible refine Kd.C_drewN ?_ _)|(with_reducible refine Kd.C_drew ?_)));(case side2 => exact HC226_0.out);(case side3 => first|exact HGU8.out|exact GlobU8.below HGU8.out (by repeat (first|(with_reducible first|exact HB.out|apply below_alloc|apply pw_below_drewN|apply below_drew1)|exact HB.out))|exact GlobU8.drawn HGU8.out (by repeat (first|exact Drawn0.refl _|apply Drawn0.step)));rintro e w32 ⟨rfl,hb⟩;refine ⟨_,rfl,?_⟩;have n0_:=Aside0.mk (Kd.R_below (by (with_reducible repeat (first|apply Kd.R_alloc|apply Kd.R_drewN|apply Kd.R_drew));exact HO_7.out) hb);have n1_:=Aside0.mk (below_step (by repeat (first|(with_reducible first|exact HB.out|apply below_alloc|apply pw_below_drewN|apply below_drew1)|exact HB.out)) hb);clear HO_7;clear HB;have HO_7:=n0_;have HB:=n1_;clear n0_ n1_;(try clear hb);(try clear hb2);(try clear hk);(try clear hi)))
       go_ret
       exact ⟨_,by first|rfl|(simp [errW_none,errW_some] <;> rfl)|(simp [*,errW_none,errW_some] <;> rfl),by first|exact Kd.R_nil _ _ _ _ _|exact Kd.N_nil _ _ _ _ _|exact Kd.V_nil _ _ _ _ _|exact Kd.Q_nil _ _ _ _ _|exact Kd.S_nil _ _ _ _ _,by repeat (first|(with_reducible first|exact HB.out|apply below_alloc|apply pw_below_drewN|apply below_drew1)|exact HB.out)⟩
     ·rw [if_neg c8] at H
      exact absurd H (by simp)
    ·rw [if_neg c7] at H
     exact absurd H (by simp)
   ·rw [if_neg c6] at H
    have c6b0 : decide (x18_1 < (l2.length : Int)) = false:=decide_eq_false c6
    clear c6
    by_cases c33 : 0 < (x7_1.length : Int)
    ·rw [if_pos c33] at H
     have c33b0 : decide (0 < (x7_1.length : Int)) = true:=decide_eq_true c33
     have c33b1 : decide (0 < x7_1.length) = true:=decide_eq_true (by omega)
     clear c33
     obtain ⟨y225,hy225⟩ : ∃ y_ : List (S46),y_ = (x7_1.set (0 : Int).toNat (⟨(rd_T46 x7_1 0).f0,(x7_1.length : Int),(rd_T46 x7_1 0).f2,(rd_T46 x7_1 0).f3,(rd_T46 x7_1 0).f4⟩ : S46)):=⟨_,rfl⟩
     replace H : (some y225) = some r:=by first|(rw [hy225];with_reducible exact H)|(have H2_:=(Option.bind_some _ _).symm.trans H;rw [hy225];with_reducible exact H2_)|(have H2_:=(Option.bind_some _ _).symm.trans H;with_reducible exact H2_)|with_reducible exact H|(rw [hy225];exact H)|exact H
     have Ny225:=Aside0.mk hy225
     clear hy225
     obtain rfl:=Option.some.inj H
     obtain ⟨Ao35,co35,eo35⟩:=Kd.R_slice HO_7.out
     subst eo35
     have p34 : 0 ≤ (0 : Int):=(by omega)
     have q34 : (0 : Int) < ((x7_1.length : Int) : Int):=of_decide_eq_true (by first|(with_reducible assumption)|assumption)
     have qi34 : (0 < x7_1.length) = True:=eq_true (by omega)
     obtain ⟨go34,co34,eo34,gb34,gl34,cl34,HG34⟩:=Kd.R_form HO_7.out (by omega)
     (first|cases eo34|(injection eo34 with ea_ en_ ec_;(first|subst ea_|(injection ea_ with ea_;subst ea_));subst ec_;clear en_))
     have GB34:=Aside0.mk gb34
     have GG34:=Aside0.mk HG34
     clear gb34 gl34 HG34
     obtain ⟨ce34,hcl34,hM34,hcc34,hfr34⟩:=Kd.R_elem HO_7.out z46 (0 : Int) p34 q34
     obtain rfl:=k46_openM hM34
     have hx34_0 : wr.cell? ⟨go34,(0 : Int).toNat * 5,none⟩ = some (.int .i64 ((rd_T46 x7_1 0).f0)):=hcc34 0 _ rfl
     have hx34_1 : wr.cell? ⟨go34,(0 : Int).toNat * 5 + 1,none⟩ = some (.int .i64 ((rd_T46 x7_1 0).f1)):=hcc34 1 _ rfl
     have hx34_2 : wr.cell? ⟨go34,(0 : Int).toNat * 5 + 2,none⟩ = some (.int .i64 ((rd_T46 x7_1 0).f2)):=hcc34 2 _ rfl
     have hx34_3 : wr.cell? ⟨go34,(0 : Int).toNat * 5 + 3,none⟩ = some (.string ((rd_T46 x7_1 0).f3)):=hcc34 3 _ rfl
     have hx34_4 : wr.cell? ⟨go34,(0 : Int).toNat * 5 + 4,none⟩ = some (.string ((rd_T46 x7_1 0).f4)):=hcc34 4 _ rfl
     have hf34_0 : wr.frozen? ⟨go34,(0 : Int).toNat * 5,none⟩ = false:=hfr34 0
     have hf34_1 : wr.frozen? ⟨go34,(0 : Int).toNat * 5 + 1,none⟩ = false:=hfr34 1
     have hf34_2 : wr.frozen? ⟨go34,(0 : Int).toNat * 5 + 2,none⟩ = false:=hfr34 2
     have hf34_3 : wr.frozen? ⟨go34,(0 : Int).toNat * 5 + 3,none⟩ = false:=hfr34 3
     have hf34_4 : wr.frozen? ⟨go34,(0 : Int).toNat * 5 + 4,none⟩ = false:=hfr34 4
     clear hcl34 hcc34 hfr34 hM34
     (try rw [show ((0 : Int)).toNat = 0 from rfl] at hx34_0)
     (try simp only [Nat.reduceMul,Nat.zero_mul,Nat.zero_add,Nat.reduceAdd] at hx34_0)
     (try rw [show ((0 : Int)).toNat = 0 from rfl] at hf34_0)
     (try simp only [Nat.reduceMul,Nat.zero_mul,Nat.zero_add,Nat.reduceAdd] at hf34_0)
     (try rw [show ((0 : Int)).toNat = 0 from rfl] at hx34_1)
     (try simp only [Nat.reduceMul,Nat.zero_mul,Nat.zero_add,Nat.reduceAdd] at hx34_1)
     (try rw [show ((0 : Int)).toNat = 0 from rfl] at hf34_1)
     (try simp only [Nat.reduceMul,Nat.zero_mul,Nat.zero_add,Nat.reduceAdd] at hf34_1)
     (try rw [show ((0 : Int)).toNat = 0 from rfl] at hx34_2)
     (try simp only [Nat.reduceMul,Nat.zero_mul,Nat.zero_add,Nat.reduceAdd] at hx34_2)
     (try rw [show ((0 : Int)).toNat = 0 from rfl] at hf34_2)
     (try simp only [Nat.reduceMul,Nat.zero_mul,Nat.zero_add,Nat.reduceAdd] at hf34_2)
     (try rw [show ((0 : Int)).toNat = 0 from rfl] at hx34_3)
     (try simp only [Nat.reduceMul,Nat.zero_mul,Nat.zero_add,Nat.reduceAdd] at hx34_3)
     (try rw [show ((0 : Int)).toNat = 0 from rfl] at hf34_3)
     (try simp only [Nat.reduceMul,Nat.zero_mul,Nat.zero_add,Nat.reduceAdd] at hf34_3)
     (try rw [show ((0 : Int)).toNat = 0 from rfl] at hx34_4)
     (try simp only [Nat.reduceMul,Nat.zero_mul,Nat.zero_add,Nat.reduceAdd] at hx34_4)
     (try rw [show ((0 : Int)).toNat = 0 from rfl] at hf34_4)
     (try simp only [Nat.reduceMul,Nat.zero_mul,Nat.zero_add,Nat.reduceAdd] at hf34_4)
     replace p34:=eq_true p34
     replace q34:=eq_true q34
     have HX36:=Aside0.mk (show Kd.R k46 46 wr w.heap.size (fun _ => True) (.slice (some ⟨go34,0,none⟩) x7_1.length co35) x7_1 from (by (with_reducible repeat (first|apply Kd.R_alloc|apply Kd.R_drewN|apply Kd.R_drew));exact HO_7.out))
     obtain ⟨ce36,hcl36,hM36,hcc36,hfr36⟩:=Kd.R_elem HX36.out z46 (0 : Int) (by omega) (by have h_ : (0 : Int) < ((x7_1.length : Int) : Int):=of_decide_eq_true (by first|(with_reducible assumption)|assumption);first|exact h_|(have e_:=(Kd.R_reads' HO_7.out).1;omega)|simpa using h_)
     obtain rfl:=k46_openM hM36
     have HP36:=Kd.R_seg HX36.out (0 : Int) (by omega) (by have h_ : (0 : Int) < ((x7_1.length : Int) : Int):=of_decide_eq_true (by first|(with_reducible assumption)|assumption);first|exact h_|(have e_:=(Kd.R_reads' HO_7.out).1;omega)|simpa using h_) (seg:=[.int .i64 (x7_1.length : Int)]) (j:=1) hcl36 hcc36 (show 2 ≤ 5 from by decide) (x':=(⟨(rd_T46 x7_1 0).f0,(x7_1.length : Int),(rd_T46 x7_1 0).f2,(rd_T46 x7_1 0).f3,(rd_T46 x7_1 0).f4⟩ : S46)) (k46_mkM _ _ _ (⟨(rd_T46 x7_1 0).f0,(x7_1.length : Int),(rd_T46 x7_1 0).f2,(rd_T46 x7_1 0).f3,(rd_T46 x7_1 0).f4⟩ : S46) ) (fun _ hk => hk)
     have hx36_1:=hcc36 1 _ rfl
     (try simp only [show (k46).sz = 5 from rfl,Nat.mul_one,Nat.add_zero] at hx36_1)
     (try rw [show ((0 : Int)).toNat = 0 from rfl] at hx36_1)
     (try simp only [Nat.reduceMul,Nat.zero_mul,Nat.zero_add,Nat.reduceAdd] at hx36_1)
     have hf36_1:=hfr36 1
     (try simp only [show (k46).sz = 5 from rfl,Nat.mul_one,Nat.add_zero] at hf36_1)
     (try rw [show ((0 : Int)).toNat = 0 from rfl] at hf36_1)
     (try simp only [Nat.reduceMul,Nat.zero_mul,Nat.zero_add,Nat.reduceAdd] at hf36_1)
     clear hcl36 hcc36 hfr36 hM36
     go_wp2_with (first|((with_reducible refine gate_store (t:=3) (p:=52) rfl ?_);refine store_event (t:=3) (p:=52) (v:=?vo_w37) (w1:=(wr.setCell ⟨go34,1,none⟩ (.int .i64 (x7_1.length : Int)))) ?hg ?ho ?hn ?hr ?_;(case ho => rfl);(case hg => rfl);(case hn => rfl);(case hr => first|(go_simp;done)|(go_simp;rfl));intro w37 hw;have hg : wr.grownBy w37 (some go34):=(by rw [hw];exact HP36.2);have hp_ : Kd.R k46 46 w37 w.heap.size (fun _ => True) (.slice (some ⟨go34,0,none⟩) x7_1.length co35) y225:=(by rw [hw,Ny225.out];exact HP36.1);clear HP36;have n0_:=Aside0.mk (hp_);have n1_:=Aside0.mk ((by rw [hw];exact below_set (HB.out) GB34.out : Below w.heap.size w w37));clear HO_7;clear HB;have HO_7:=n0_;have HB:=n1_;clear n0_ n1_;clear hg hw hp_))
     go_ret
     exact ⟨_,by first|rfl|(simp [errW_none,errW_some] <;> rfl)|(simp [*,errW_none,errW_some] <;> rfl),by (with_reducible repeat (first|apply Kd.R_alloc|apply Kd.R_drewN|apply Kd.R_drew));exact HO_7.out,by repeat (first|(with_reducible first|exact HB.out|apply below_alloc|apply pw_below_drewN|apply below_drew1)|exact HB.out)⟩
    ·rw [if_neg c33] at H
     exact absurd H (by simp)
end Go.Proofs.YtadfkeipcebmfaaDoor.X
namespace Go.Proofs.YtadfkeipcebmfaaDoor.X
open Go.RowKit Go.Proofs.YtadfkeipcebmfaaDoorW.PrintWords Go.Proofs.YtadfkeipcebmfaaDoorW.PrintLast Go.Proofs.YtadfkeipcebmfaaDoorW.PrintMore
attribute [local go_sem] max2_int min2_int max_two min_two max_three min_three max_four min_four
set_option linter.unusedVariables false
set_option linter.unusedSimpArgs false
def jsontext_List.f (k : Nat) (l0 : List (List (S46))) : Option ((List (S46))):=(jsontext_made.f k 6 ([] : List ByteArray) l0).bind fun t235 => (some t235)
set_option maxHeartbeats 8000000 in
set_option maxRecDepth 100000 in
theorem jsontext_List.calls (k : Nat) (A0 : Option Addr) (c0 : Nat) (l0 : List (List (S46))) (r : List (S46)) (w : World) (hGU8 : GlobU8 w) (hr0 : Kd.C (Kd.slice 46 k46) w A0 l0.length l0) (hc0 : l0.length ≤ c0) (h : jsontext_List.f k l0 = some r) :
  Calls Tryd.prog 18 #[.slice A0 l0.length c0] w fun e w' => ∃ v0_ : Value,e = .returned (v0_) ∧ Kd.R k46 46 w' w.heap.size (fun _ => True) v0_ r ∧ Below w.heap.size w w':=by
 have HGU8:=Aside0.mk hGU8
 clear hGU8
 have HR0:=Aside0.mk hr0
 have HC0:=Aside0.mk hc0
 clear hr0 hc0
 have HB:=Aside0.mk (Below.refl w.heap.size w)
 have H : ((jsontext_made.f k 6 ([] : List ByteArray) l0).bind fun t235 => (some t235)) = some r:=h
 clear h
 replace H:=Option.bind_eq_some_iff.mp H
 obtain ⟨t235,A20,H⟩:=H
 replace H : (some t235) = some r:=H
 have A2:=Aside0.mk A20
 clear A20
 obtain rfl:=Option.some.inj H
 go_enter Tryd.func18,Tryd.ntmps18
 go_wp2_with (first|((with_reducible refine gate_callee (f:=40) rfl ?_);refine goesL_ (some 4) rfl rfl Tryd.func40 (by kernel_rfl) rfl #[.int .i64 6,.slice none 0 0,.slice A0 l0.length c0] rfl (by (try simp only [List.map_toArray,List.map_cons,List.map_nil]);first|done|rfl|(simp only [List.length_drop,List.length_take];rfl)) ?_;(refine (jsontext_made.calls k 6 _ _ ([] : List ByteArray) _ _ l0 t235 _ ?side5 ?side1 ?side2 ?side3 ?side4 A2.out).mono ?_);(case side1 => exact Kd.C_nil _ _);(case side2 => exact Nat.le_refl _);(case side3 => repeat (first|exact HR0.out|(with_reducible refine Kd.C_alloc ?_ _)|(with_reducible refine Kd.C_drewN ?_ _)|(with_reducible refine Kd.C_drew ?_)));(case side4 => exact HC0.out);(case side5 => first|exact HGU8.out|exact GlobU8.below HGU8.out (by repeat (first|(with_reducible first|exact HB.out|apply below_alloc|apply pw_below_drewN|apply below_drew1)|exact HB.out))|exact GlobU8.drawn HGU8.out (by repeat (first|exact Drawn0.refl _|apply Drawn0.step)));rintro e w3 ⟨v236,rfl,ho0,hb⟩;refine ⟨_,rfl,?_⟩;have n0_:=Aside0.mk (Kd.R_lower ho0 (below_size (by repeat (first|(with_reducible first|exact HB.out|apply below_alloc|apply pw_below_drewN|apply below_drew1)|exact HB.out))));have n1_:=Aside0.mk (below_step (by repeat (first|(with_reducible first|exact HB.out|apply below_alloc|apply pw_below_drewN|apply below_drew1)|exact HB.out)) hb);clear HB;have HO237:=n0_;have HB:=n1_;clear n0_ n1_;(try clear hb);(try clear hb2);(try clear hk);(try clear hi);(try clear ho0)))
 go_ret
 exact ⟨_,by first|rfl|(simp [errW_none,errW_some] <;> rfl)|(simp [*,errW_none,errW_some] <;> rfl),by (with_reducible repeat (first|apply Kd.R_alloc|apply Kd.R_drewN|apply Kd.R_drew));exact HO237.out,by repeat (first|(with_reducible first|exact HB.out|apply below_alloc|apply pw_below_drewN|apply below_drew1)|exact HB.out)⟩
end Go.Proofs.YtadfkeipcebmfaaDoor.X
namespace Go.Proofs.YtadfkeipcebmfaaDoor.X
open Go.RowKit Go.Proofs.YtadfkeipcebmfaaDoorW.PrintWords Go.Proofs.YtadfkeipcebmfaaDoorW.PrintLast Go.Proofs.YtadfkeipcebmfaaDoorW.PrintMore
attribute [local go_sem] max2_int min2_int max_two min_two max_three min_three max_four min_four
set_option linter.unusedVariables false
set_option linter.unusedSimpArgs false
mutual
def racewayref25_Sign.j0 : Nat → ByteArray → Int → Int → Int → Int → Int → Bool → Option (Int)
 | 0,_,_,_,_,_,_,_ => none
 | k + 1,x0,x1,x5,x6,x7,x8,x22 => if x22 = true then (racewayref25_Sign.j2 k x0 x1 2 (wrap64 (x5 - 192)) 128) else (if x5 ≥ 224 then (racewayref25_Sign.j1 k x0 x1 x5 x6 x7 x8 (decide (x5 ≤ 239))) else (racewayref25_Sign.j1 k x0 x1 x5 x6 x7 x8 false))
def racewayref25_Sign.j2 : Nat → ByteArray → Int → Int → Int → Int → Option (Int)
 | 0,_,_,_,_,_ => none
 | k + 1,x0,x1,x6,x7,x8 => if x6 = 0 then (racewayref25_Sign.j3 k x0 x1 x6 x7 x8 true) else (racewayref25_Sign.j3 k x0 x1 x6 x7 x8 (decide ((wrap64 (x1 + x6)) > (x0.size : Int))))
def racewayref25_Sign.j3 : Nat → ByteArray → Int → Int → Int → Int → Bool → Option (Int)
 | 0,_,_,_,_,_,_ => none
 | k + 1,x0,x1,x6,x7,x8,x50 => if x50 = true then (some 0) else (racewayref25_Sign.l0 k x0 x1 x6 x7 x8 1)
def racewayref25_Sign.l0 : Nat → ByteArray → Int → Int → Int → Int → Int → Option (Int)
 | 0,_,_,_,_,_,_ => none
 | k + 1,x0,x1,x6,x7,x8,x9 => if x9 < x6 then (if 0 ≤ (wrap64 (x1 + x9)) then (if (wrap64 (x1 + x9)) < (x0.size : Int) then (if (wrap64 (bt x0 (wrap64 (x1 + x9)))) < 128 then (some 0) else (if (wrap64 (bt x0 (wrap64 (x1 + x9)))) > 191 then (some 0) else (racewayref25_Sign.l0 k x0 x1 x6 (wrap64 ((wrap64 ((wrap64 (64 * x7)) + (wrap64 (bt x0 (wrap64 (x1 + x9)))))) - 128)) x8 (wrap64 (x9 + 1))))) else (none)) else (none)) else (if x7 < x8 then (some 0) else (if x7 > 1114111 then (some 0) else (if x7 ≥ 55296 then (if x7 ≤ 57343 then (some 0) else (some x6)) else (some x6))))
def racewayref25_Sign.j1 : Nat → ByteArray → Int → Int → Int → Int → Int → Bool → Option (Int)
 | 0,_,_,_,_,_,_,_ => none
 | k + 1,x0,x1,x5,x6,x7,x8,x30 => if x30 = true then (racewayref25_Sign.j2 k x0 x1 3 (wrap64 (x5 - 224)) 2048) else (if x5 ≥ 240 then (if x5 ≤ 244 then (racewayref25_Sign.j2 k x0 x1 4 (wrap64 (x5 - 240)) 65536) else (racewayref25_Sign.j2 k x0 x1 x6 x7 x8)) else (racewayref25_Sign.j2 k x0 x1 x6 x7 x8))
end
def racewayref25_Sign.f (k : Nat) (a0 : ByteArray) (a1 : Int) : Option (Int):=if 0 ≤ a1 then (if a1 < (a0.size : Int) then (if (wrap64 (bt a0 a1)) < 128 then (some 1) else (if (wrap64 (bt a0 a1)) ≥ 194 then (racewayref25_Sign.j0 k a0 a1 (wrap64 (bt a0 a1)) 0 0 0 (decide ((wrap64 (bt a0 a1)) ≤ 223))) else (racewayref25_Sign.j0 k a0 a1 (wrap64 (bt a0 a1)) 0 0 0 false))) else (none)) else (none)
set_option maxHeartbeats 8000000 in
set_option maxRecDepth 100000 in
theorem racewayref25_Sign.calls (k : Nat) (a0 : ByteArray) (a1 : Int) (r : Int) (w : World) (h : racewayref25_Sign.f k a0 a1 = some r) :
  Calls Tryd.prog 44 #[.string a0,.int .i64 a1] w fun e w' => e = .returned (.int .i64 r) ∧ Drawn0 w w':=by
 have H : (if 0 ≤ a1 then (if a1 < (a0.size : Int) then (if (wrap64 (bt a0 a1)) < 128 then (some 1) else (if (wrap64 (bt a0 a1)) ≥ 194 then (racewayref25_Sign.j0 k a0 a1 (wrap64 (bt a0 a1)) 0 0 0 (decide ((wrap64 (bt a0 a1)) ≤ 223))) else (racewayref25_Sign.j0 k a0 a1 (wrap64 (bt a0 a1)) 0 0 0 false))) else (none)) else (none)) = some r:=h
 clear h
 by_cases c3 : 0 ≤ a1
 ·rw [if_pos c3] at H
  have c3b0 : decide (0 ≤ a1) = true:=decide_eq_true c3
  clear c3
  by_cases c4 : a1 < (a0.size : Int)
  ·rw [if_pos c4] at H
   have c4b0 : decide (a1 < (a0.size : Int)) = true:=decide_eq_true c4
   clear c4
   by_cases c6 : (wrap64 (bt a0 a1)) < 128
   ·rw [if_pos c6] at H
    have c6b0 : decide ((wrap64 (bt a0 a1)) < 128) = true:=decide_eq_true c6
    clear c6
    obtain rfl:=Option.some.inj H
    have p5 : 0 ≤ (a1 : Int):=of_decide_eq_true (by first|(with_reducible assumption)|assumption)
    have q5 : a1 < (a0.size : Int):=of_decide_eq_true (by first|(with_reducible assumption)|assumption)
    have hx5:=bt_at a0 a1
    replace p5:=eq_true p5
    replace q5:=eq_true q5
    go_enter Tryd.func44,Tryd.ntmps44
    go_wp2
    go_ret
    exact ⟨by first|rfl|(simp;done)|(simp;decide +kernel)|(simp [*];done),by repeat (first|exact Drawn0.refl _|apply Drawn0.step)⟩
   ·rw [if_neg c6] at H
    have c6b0 : decide ((wrap64 (bt a0 a1)) < 128) = false:=decide_eq_false c6
    clear c6
    have HC7:=Aside0.mk H
    clear H
    have p5 : 0 ≤ (a1 : Int):=of_decide_eq_true (by first|(with_reducible assumption)|assumption)
    have q5 : a1 < (a0.size : Int):=of_decide_eq_true (by first|(with_reducible assumption)|assumption)
    have hx5:=bt_at a0 a1
    replace p5:=eq_true p5
    replace q5:=eq_true q5
    go_enter Tryd.func44,Tryd.ntmps44
    go_upto_region 7 with (fail)
    go_cut [22] (fun v22 wc => ∃ (kq : Nat) (x22_6 : Bool),v22 = .bool x22_6 ∧ Aside0 (racewayref25_Sign.j0 kq a0 a1 (wrap64 (bt a0 a1)) 0 0 0 x22_6 = some r) ∧ Aside0 (kq ≤ k) ∧ Drawn0 w wc)
    case first =>
     have H:=HC7.out
     clear HC7
     by_cases c8 : (wrap64 (bt a0 a1)) ≥ 194
     ·rw [if_pos c8] at H
      have c8b0 : decide (194 ≤ (wrap64 (bt a0 a1))) = true:=decide_eq_true c8
      clear c8
      (first|rw [c8b0]|(simp only [i64_w,i32_w];rw [c8b0])|skip)
      have H':=Aside0.mk H
      clear H
      go_wp2
      go_meet
      case rel => exact ⟨_,(decide ((wrap64 (bt a0 a1)) ≤ 223)),(by first|rfl|(simp;done)|(simp;decide +kernel)|(simp [*];done)),(by first|exact H'|(subst_vars;exact H')),⟨by first|omega|exact Nat.le_refl _⟩,by repeat (first|exact Drawn0.refl _|apply Drawn0.step)⟩
     ·rw [if_neg c8] at H
      have c8b0 : decide (194 ≤ (wrap64 (bt a0 a1))) = false:=decide_eq_false c8
      clear c8
      (first|rw [c8b0]|(simp only [i64_w,i32_w];rw [c8b0])|skip)
      have H':=Aside0.mk H
      clear H
      go_wp2
      go_meet
      case rel => exact ⟨_,(false),(by first|rfl|(simp;done)|(simp;decide +kernel)|(simp [*];done)),(by first|exact H'|(subst_vars;exact H')),⟨by first|omega|exact Nat.le_refl _⟩,by repeat (first|exact Drawn0.refl _|apply Drawn0.step)⟩
    case rest =>
     clear HC7
     try clear p2
     try clear c3
     try clear c3b0
     try clear c4
     try clear c4b0
     try clear p5
     try clear q5
     try clear hx5
     try clear c6
     try clear c6b0
     try clear p6
     try clear c8
     try clear c8b0
     try clear p5
     try clear q5
     obtain ⟨kq,x22_6,rfl,HA,HJ6,⟨mc6,rfl⟩⟩:=hcut
     cases kq with
     | zero => exact absurd HA.out (by simp [racewayref25_Sign.j0])
     | succ kj6 =>
      have H:=HA.out
      clear HA
      simp only [racewayref25_Sign.j0] at H
      have HC9:=Aside0.mk H
      clear H
      go_upto_if 22 with (fail)
      go_cut [6,7,8] (fun v6 v7 v8 wc => ∃ (kq : Nat) (x6_8 : Int) (x7_8 : Int) (x8_8 : Int),v6 = .int .i64 x6_8 ∧ v7 = .int .i64 x7_8 ∧ v8 = .int .i64 x8_8 ∧ Aside0 (racewayref25_Sign.j2 kq a0 a1 x6_8 x7_8 x8_8 = some r) ∧ Aside0 (kq ≤ kj6) ∧ Drawn0 w wc)
      case first =>
       have H:=HC9.out
       clear HC9
       by_cases c10 : x22_6 = true
       ·subst c10
        have H1 : (racewayref25_Sign.j2 kj6 a0 a1 2 (wrap64 ((wrap64 (bt a0 a1)) - 192)) 128) = some r:=by rw [if_pos rfl] at H;exact H
        clear H
        have H:=H1
        clear H1
        have H':=Aside0.mk H
        clear H
        go_wp2
        go_meet
        case rel => exact ⟨_,(2),(wrap64 ((wrap64 (bt a0 a1)) - 192)),(128),(by first|rfl|(simp;done)|(simp;decide +kernel)|(simp [*];done)),(by first|rfl|(simp;done)|(simp;decide +kernel)|(simp [*];done)),(by first|rfl|(simp;done)|(simp;decide +kernel)|(simp [*];done)),(by first|exact H'|(subst_vars;exact H')),⟨by have:=HJ6.out;first|omega|exact Nat.le_refl _⟩,by repeat (first|exact Drawn0.refl _|apply Drawn0.step)⟩
       ·replace c10:=Bool.eq_false_iff.mpr c10
        subst c10
        have H1 : (if (wrap64 (bt a0 a1)) ≥ 224 then (racewayref25_Sign.j1 kj6 a0 a1 (wrap64 (bt a0 a1)) 0 0 0 (decide ((wrap64 (bt a0 a1)) ≤ 239))) else (racewayref25_Sign.j1 kj6 a0 a1 (wrap64 (bt a0 a1)) 0 0 0 false)) = some r:=by rw [if_neg (show ¬ (false = true) by decide)] at H;exact H
        clear H
        have H:=H1
        clear H1
        have HC11:=Aside0.mk H
        clear H
        go_upto_region 11 with (fail)
        go_cut [30] (fun v30 wc => ∃ (kq : Nat) (x30_10 : Bool),v30 = .bool x30_10 ∧ Aside0 (racewayref25_Sign.j1 kq a0 a1 (wrap64 (bt a0 a1)) 0 0 0 x30_10 = some r) ∧ Aside0 (kq ≤ kj6) ∧ Drawn0 w wc)
        case first =>
         have H:=HC11.out
         clear HC11
         by_cases c12 : (wrap64 (bt a0 a1)) ≥ 224
         ·rw [if_pos c12] at H
          have c12b0 : decide (224 ≤ (wrap64 (bt a0 a1))) = true:=decide_eq_true c12
          clear c12
          (first|rw [c12b0]|(simp only [i64_w,i32_w];rw [c12b0])|skip)
          have H':=Aside0.mk H
          clear H
          go_wp2
          go_meet
          case rel => exact ⟨_,(decide ((wrap64 (bt a0 a1)) ≤ 239)),(by first|rfl|(simp;done)|(simp;decide +kernel)|(simp [*];done)),(by first|exact H'|(subst_vars;exact H')),⟨by have:=HJ6.out;first|omega|exact Nat.le_refl _⟩,by repeat (first|exact Drawn0.refl _|apply Drawn0.step)⟩
         ·rw [if_neg c12] at H
          have c12b0 : decide (224 ≤ (wrap64 (bt a0 a1))) = false:=decide_eq_false c12
          clear c12
          (first|rw [c12b0]|(simp only [i64_w,i32_w];rw [c12b0])|skip)
          have H':=Aside0.mk H
          clear H
          go_wp2
          go_meet
          case rel => exact ⟨_,(false),(by first|rfl|(simp;done)|(simp;decide +kernel)|(simp [*];done)),(by first|exact H'|(subst_vars;exact H')),⟨by have:=HJ6.out;first|omega|exact Nat.le_refl _⟩,by repeat (first|exact Drawn0.refl _|apply Drawn0.step)⟩
        case rest =>
         clear HC11
         try clear c1
         try clear p2
         try clear c3
         try clear c3b0
         try clear c4
         try clear c4b0
         try clear p5
         try clear q5
         try clear hx5
         try clear c6
         try clear c6b0
         try clear p6
         try clear c8
         try clear c8b0
         try clear c10
         try clear c12
         try clear c12b0
         try clear p2
         try clear p5
         try clear p6
         try clear q5
         obtain ⟨kq,x30_10,rfl,HA,HJ10,⟨mc10,rfl⟩⟩:=hcut
         cases kq with
         | zero => exact absurd HA.out (by simp [racewayref25_Sign.j1])
         | succ kj10 =>
          have H:=HA.out
          clear HA
          simp only [racewayref25_Sign.j1] at H
          by_cases c13 : x30_10 = true
          ·subst c13
           have H1 : (racewayref25_Sign.j2 kj10 a0 a1 3 (wrap64 ((wrap64 (bt a0 a1)) - 224)) 2048) = some r:=by rw [if_pos rfl] at H;exact H
           clear H
           have H:=H1
           clear H1
           have H':=Aside0.mk H
           clear H
           go_wp2
           go_meet
           case rel => exact ⟨_,(3),(wrap64 ((wrap64 (bt a0 a1)) - 224)),(2048),(by first|rfl|(simp;done)|(simp;decide +kernel)|(simp [*];done)),(by first|rfl|(simp;done)|(simp;decide +kernel)|(simp [*];done)),(by first|rfl|(simp;done)|(simp;decide +kernel)|(simp [*];done)),(by first|exact H'|(subst_vars;exact H')),⟨by have:=HJ6.out;have:=HJ10.out;first|omega|exact Nat.le_refl _⟩,by repeat (first|exact Drawn0.refl _|apply Drawn0.step)⟩
          ·replace c13:=Bool.eq_false_iff.mpr c13
           subst c13
           have H1 : (if (wrap64 (bt a0 a1)) ≥ 240 then (if (wrap64 (bt a0 a1)) ≤ 244 then (racewayref25_Sign.j2 kj10 a0 a1 4 (wrap64 ((wrap64 (bt a0 a1)) - 240)) 65536) else (racewayref25_Sign.j2 kj10 a0 a1 0 0 0)) else (racewayref25_Sign.j2 kj10 a0 a1 0 0 0)) = some r:=by rw [if_neg (show ¬ (false = true) by decide)] at H;exact H
           clear H
           have H:=H1
           clear H1
           by_cases c14 : (wrap64 (bt a0 a1)) ≥ 240
           ·rw [if_pos c14] at H
            have c14b0 : decide (240 ≤ (wrap64 (bt a0 a1))) = true:=decide_eq_true c14
            clear c14
            by_cases c15 : (wrap64 (bt a0 a1)) ≤ 244
            ·rw [if_pos c15] at H
             have c15b0 : decide ((wrap64 (bt a0 a1)) ≤ 244) = true:=decide_eq_true c15
             clear c15
             have H':=Aside0.mk H
             clear H
             go_wp2
             go_meet
             case rel => exact ⟨_,(4),(wrap64 ((wrap64 (bt a0 a1)) - 240)),(65536),(by first|rfl|(simp;done)|(simp;decide +kernel)|(simp [*];done)),(by first|rfl|(simp;done)|(simp;decide +kernel)|(simp [*];done)),(by first|rfl|(simp;done)|(simp;decide +kernel)|(simp [*];done)),(by first|exact H'|(subst_vars;exact H')),⟨by have:=HJ6.out;have:=HJ10.out;first|omega|exact Nat.le_refl _⟩,by repeat (first|exact Drawn0.refl _|apply Drawn0.step)⟩
            ·rw [if_neg c15] at H
             have c15b0 : decide ((wrap64 (bt a0 a1)) ≤ 244) = false:=decide_eq_false c15
             clear c15
             have H':=Aside0.mk H
             clear H
             go_wp2
             go_meet
             case rel => exact ⟨_,(0),(0),(0),(by first|rfl|(simp;done)|(simp;decide +kernel)|(simp [*];done)),(by first|rfl|(simp;done)|(simp;decide +kernel)|(simp [*];done)),(by first|rfl|(simp;done)|(simp;decide +kernel)|(simp [*];done)),(by first|exact H'|(subst_vars;exact H')),⟨by have:=HJ6.out;have:=HJ10.out;first|omega|exact Nat.le_refl _⟩,by repeat (first|exact Drawn0.refl _|apply Drawn0.step)⟩
           ·rw [if_neg c14] at H
            have c14b0 : decide (240 ≤ (wrap64 (bt a0 a1))) = false:=decide_eq_false c14
            clear c14
            have H':=Aside0.mk H
            clear H
            go_wp2
            go_meet
            case rel => exact ⟨_,(0),(0),(0),(by first|rfl|(simp;done)|(simp;decide +kernel)|(simp [*];done)),(by first|rfl|(simp;done)|(simp;decide +kernel)|(simp [*];done)),(by first|rfl|(simp;done)|(simp;decide +kernel)|(simp [*];done)),(by first|exact H'|(subst_vars;exact H')),⟨by have:=HJ6.out;have:=HJ10.out;first|omega|exact Nat.le_refl _⟩,by repeat (first|exact Drawn0.refl _|apply Drawn0.step)⟩
      case rest =>
       clear HC9
       try clear c1
       try clear p2
       try clear c3
       try clear c3b0
       try clear c4
       try clear c4b0
       try clear p5
       try clear q5
       try clear hx5
       try clear c6
       try clear c6b0
       try clear p6
       try clear c8
       try clear c8b0
       try clear c10
       try clear c12
       try clear c12b0
       try clear c13
       try clear c14
       try clear c14b0
       try clear c15
       try clear c15b0
       try clear p2
       try clear p5
       try clear p6
       try clear q5
       obtain ⟨kq,x6_8,x7_8,x8_8,rfl,rfl,rfl,HA,HJ8,⟨mc8,rfl⟩⟩:=hcut
       cases kq with
       | zero => exact absurd HA.out (by simp [racewayref25_Sign.j2])
       | succ kj8 =>
        have H:=HA.out
        clear HA
        simp only [racewayref25_Sign.j2] at H
        have HC16:=Aside0.mk H
        clear H
        go_upto_region 19 with (fail)
        go_cut [50] (fun v50 wc => ∃ (kq : Nat) (x50_15 : Bool),v50 = .bool x50_15 ∧ Aside0 (racewayref25_Sign.j3 kq a0 a1 x6_8 x7_8 x8_8 x50_15 = some r) ∧ Aside0 (kq ≤ kj8) ∧ Drawn0 w wc)
        case first =>
         have H:=HC16.out
         clear HC16
         by_cases c17 : x6_8 = 0
         ·rw [if_pos c17] at H
          have c17b0 : (x6_8 == 0) = true:=beq_iff_eq.mpr c17
          have c17b1 : (x6_8 != 0) = false:=bne_eq_false_iff_eq.mpr c17
          clear c17
          (first|rw [c17b0]|(simp only [i64_w,i32_w];rw [c17b0])|skip)
          have H':=Aside0.mk H
          clear H
          go_wp2
          go_meet
          case rel => exact ⟨_,(true),(by first|rfl|(simp;done)|(simp;decide +kernel)|(simp [*];done)),(by first|exact H'|(subst_vars;exact H')),⟨by have:=HJ6.out;have:=HJ8.out;first|omega|exact Nat.le_refl _⟩,by repeat (first|exact Drawn0.refl _|apply Drawn0.step)⟩
         ·rw [if_neg c17] at H
          have c17b0 : (x6_8 == 0) = false:=beq_eq_false_iff_ne.mpr c17
          have c17b1 : (x6_8 != 0) = true:=bne_iff_ne.mpr c17
          (first|rw [c17b0]|(simp only [i64_w,i32_w];rw [c17b0])|skip)
          have H':=Aside0.mk H
          clear H
          go_wp2
          go_meet
          case rel => exact ⟨_,(decide ((wrap64 (a1 + x6_8)) > (a0.size : Int))),(by first|rfl|(simp;done)|(simp;decide +kernel)|(simp [*];done)),(by first|exact H'|(subst_vars;exact H')),⟨by have:=HJ6.out;have:=HJ8.out;first|omega|exact Nat.le_refl _⟩,by repeat (first|exact Drawn0.refl _|apply Drawn0.step)⟩
        case rest =>
         clear HC16
         try clear c1
         try clear p2
         try clear c3
         try clear c3b0
         try clear c4
         try clear c4b0
         try clear p5
         try clear q5
         try clear hx5
         try clear c6
         try clear c6b0
         try clear p6
         try clear c8
         try clear c8b0
         try clear c10
         try clear c12
         try clear c12b0
         try clear c13
         try clear c14
         try clear c14b0
         try clear c15
         try clear c15b0
         try clear c17
         try clear c17b0
         try clear c17b1
         try clear p2
         try clear p5
         try clear p6
         try clear q5
         obtain ⟨kq,x50_15,rfl,HA,HJ15,⟨mc15,rfl⟩⟩:=hcut
         cases kq with
         | zero => exact absurd HA.out (by simp [racewayref25_Sign.j3])
         | succ kj15 =>
          have H:=HA.out
          clear HA
          simp only [racewayref25_Sign.j3] at H
          by_cases c18 : x50_15 = true
          ·subst c18
           have H1 : (some 0) = some r:=by rw [if_pos rfl] at H;exact H
           clear H
           have H:=H1
           clear H1
           obtain rfl:=Option.some.inj H
           go_wp2
           go_ret
           exact ⟨by first|rfl|(simp;done)|(simp;decide +kernel)|(simp [*];done),by repeat (first|exact Drawn0.refl _|apply Drawn0.step)⟩
          ·replace c18:=Bool.eq_false_iff.mpr c18
           subst c18
           have H1 : (racewayref25_Sign.l0 kj15 a0 a1 x6_8 x7_8 x8_8 1) = some r:=by rw [if_neg (show ¬ (false = true) by decide)] at H;exact H
           clear H
           have H:=H1
           clear H1
           have H':=Aside0.mk H
           clear H
           go_wp2
           go_loopg [7,9] kj15 (fun kq v7 v9 w' => ∃ (x7_4 : Int) (x9_4 : Int),v7 = .int .i64 x7_4 ∧ v9 = .int .i64 x9_4 ∧ Aside0 (racewayref25_Sign.l0 kq a0 a1 x6_8 x7_4 x8_8 x9_4 = some r) ∧ Aside0 (kq ≤ kj15) ∧ Drawn0 w w')
           case atStart => exact ⟨(x7_8),(1),(by first|rfl|(simp;done)|(simp;decide +kernel)|(simp [*];done)),(by first|rfl|(simp;done)|(simp;decide +kernel)|(simp [*];done)),(by first|exact H'|(subst_vars;exact H')),⟨Nat.le_refl _⟩,by repeat (first|exact Drawn0.refl _|apply Drawn0.step)⟩
           case round =>
            clear H'
            try clear c1
            try clear p2
            try clear c3
            try clear c3b0
            try clear c4
            try clear c4b0
            try clear p5
            try clear q5
            try clear hx5
            try clear c6
            try clear c6b0
            try clear p6
            try clear c8
            try clear c8b0
            try clear c10
            try clear c12
            try clear c12b0
            try clear c13
            try clear c14
            try clear c14b0
            try clear c15
            try clear c15b0
            try clear c17
            try clear c17b0
            try clear c17b1
            try clear c18
            try clear p2
            try clear p5
            try clear p6
            try clear q5
            obtain ⟨x7_4,x9_4,rfl,rfl,HA,HK4,⟨m4,rfl⟩⟩:=hrel
            cases gk with
            | zero => exact absurd HA.out (by simp [racewayref25_Sign.l0])
            | succ k4 =>
             have H:=HA.out
             clear HA
             simp only [racewayref25_Sign.l0] at H
             by_cases c19 : x9_4 < x6_8
             ·rw [if_pos c19] at H
              have c19b0 : decide (x9_4 < x6_8) = true:=decide_eq_true c19
              clear c19
              obtain ⟨ji20,hji20⟩ : ∃ j_ : Int,(wrap64 (a1 + x9_4)) = j_:=⟨_,rfl⟩
              replace H : (if 0 ≤ (ji20) then (if (ji20) < (a0.size : Int) then (if (wrap64 (bt a0 (ji20))) < 128 then (some 0) else (if (wrap64 (bt a0 (ji20))) > 191 then (some 0) else (racewayref25_Sign.l0 k4 a0 a1 x6_8 (wrap64 ((wrap64 ((wrap64 (64 * x7_4)) + (wrap64 (bt a0 (ji20))))) - 128)) x8_8 (wrap64 (x9_4 + 1))))) else (none)) else (none)) = some r:=by first|(rw [hji20] at H;exact H)|(simp only [hji20] at H ⊢;exact H)
              have hji20w : (IntKind.i64.wrap (a1 + x9_4)) = ji20:=(i64_w _).trans hji20
              by_cases c21 : 0 ≤ (ji20)
              ·rw [if_pos c21] at H
               have c21b0 : decide (0 ≤ (ji20)) = true:=decide_eq_true c21
               clear c21
               by_cases c22 : (ji20) < (a0.size : Int)
               ·rw [if_pos c22] at H
                have c22b0 : decide ((ji20) < (a0.size : Int)) = true:=decide_eq_true c22
                clear c22
                by_cases c24 : (wrap64 (bt a0 (ji20))) < 128
                ·rw [if_pos c24] at H
                 have c24b0 : decide ((wrap64 (bt a0 (ji20))) < 128) = true:=decide_eq_true c24
                 clear c24
                 obtain rfl:=Option.some.inj H
                 have p23 : 0 ≤ ((ji20) : Int):=of_decide_eq_true (by first|(with_reducible assumption)|assumption)
                 have q23 : (ji20) < (a0.size : Int):=of_decide_eq_true (by first|(with_reducible assumption)|assumption)
                 have hx23:=bt_at a0 (ji20)
                 replace p23:=eq_true p23
                 replace q23:=eq_true q23
                 go_wp2
                 go_ret
                 exact ⟨by first|rfl|(simp;done)|(simp only [← hji20] <;> (first|rfl|simp))|(simp [*];done),by repeat (first|exact Drawn0.refl _|apply Drawn0.step)⟩
                ·rw [if_neg c24] at H
                 have c24b0 : decide ((wrap64 (bt a0 (ji20))) < 128) = false:=decide_eq_false c24
                 clear c24
                 by_cases c25 : (wrap64 (bt a0 (ji20))) > 191
                 ·rw [if_pos c25] at H
                  have c25b0 : decide (191 < (wrap64 (bt a0 (ji20)))) = true:=decide_eq_true c25
                  clear c25
                  obtain rfl:=Option.some.inj H
                  have p23 : 0 ≤ ((ji20) : Int):=of_decide_eq_true (by first|(with_reducible assumption)|assumption)
                  have q23 : (ji20) < (a0.size : Int):=of_decide_eq_true (by first|(with_reducible assumption)|assumption)
                  have hx23:=bt_at a0 (ji20)
                  replace p23:=eq_true p23
                  replace q23:=eq_true q23
                  go_wp2
                  go_ret
                  exact ⟨by first|rfl|(simp;done)|(simp only [← hji20] <;> (first|rfl|simp))|(simp [*];done),by repeat (first|exact Drawn0.refl _|apply Drawn0.step)⟩
                 ·rw [if_neg c25] at H
                  have c25b0 : decide (191 < (wrap64 (bt a0 (ji20)))) = false:=decide_eq_false c25
                  clear c25
                  have H':=Aside0.mk H
                  clear H
                  have p23 : 0 ≤ ((ji20) : Int):=of_decide_eq_true (by first|(with_reducible assumption)|assumption)
                  have q23 : (ji20) < (a0.size : Int):=of_decide_eq_true (by first|(with_reducible assumption)|assumption)
                  have hx23:=bt_at a0 (ji20)
                  replace p23:=eq_true p23
                  replace q23:=eq_true q23
                  go_wp2
                  go_roundg k4
                  case measure => have:=HJ6.out;have:=HJ8.out;have:=HJ15.out;have:=HK4.out;omega
                  case rel => exact ⟨(wrap64 ((wrap64 ((wrap64 (64 * x7_4)) + (wrap64 (bt a0 (ji20))))) - 128)),(wrap64 (x9_4 + 1)),(by first|rfl|(simp;done)|(simp only [← hji20] <;> (first|rfl|simp))|(simp [*];done)),(by first|rfl|(simp;done)|(simp;decide +kernel)|(simp [*];done)),(by first|exact H'|(subst_vars;exact H')),⟨by have:=HJ6.out;have:=HJ8.out;have:=HJ15.out;have:=HK4.out;omega⟩,by repeat (first|exact Drawn0.refl _|apply Drawn0.step)⟩
               ·rw [if_neg c22] at H
                exact absurd H (by simp)
              ·rw [if_neg c21] at H
               exact absurd H (by simp)
             ·rw [if_neg c19] at H
              have c19b0 : decide (x9_4 < x6_8) = false:=decide_eq_false c19
              clear c19
              by_cases c26 : x7_4 < x8_8
              ·rw [if_pos c26] at H
               have c26b0 : decide (x7_4 < x8_8) = true:=decide_eq_true c26
               clear c26
               obtain rfl:=Option.some.inj H
               go_wp2
               go_ret
               exact ⟨by first|rfl|(simp;done)|(simp;decide +kernel)|(simp [*];done),by repeat (first|exact Drawn0.refl _|apply Drawn0.step)⟩
              ·rw [if_neg c26] at H
               have c26b0 : decide (x7_4 < x8_8) = false:=decide_eq_false c26
               clear c26
               by_cases c27 : x7_4 > 1114111
               ·rw [if_pos c27] at H
                have c27b0 : decide (1114111 < x7_4) = true:=decide_eq_true c27
                clear c27
                obtain rfl:=Option.some.inj H
                go_wp2
                go_ret
                exact ⟨by first|rfl|(simp;done)|(simp;decide +kernel)|(simp [*];done),by repeat (first|exact Drawn0.refl _|apply Drawn0.step)⟩
               ·rw [if_neg c27] at H
                have c27b0 : decide (1114111 < x7_4) = false:=decide_eq_false c27
                clear c27
                by_cases c28 : x7_4 ≥ 55296
                ·rw [if_pos c28] at H
                 have c28b0 : decide (55296 ≤ x7_4) = true:=decide_eq_true c28
                 clear c28
                 by_cases c29 : x7_4 ≤ 57343
                 ·rw [if_pos c29] at H
                  have c29b0 : decide (x7_4 ≤ 57343) = true:=decide_eq_true c29
                  clear c29
                  obtain rfl:=Option.some.inj H
                  go_wp2
                  go_ret
                  exact ⟨by first|rfl|(simp;done)|(simp;decide +kernel)|(simp [*];done),by repeat (first|exact Drawn0.refl _|apply Drawn0.step)⟩
                 ·rw [if_neg c29] at H
                  have c29b0 : decide (x7_4 ≤ 57343) = false:=decide_eq_false c29
                  clear c29
                  obtain rfl:=Option.some.inj H
                  go_wp2
                  go_ret
                  exact ⟨by first|rfl|(simp;done)|(simp;decide +kernel)|(simp [*];done),by repeat (first|exact Drawn0.refl _|apply Drawn0.step)⟩
                ·rw [if_neg c28] at H
                 have c28b0 : decide (55296 ≤ x7_4) = false:=decide_eq_false c28
                 clear c28
                 obtain rfl:=Option.some.inj H
                 go_wp2
                 go_ret
                 exact ⟨by first|rfl|(simp;done)|(simp;decide +kernel)|(simp [*];done),by repeat (first|exact Drawn0.refl _|apply Drawn0.step)⟩
  ·rw [if_neg c4] at H
   exact absurd H (by simp)
 ·rw [if_neg c3] at H
  exact absurd H (by simp)
end Go.Proofs.YtadfkeipcebmfaaDoor.X
namespace Go.Proofs.YtadfkeipcebmfaaDoor.X
open Go.RowKit Go.Proofs.YtadfkeipcebmfaaDoorW.PrintWords Go.Proofs.YtadfkeipcebmfaaDoorW.PrintLast Go.Proofs.YtadfkeipcebmfaaDoorW.PrintMore
attribute [local go_sem] max2_int min2_int max_two min_two max_three min_three max_four min_four
set_option linter.unusedVariables false
set_option linter.unusedSimpArgs false
def racewayref25_Valid.l0 : Nat → ByteArray → Int → Option (Bool)
 | 0,_,_ => none
 | k + 1,x0,x3 => if x3 < (x0.size : Int) then ((racewayref25_Sign.f k x0 x3).bind fun t258 => (if t258 = 0 then (some false) else (racewayref25_Valid.l0 k x0 (wrap64 (x3 + t258))))) else (some true)
def racewayref25_Valid.f (k : Nat) (a0 : ByteArray) : Option (Bool):=racewayref25_Valid.l0 k a0 0
set_option maxHeartbeats 8000000 in
set_option maxRecDepth 100000 in
theorem racewayref25_Valid.calls (k : Nat) (a0 : ByteArray) (r : Bool) (w : World) (h : racewayref25_Valid.f k a0 = some r) :
  Calls Tryd.prog 30 #[.string a0] w fun e w' => e = .returned (.bool r) ∧ Drawn0 w w':=by
 have H : (racewayref25_Valid.l0 k a0 0) = some r:=h
 clear h
 have H':=Aside0.mk H
 clear H
 go_enter Tryd.func30,Tryd.ntmps30
 go_wp2
 go_loopg [3] k (fun kq v3 w' => ∃ (x3_1 : Int),v3 = .int .i64 x3_1 ∧ Aside0 (racewayref25_Valid.l0 kq a0 x3_1 = some r) ∧ Aside0 (kq ≤ k) ∧ Drawn0 w w')
 case atStart => exact ⟨(0),(by first|rfl|(simp;done)|(simp;decide +kernel)|(simp [*];done)),(by first|exact H'|(subst_vars;exact H')),⟨Nat.le_refl _⟩,by repeat (first|exact Drawn0.refl _|apply Drawn0.step)⟩
 case round =>
  clear H'
  obtain ⟨x3_1,rfl,HA,HK1,⟨m1,rfl⟩⟩:=hrel
  cases gk with
  | zero => exact absurd HA.out (by simp [racewayref25_Valid.l0])
  | succ k1 =>
   have H:=HA.out
   clear HA
   simp only [racewayref25_Valid.l0] at H
   by_cases c2 : x3_1 < (a0.size : Int)
   ·rw [if_pos c2] at H
    have c2b0 : decide (x3_1 < (a0.size : Int)) = true:=decide_eq_true c2
    clear c2
    replace H:=Option.bind_eq_some_iff.mp H
    obtain ⟨t258,A30,H⟩:=H
    replace H : (if t258 = 0 then (some false) else (racewayref25_Valid.l0 k1 a0 (wrap64 (x3_1 + t258)))) = some r:=H
    have A3:=Aside0.mk A30
    clear A30
    by_cases c4 : t258 = 0
    ·rw [if_pos c4] at H
     have c4b0 : (t258 == 0) = true:=beq_iff_eq.mpr c4
     have c4b1 : (t258 != 0) = false:=bne_eq_false_iff_eq.mpr c4
     clear c4
     obtain rfl:=Option.some.inj H
     go_wp2_with (first|((with_reducible refine gate_callee (f:=44) rfl ?_);refine goesL_ (some 11) rfl rfl Tryd.func44 (by kernel_rfl) rfl #[.string a0,.int .i64 x3_1] rfl (by (try simp only [List.map_toArray,List.map_cons,List.map_nil]);first|done|rfl|(simp only [List.length_drop,List.length_take];rfl)) ?_;(with_reducible refine (racewayref25_Sign.calls k1 a0 x3_1 t258 _ A3.out).mono ?_);rintro e w' ⟨rfl,⟨nd,rfl⟩⟩;refine ⟨_,rfl,?_⟩))
     go_ret
     exact ⟨by first|rfl|(simp;done)|(simp;decide +kernel)|(simp [*];done),by repeat (first|exact Drawn0.refl _|apply Drawn0.step)⟩
    ·rw [if_neg c4] at H
     have c4b0 : (t258 == 0) = false:=beq_eq_false_iff_ne.mpr c4
     have c4b1 : (t258 != 0) = true:=bne_iff_ne.mpr c4
     have H':=Aside0.mk H
     clear H
     go_wp2_with (first|((with_reducible refine gate_callee (f:=44) rfl ?_);refine goesL_ (some 11) rfl rfl Tryd.func44 (by kernel_rfl) rfl #[.string a0,.int .i64 x3_1] rfl (by (try simp only [List.map_toArray,List.map_cons,List.map_nil]);first|done|rfl|(simp only [List.length_drop,List.length_take];rfl)) ?_;(with_reducible refine (racewayref25_Sign.calls k1 a0 x3_1 t258 _ A3.out).mono ?_);rintro e w' ⟨rfl,⟨nd,rfl⟩⟩;refine ⟨_,rfl,?_⟩))
     go_roundg k1
     case measure => have:=HK1.out;omega
     case rel => exact ⟨(wrap64 (x3_1 + t258)),(by first|rfl|(simp;done)|(simp;decide +kernel)|(simp [*];done)),(by first|exact H'|(subst_vars;exact H')),⟨by have:=HK1.out;omega⟩,by repeat (first|exact Drawn0.refl _|apply Drawn0.step)⟩
   ·rw [if_neg c2] at H
    have c2b0 : decide (x3_1 < (a0.size : Int)) = false:=decide_eq_false c2
    clear c2
    obtain rfl:=Option.some.inj H
    go_wp2
    go_ret
    exact ⟨by first|rfl|(simp;done)|(simp;decide +kernel)|(simp [*];done),by repeat (first|exact Drawn0.refl _|apply Drawn0.step)⟩
end Go.Proofs.YtadfkeipcebmfaaDoor.X
