/-
  What the claim's law rests on, part 7 of 8: printed walks, externals, plain lemmas; conditions: none of its own.
-/
import Derived.Handed
import Derived.HandedShaped
import Derived.Lib.LaidU8T
import Derived.Lib.TrimUEq
import Derived.Lib.ValidLaws
import Derived.Test.YtadfkeipcebmfaaDoorCp6
namespace Go.Proofs.YtadfkeipcebmfaaDoor.X
open Go.RowKit Go.Proofs.YtadfkeipcebmfaaDoorW.PrintWords Go.Proofs.YtadfkeipcebmfaaDoorW.PrintLast Go.Proofs.YtadfkeipcebmfaaDoorW.PrintMore
attribute [local go_sem] max2_int min2_int max_two min_two max_three min_three max_four min_four
set_option linter.unusedVariables false
set_option linter.unusedSimpArgs false
def jsontext_Check.f (k : Nat) (l0 : List (S46)) : Option (Int):=if (l0.length : Int) = 0 then (some 2) else (if 0 < (l0.length : Int) then (if ((rd_T46 l0 0).f1) = (l0.length : Int) then ((jsontext_check.f k l0 0 (l0.length : Int) false 0).bind fun t162 => (if t162 = true then (some 0) else (some 2))) else (some 2)) else (none))
set_option maxHeartbeats 8000000 in
set_option maxRecDepth 100000 in
theorem jsontext_Check.calls (k : Nat) (A0 : Option Addr) (c0 : Nat) (l0 : List (S46)) (r : Int) (w : World) (hGU8 : GlobU8 w) (hr0 : Kd.C k46 w A0 l0.length l0) (hc0 : l0.length ≤ c0) (h : jsontext_Check.f k l0 = some r) :
  Calls Tryd.prog 16 #[.slice A0 l0.length c0] w fun e w' => e = .returned (.int .i64 r) ∧ Below w.heap.size w w':=by
 have HGU8:=Aside0.mk hGU8
 clear hGU8
 have HR0:=Aside0.mk hr0
 have HC0:=Aside0.mk hc0
 clear hr0 hc0
 have HB:=Aside0.mk (Below.refl w.heap.size w)
 have H : (if (l0.length : Int) = 0 then (some 2) else (if 0 < (l0.length : Int) then (if ((rd_T46 l0 0).f1) = (l0.length : Int) then ((jsontext_check.f k l0 0 (l0.length : Int) false 0).bind fun t162 => (if t162 = true then (some 0) else (some 2))) else (some 2)) else (none))) = some r:=h
 clear h
 by_cases c2 : (l0.length : Int) = 0
 ·rw [if_pos c2] at H
  have c2b0 : ((l0.length : Int) == 0) = true:=beq_iff_eq.mpr c2
  have c2b1 : ((l0.length : Int) != 0) = false:=bne_eq_false_iff_eq.mpr c2
  clear c2
  obtain rfl:=Option.some.inj H
  go_enter Tryd.func16,Tryd.ntmps16
  go_wp2
  go_ret
  exact ⟨by first|rfl|(simp [errW_none,errW_some] <;> rfl)|(simp [*,errW_none,errW_some] <;> rfl),by repeat (first|(with_reducible first|exact HB.out|apply below_alloc|apply pw_below_drewN|apply below_drew1)|exact HB.out)⟩
 ·rw [if_neg c2] at H
  have c2b0 : ((l0.length : Int) == 0) = false:=beq_eq_false_iff_ne.mpr c2
  have c2b1 : ((l0.length : Int) != 0) = true:=bne_iff_ne.mpr c2
  have c2b2 : ¬ (l0 = []):=fun h_ => c2 (by rw [h_];rfl)
  by_cases c3 : 0 < (l0.length : Int)
  ·rw [if_pos c3] at H
   have c3b0 : decide (0 < (l0.length : Int)) = true:=decide_eq_true c3
   have c3b1 : decide (0 < l0.length) = true:=decide_eq_true (by omega)
   clear c3
   by_cases c4 : ((rd_T46 l0 0).f1) = (l0.length : Int)
   ·rw [if_pos c4] at H
    have c4b0 : (((rd_T46 l0 0).f1) == (l0.length : Int)) = true:=beq_iff_eq.mpr c4
    have c4b1 : (((rd_T46 l0 0).f1) != (l0.length : Int)) = false:=bne_eq_false_iff_eq.mpr c4
    clear c4
    replace H:=Option.bind_eq_some_iff.mp H
    obtain ⟨t162,A50,H⟩:=H
    replace H : (if t162 = true then (some 0) else (some 2)) = some r:=H
    have A5:=Aside0.mk A50
    clear A50
    by_cases c6 : t162 = true
    ·subst c6
     have H1 : (some 0) = some r:=by rw [if_pos rfl] at H;exact H
     clear H
     have H:=H1
     clear H1
     obtain rfl:=Option.some.inj H
     have p161 : 0 ≤ (0 : Int):=(by omega)
     have q161 : 0 < (l0.length : Int):=of_decide_eq_true (by first|(with_reducible assumption)|assumption)
     obtain ⟨ad161,e161,hx161_0,hx161_1,hx161_2,hx161_3,hx161_4⟩:=at_T46 HR0.out 0 p161 q161
     cases e161
     have qi161 : (0 < l0.length) = True:=eq_true (by omega)
     (try rw [show ((0 : Int)).toNat = 0 from rfl] at hx161_0)
     (try rw [show 0 * 5 = 0 from rfl] at hx161_0)
     (try rw [Addr.add_zero'] at hx161_0)
     (try rw [show ((0 : Int)).toNat = 0 from rfl] at hx161_1)
     (try rw [show 0 * 5 = 0 from rfl] at hx161_1)
     (try rw [Addr.add_zero'] at hx161_1)
     (try rw [show ((0 : Int)).toNat = 0 from rfl] at hx161_2)
     (try rw [show 0 * 5 = 0 from rfl] at hx161_2)
     (try rw [Addr.add_zero'] at hx161_2)
     (try rw [show ((0 : Int)).toNat = 0 from rfl] at hx161_3)
     (try rw [show 0 * 5 = 0 from rfl] at hx161_3)
     (try rw [Addr.add_zero'] at hx161_3)
     (try rw [show ((0 : Int)).toNat = 0 from rfl] at hx161_4)
     (try rw [show 0 * 5 = 0 from rfl] at hx161_4)
     (try rw [Addr.add_zero'] at hx161_4)
     replace p161:=eq_true p161
     replace q161:=eq_true q161
     go_enter Tryd.func16,Tryd.ntmps16
     go_wp2_with (first|(go_at_call 39;(with_reducible refine (jsontext_check.calls k _ _ l0 0 (l0.length : Int) false 0 true _ ?side3 ?side1 ?side2 A5.out).mono ?_);(case side1 => repeat (first|exact HR0.out|(with_reducible refine Kd.C_alloc ?_ _)|(with_reducible refine Kd.C_drewN ?_ _)|(with_reducible refine Kd.C_drew ?_)));(case side2 => exact HC0.out);(case side3 => first|exact HGU8.out|exact GlobU8.below HGU8.out (by repeat (first|(with_reducible first|exact HB.out|apply below_alloc|apply pw_below_drewN|apply below_drew1)|exact HB.out))|exact GlobU8.drawn HGU8.out (by repeat (first|exact Drawn0.refl _|apply Drawn0.step)));rintro e w7 ⟨rfl,hb⟩;have n0_:=Aside0.mk (below_step (by repeat (first|(with_reducible first|exact HB.out|apply below_alloc|apply pw_below_drewN|apply below_drew1)|exact HB.out)) hb);clear HB;have HB:=n0_;clear n0_;(try clear hb);(try clear hb2);(try clear hk);(try clear hi)))
     go_ret
     exact ⟨by first|rfl|(simp [errW_none,errW_some] <;> rfl)|(simp [*,errW_none,errW_some] <;> rfl),by repeat (first|(with_reducible first|exact HB.out|apply below_alloc|apply pw_below_drewN|apply below_drew1)|exact HB.out)⟩
    ·replace c6:=Bool.eq_false_iff.mpr c6
     subst c6
     have H1 : (some 2) = some r:=by rw [if_neg (show ¬ (false = true) by decide)] at H;exact H
     clear H
     have H:=H1
     clear H1
     obtain rfl:=Option.some.inj H
     have p161 : 0 ≤ (0 : Int):=(by omega)
     have q161 : 0 < (l0.length : Int):=of_decide_eq_true (by first|(with_reducible assumption)|assumption)
     obtain ⟨ad161,e161,hx161_0,hx161_1,hx161_2,hx161_3,hx161_4⟩:=at_T46 HR0.out 0 p161 q161
     cases e161
     have qi161 : (0 < l0.length) = True:=eq_true (by omega)
     (try rw [show ((0 : Int)).toNat = 0 from rfl] at hx161_0)
     (try rw [show 0 * 5 = 0 from rfl] at hx161_0)
     (try rw [Addr.add_zero'] at hx161_0)
     (try rw [show ((0 : Int)).toNat = 0 from rfl] at hx161_1)
     (try rw [show 0 * 5 = 0 from rfl] at hx161_1)
     (try rw [Addr.add_zero'] at hx161_1)
     (try rw [show ((0 : Int)).toNat = 0 from rfl] at hx161_2)
     (try rw [show 0 * 5 = 0 from rfl] at hx161_2)
     (try rw [Addr.add_zero'] at hx161_2)
     (try rw [show ((0 : Int)).toNat = 0 from rfl] at hx161_3)
     (try rw [show 0 * 5 = 0 from rfl] at hx161_3)
     (try rw [Addr.add_zero'] at hx161_3)
     (try rw [show ((0 : Int)).toNat = 0 from rfl] at hx161_4)
     (try rw [show 0 * 5 = 0 from rfl] at hx161_4)
     (try rw [Addr.add_zero'] at hx161_4)
     replace p161:=eq_true p161
     replace q161:=eq_true q161
     go_enter Tryd.func16,Tryd.ntmps16
     go_wp2_with (first|(go_at_call 39;(with_reducible refine (jsontext_check.calls k _ _ l0 0 (l0.length : Int) false 0 false _ ?side3 ?side1 ?side2 A5.out).mono ?_);(case side1 => repeat (first|exact HR0.out|(with_reducible refine Kd.C_alloc ?_ _)|(with_reducible refine Kd.C_drewN ?_ _)|(with_reducible refine Kd.C_drew ?_)));(case side2 => exact HC0.out);(case side3 => first|exact HGU8.out|exact GlobU8.below HGU8.out (by repeat (first|(with_reducible first|exact HB.out|apply below_alloc|apply pw_below_drewN|apply below_drew1)|exact HB.out))|exact GlobU8.drawn HGU8.out (by repeat (first|exact Drawn0.refl _|apply Drawn0.step)));rintro e w8 ⟨rfl,hb⟩;have n0_:=Aside0.mk (below_step (by repeat (first|(with_reducible first|exact HB.out|apply below_alloc|apply pw_below_drewN|apply below_drew1)|exact HB.out)) hb);clear HB;have HB:=n0_;clear n0_;(try clear hb);(try clear hb2);(try clear hk);(try clear hi)))
     go_ret
     exact ⟨by first|rfl|(simp [errW_none,errW_some] <;> rfl)|(simp [*,errW_none,errW_some] <;> rfl),by repeat (first|(with_reducible first|exact HB.out|apply below_alloc|apply pw_below_drewN|apply below_drew1)|exact HB.out)⟩
   ·rw [if_neg c4] at H
    have c4b0 : (((rd_T46 l0 0).f1) == (l0.length : Int)) = false:=beq_eq_false_iff_ne.mpr c4
    have c4b1 : (((rd_T46 l0 0).f1) != (l0.length : Int)) = true:=bne_iff_ne.mpr c4
    obtain rfl:=Option.some.inj H
    have p161 : 0 ≤ (0 : Int):=(by omega)
    have q161 : 0 < (l0.length : Int):=of_decide_eq_true (by first|(with_reducible assumption)|assumption)
    obtain ⟨ad161,e161,hx161_0,hx161_1,hx161_2,hx161_3,hx161_4⟩:=at_T46 HR0.out 0 p161 q161
    cases e161
    have qi161 : (0 < l0.length) = True:=eq_true (by omega)
    (try rw [show ((0 : Int)).toNat = 0 from rfl] at hx161_0)
    (try rw [show 0 * 5 = 0 from rfl] at hx161_0)
    (try rw [Addr.add_zero'] at hx161_0)
    (try rw [show ((0 : Int)).toNat = 0 from rfl] at hx161_1)
    (try rw [show 0 * 5 = 0 from rfl] at hx161_1)
    (try rw [Addr.add_zero'] at hx161_1)
    (try rw [show ((0 : Int)).toNat = 0 from rfl] at hx161_2)
    (try rw [show 0 * 5 = 0 from rfl] at hx161_2)
    (try rw [Addr.add_zero'] at hx161_2)
    (try rw [show ((0 : Int)).toNat = 0 from rfl] at hx161_3)
    (try rw [show 0 * 5 = 0 from rfl] at hx161_3)
    (try rw [Addr.add_zero'] at hx161_3)
    (try rw [show ((0 : Int)).toNat = 0 from rfl] at hx161_4)
    (try rw [show 0 * 5 = 0 from rfl] at hx161_4)
    (try rw [Addr.add_zero'] at hx161_4)
    replace p161:=eq_true p161
    replace q161:=eq_true q161
    go_enter Tryd.func16,Tryd.ntmps16
    go_wp2
    go_ret
    exact ⟨by first|rfl|(simp [errW_none,errW_some] <;> rfl)|(simp [*,errW_none,errW_some] <;> rfl),by repeat (first|(with_reducible first|exact HB.out|apply below_alloc|apply pw_below_drewN|apply below_drew1)|exact HB.out)⟩
  ·rw [if_neg c3] at H
   exact absurd H (by simp)
end Go.Proofs.YtadfkeipcebmfaaDoor.X
namespace Go.Proofs.YtadfkeipcebmfaaDoor.X
open Go.RowKit Go.Proofs.YtadfkeipcebmfaaDoorW.PrintWords
set_option linter.unusedVariables false
set_option linter.unusedSimpArgs false
theorem tl (a : ByteArray) : a.toList = a.data.toList:=ByteArray.toList_eq a
theorem w64' {x : Int} (h0 : -9223372036854775808 ≤ x) (h1 : x ≤ 9223372036854775807) : wrap64 x = x:=by unfold wrap64;omega
theorem idx_num (c : UInt8) : (Lib.indexByte [45,48,49,50,51,52,53,54,55,56,57] c < 0) = (¬ (c = 45 ∨ isDig c = true)):=by
 have:=all_bytes (p:=fun c => decide (Lib.indexByte [45,48,49,50,51,52,53,54,55,56,57] c < 0) == !(decide (c = 45) || isDig c)) (by decide +kernel) c
 simp only [beq_iff_eq] at this
 by_cases h1 : c = 45 <;> by_cases h2 : isDig c = true <;> simp_all
theorem dig_begins (c : UInt8) (h : c = 45 ∨ isDig c = true) : begins c = true ∧ isBlank c = false ∧ c ≠ 123 ∧ c ≠ 91 ∧ c ≠ 34 ∧ c ≠ 116 ∧ c ≠ 102 ∧ c ≠ 110:=by
 have:=all_bytes (p:=fun c => !(decide (c = 45) || isDig c) || (begins c && !isBlank c && decide (c ≠ 123) && decide (c ≠ 91) && decide (c ≠ 34) && decide (c ≠ 116) && decide (c ≠ 102) && decide (c ≠ 110))) (by decide +kernel) c
 rcases h with h|h
 ·subst h
  decide
 ·simp only [h,Bool.or_true,Bool.not_true,Bool.false_or,Bool.and_eq_true,decide_eq_true_eq,Bool.not_eq_true'] at this
  obtain ⟨⟨⟨⟨⟨⟨⟨a,b⟩,c⟩,d⟩,e⟩,f⟩,g⟩,i⟩:=this
  exact ⟨a,b,c,d,e,f,g,i⟩
theorem num_no (c : UInt8) (r : Bs) (h : ¬ (c = 45 ∨ isDig c = true)) : ∃ l e,num (c :: r) = .bad l e:=by
 have h1 : c ≠ 45:=fun e => h (.inl e)
 have h2 : isDig c = false:=by
  cases hh : isDig c with
  | false => rfl
  | true => exact absurd (.inr hh) h
 have h3 : (c == 48) = false:=by
  simp only [beq_eq_false_iff_ne,ne_eq]
  rintro rfl
  exact absurd h2 (by decide)
 refine ⟨c :: r,5,?_⟩
 have e1 : isC 45 (c :: r) = false:=by simpa [isC] using h1
 have e2 : isC 48 (c :: r) = false:=h3
 rw [num,e1]
 simp only [Bool.false_eq_true,if_false]
 rw [num1,e2]
 simp [digits,h2]
theorem digits_five (l r : Bs) (e : Int) (h : digits l = .bad r e) : e = 5:=by
 cases l with
 | nil => injection h with _ h;exact h.symm
 | cons c l =>
  simp only [digits] at h
  split at h
  ·cases h
  ·injection h with _ h;exact h.symm
theorem num_five (l r : Bs) (e : Int) (h : num l = .bad r e) : e = 5:=by
 unfold num at h
 have h1 : ∀ l r e,num1 l = .bad r e → e = 5:=by
  intro l r e h
  unfold num1 at h
  split at h
  ·cases h
  ·exact digits_five _ _ _ h
 have h2 : ∀ l r e,num2 l = .bad r e → e = 5:=by
  intro l r e h
  unfold num2 at h
  split at h
  ·exact digits_five _ _ _ h
  ·cases h
 have h3 : ∀ l r e,num3 l = .bad r e → e = 5:=by
  intro l r e h
  unfold num3 at h
  split at h
  ·split at h <;> exact digits_five _ _ _ h
  ·cases h
 split at h
 ·rename_i r1 e1 hh
  injection h with _ h
  subst h
  exact h1 _ _ _ hh
 ·split at h
  ·rename_i r1 e1 hh
   injection h with _ h
   subst h
   exact h2 _ _ _ hh
  ·exact h3 _ _ _ h
theorem number_law (a : ByteArray) (h : a.size ≤ 65536) : jsontext_number.f a = some (isNum a.data.toList):=by
 unfold jsontext_number.f
 rw [tl]
 have hs : a.data.toList.length = a.size:=by simp
 have hbk : str a.data.toList = a:=str_back a
 generalize hl : a.data.toList = l at hs hbk
 cases l with
 | nil => rw [if_pos rfl];rfl
 | cons c r =>
  rw [if_neg (by simp),if_pos (by simp at hs;omega)]
  have hb : bt a 0 = (c.toNat : Int):=by
   have h0 : 0 < a.size:=by simp at hs;omega
   unfold bt
   rw [dif_pos (by simpa using h0)]
   have : a[(0 : Int).toNat]'(by simpa using h0) = a.data.toList[0]'(by simp [hl]):=rfl
   rw [this]
   congr 2
   simp [hl]
  rw [strings_IndexByte.f,hb]
  have hc : ((c.toNat : Int)).toNat.toUInt8 = c:=by simp
  rw [hc]
  simp only [Option.bind_some]
  have hx:=idx_num c
  by_cases hd : c = 45 ∨ isDig c = true
  ·rw [if_neg (by rw [hx];exact fun hn => hn hd)]
   obtain ⟨b1,b2,b3,b4,b5,b6,b7,b8⟩:=dig_begins c hd
   have hp : parse (c :: r) = match num (c :: r) with
     | .bad r5 e => (.nil,(((c :: r).length - r5.length : Nat) : Int),e)
     | .ok r5 _ => match blanks r5 with
      | [] => (.leaf [] 4 ((c :: r).take ((c :: r).length - r5.length)) .nil,0,0)
      | c' :: r' => (.nil,(((c :: r).length - (r'.length + 1) : Nat) : Int),5):=by
    unfold parse
    rw [if_neg (by omega)]
    have e1 : blanks (c :: r) = c :: r:=by rw [blanks,b2];rfl
    rw [e1,value]
    rw [if_neg (by rw [b1];simp),if_neg b3,if_neg b4,if_neg b5,if_neg b6,if_neg b7,if_neg b8,number]
    cases num (c :: r) with
    | bad r5 e => rfl
    | ok r5 u => rfl
   have hpf : ∀ (f : F) (p e : Int),parse (c :: r) = (f,p,e) → jsontext_Parse.f a = some (f.flat,p,e):=by
    intro f p e h
    rw [jsontext_Parse.f,hl,h]
   cases hn : num (c :: r) with
   | bad r5 e =>
    obtain rfl:=num_five _ _ _ hn
    rw [hpf .nil _ 5 (by rw [hp,hn]),Option.bind_some,if_neg (show ¬ ((5 : Int) = 0) by decide),isNum,hn]
   | ok r5 u =>
    have hlt:=num_len _ _ _ hn
    cases hb5 : blanks r5 with
    | cons c' r' =>
     rw [hpf .nil (((c :: r).length - (r'.length + 1) : Nat) : Int) 5 (by rw [hp,hn];simp only;rw [hb5]),Option.bind_some,if_neg (show ¬ ((5 : Int) = 0) by decide)]
     have : r5 ≠ []:=by rintro rfl;simp [blanks] at hb5
     rw [isNum,hn]
     cases r5 with
     | nil => exact absurd rfl this
     | cons _ _ => rfl
    | nil =>
     rw [hpf (.leaf [] 4 ((c :: r).take ((c :: r).length - r5.length)) .nil) 0 0 (by rw [hp,hn];simp only;rw [hb5]),Option.bind_some,if_pos rfl]
     show (if (0 : Int) < ((1 : Nat) : Int) then (if (rd_T46 [(⟨4,1,0,str [],str (List.take ((c :: r).length - r5.length) (c :: r))⟩ : Nd)] 0).f0 = 4 then some ((rd_T46 [(⟨4,1,0,str [],str (List.take ((c :: r).length - r5.length) (c :: r))⟩ : Nd)] 0).f4.toList == c :: r) else some false) else none) = _
     rw [if_pos (by decide)]
     have e4 : ∀ t : Bs,(rd_T46 [(⟨4,1,0,str [],str t⟩ : Nd)] 0) = ⟨4,1,0,str [],str t⟩:=fun _ => rfl
     rw [e4,if_pos rfl,tl]
     congr 1
     rw [isNum,hn]
     show (List.take ((c :: r).length - r5.length) (c :: r) == c :: r) = _
     cases r5 with
     | nil => simp
     | cons c5 r6 =>
      simp only [beq_eq_false_iff_ne,ne_eq]
      intro he
      have:=congrArg List.length he
      rw [List.length_take] at this
      simp at this hlt
      omega
  ·rw [if_pos (by rw [hx];exact hd)]
   obtain ⟨l5,e5,h5⟩:=num_no c r hd
   rw [isNum,h5]
theorem wrong_law (k : Nat) (x : Nd) (keyed : Bool) (deep : Int) (hk : 3 ≤ k) (h3 : x.f3.size ≤ 9223372036854775807) (h4 : x.f4.size ≤ 9223372036854775807) :
  jsontext_wrong.f k x.f0 x.f1 x.f2 x.f3 x.f4 keyed deep = some (!(okN x keyed && decide (1 ≤ x.f1) && decide (deep < 32))):=by
 obtain ⟨k,rfl⟩ : ∃ k',k = k' + 3:=⟨k - 3,by omega⟩
 obtain ⟨f0,f1,f2,f3,f4⟩:=x
 simp only at h3 h4 ⊢
 have hv3 : utf8_ValidString.f f3 = some (Lib.validD f3.data.toList):=by rw [utf8_ValidString.f,if_pos h3]
 have hv4 : utf8_ValidString.f f4 = some (Lib.validD f4.data.toList):=by rw [utf8_ValidString.f,if_pos h4]
 have hj2 : ∀ (k : Nat) (b : Bool),jsontext_wrong.j2 (k + 1) b f0 f1 f2 f3 f4 = some (b || !(if f0 = 4 then decide (f4.size ≤ 65536) && isNum f4.data.toList else if f0 = 5 then Lib.validD f4.data.toList else f4.data.toList.isEmpty)):=by
  intro k b
  rw [jsontext_wrong.j2,hv4,tl]
  cases b with
  | true => rfl
  | false =>
   rw [if_neg (by decide)]
   by_cases c4 : f0 = 4
   ·rw [if_pos c4,if_pos c4]
    by_cases c5 : (f4.size : Int) > 65536
    ·rw [if_pos c5]
     have : ¬ f4.size ≤ 65536:=by omega
     simp [this]
    ·rw [if_neg c5,number_law f4 (by omega)]
     have : f4.size ≤ 65536:=by omega
     simp [this]
   ·rw [if_neg c4,if_neg c4]
    by_cases c5 : f0 = 5
    ·rw [if_pos c5,if_pos c5]
     rfl
    ·rw [if_neg c5,if_neg c5]
     cases f4.data.toList <;> rfl
 have hj1 : ∀ (k : Nat) (b : Bool),jsontext_wrong.j1 (k + 2) keyed b f0 f1 f2 f3 f4 = some (b || !(f3.data.toList.isEmpty || keyed) || !Lib.validD f3.data.toList || !(if f0 = 4 then decide (f4.size ≤ 65536) && isNum f4.data.toList else if f0 = 5 then Lib.validD f4.data.toList else f4.data.toList.isEmpty)):=by
  intro k b
  rw [jsontext_wrong.j1,hv3,tl]
  simp only [Option.bind_some,hj2]
  cases b <;> cases keyed <;> cases hl : f3.data.toList <;> simp
 have hj0 : ∀ (k : Nat) (b : Bool),jsontext_wrong.j0 (k + 3) keyed b f0 f1 f2 f3 f4 = some (b || (decide (0 < f2) && decide (f0 < 6)) || !(f3.data.toList.isEmpty || keyed) || !Lib.validD f3.data.toList || !(if f0 = 4 then decide (f4.size ≤ 65536) && isNum f4.data.toList else if f0 = 5 then Lib.validD f4.data.toList else f4.data.toList.isEmpty)):=by
  intro k b
  rw [jsontext_wrong.j0,hj1,hj1]
  cases b with
  | true => simp
  | false =>
   by_cases c : f2 > 0
   ·rw [if_neg (by decide),if_pos c]
    simp [c]
   ·rw [if_neg (by decide),if_neg c]
    have : ¬ 0 < f2:=by omega
    simp [this]
 rw [jsontext_wrong.f,hj0,hj0,okN]
 generalize (if f0 = 4 then decide (f4.size ≤ 65536) && isNum f4.data.toList else if f0 = 5 then Lib.validD f4.data.toList else f4.data.toList.isEmpty) = T
 generalize (f3.data.toList.isEmpty || keyed) = K
 generalize Lib.validD f3.data.toList = V
 by_cases a1 : f0 < 1
 ·have : ¬ 1 ≤ f0:=by omega
  simp [a1,this]
 ·by_cases a2 : f0 > 7
  ·have : ¬ f0 ≤ 7:=by omega
   simp [a2,this]
  ·by_cases a3 : f1 < 1
   ·have : ¬ 1 ≤ f1:=by omega
    simp [a3,this]
   ·by_cases a4 : f2 < 0
    ·have : ¬ 0 ≤ f2:=by omega
     simp [a4,this]
    ·rw [if_neg a1,if_neg a2,if_neg a3,if_neg a4]
     have b1 : 1 ≤ f0:=by omega
     have b2 : f0 ≤ 7:=by omega
     have b3 : 1 ≤ f1:=by omega
     have b4 : 0 ≤ f2:=by omega
     by_cases a5 : deep ≥ 32
     ·have : ¬ deep < 32:=by omega
      simp [a5,this]
     ·have c5 : deep < 32:=by omega
      by_cases a6 : 0 < f2 <;> by_cases a7 : f0 < 6
      ·have : ¬ f2 ≤ 0:=by omega
       have : ¬ 6 ≤ f0:=by omega
       simp [*]
      ·have : 6 ≤ f0:=by omega
       simp [*]
      ·have : f2 ≤ 0:=by omega
       simp [*]
      ·have : f2 ≤ 0:=by omega
       simp [*]
end Go.Proofs.YtadfkeipcebmfaaDoor.X
namespace Go.Proofs.YtadfkeipcebmfaaDoor.X
open Go.RowKit Go.Proofs.YtadfkeipcebmfaaDoorW.PrintWords
set_option linter.unusedVariables false
set_option linter.unusedSimpArgs false
def fit (l : List Nd) : Bool:=decide (l.length ≤ 1099511627776) && l.all fun x => decide (x.f3.size ≤ 1000000) && decide (x.f4.size ≤ 1000000) && decide (x.f2 ≤ 9223372036854775807) && decide (-9223372036854775808 ≤ x.f1) && decide (x.f1 ≤ 9223372036854775807)
theorem fit_len {l : List Nd} (h : fit l = true) : l.length ≤ 1099511627776:=by
 unfold fit at h
 simp only [Bool.and_eq_true,decide_eq_true_eq] at h
 exact h.1
theorem fit_at {l : List Nd} (h : fit l = true) {x : Nd} (hx : x ∈ l) : x.f3.size ≤ 1000000 ∧ x.f4.size ≤ 1000000 ∧ x.f2 ≤ 9223372036854775807 ∧ -9223372036854775808 ≤ x.f1 ∧ x.f1 ≤ 9223372036854775807:=by
 unfold fit at h
 simp only [Bool.and_eq_true,decide_eq_true_eq,List.all_eq_true] at h
 obtain ⟨⟨⟨⟨a,b⟩,c⟩,d⟩,e⟩:=h.2 x hx
 exact ⟨a,b,c,d,e⟩
theorem rd_cast (l : List Nd) (p : Nat) (x : Nd) (r : List Nd) (h : l.drop p = x :: r) : rd_T46 l (p : Int) = x ∧ p < l.length ∧ l.drop (p + 1) = r ∧ x ∈ l:=by
 have hp : p < l.length:=by
  have:=congrArg List.length h
  simp at this
  omega
 have e:=List.drop_eq_getElem_cons hp
 rw [h] at e
 injection e with e1 e2
 refine ⟨?_,hp,e2.symm,?_⟩
 ·unfold rd_T46
  rw [Int.toNat_natCast,List.getD_eq_getElem?_getD,List.getElem?_eq_getElem hp]
  exact e1.symm
 ·rw [e1]
  exact List.getElem_mem hp
def chk (o : Option (F × List Nd)) (p en : Nat) : Bool:=match o with
 | some (t,_) => decide (p + t.flat.length ≤ en)
 | none => false
def chks (o : Option (F × List Nd)) (p en : Nat) : Bool:=match o with
 | some (t,_) => decide (p + t.flat.length = en)
 | none => false
def ChkOk (l : List Nd) (d : Nat) : Prop:=∀ (deep : Nat) (keyed : Bool) (p en k : Nat),d + deep = 32 → p < en → en ≤ l.length → 3 * (l.length - p) + 4 ≤ k → jsontext_check.f k l (p : Int) (en : Int) keyed (deep : Int) = some (chk (dec d keyed (l.drop p)) p en)
theorem loop_law (l : List Nd) (hl : l.length ≤ 1099511627776) (d : Nat) (hd : ChkOk l d) (deep : Nat) (hdd : d + 1 + deep = 32) (f0 f1 f2 : Int) (f3 f4 : ByteArray) (at_ en : Nat) (hen : en ≤ l.length) (he1 : (en : Int) = (at_ : Int) + f1) (hN : f2 ≤ 9223372036854775807) :
  ∀ (n p : Nat) (i : Int) (k : Nat),0 ≤ i → i + n = f2 → p ≤ l.length → 3 * (l.length - p) + 5 ≤ k →
   jsontext_check.l0 k l (at_ : Int) (deep : Int) (p : Int) f2 i f0 f1 f2 f3 f4 = some (chks (kids (dec d (f0 == 7)) n (l.drop p)) p en)
 | 0,p,i,k,h0,hi,hp,hk => by
  obtain ⟨k,rfl⟩ : ∃ k',k = k' + 1:=⟨k - 1,by omega⟩
  rw [jsontext_check.l0,if_neg (by omega)]
  simp only [kids,chks,F.flat,List.length_nil,Nat.add_zero]
  rw [w64' (by omega) (by omega),← he1]
  congr 1
  by_cases h : p = en
  ·subst h
   simp
  ·refine (beq_false_of_ne (show (p : Int) ≠ (en : Int) by omega)).trans (Eq.symm ?_)
   exact decide_eq_false h
 | n + 1,p,i,k,h0,hi,hp,hk => by
  obtain ⟨k,rfl⟩ : ∃ k',k = k' + 1:=⟨k - 1,by omega⟩
  rw [jsontext_check.l0,if_pos (by omega),w64' (x:=(at_ : Int) + f1) (by omega) (by omega),← he1]
  by_cases hpe : (p : Int) ≥ (en : Int)
  ·rw [if_pos hpe]
   congr 1
   simp only [kids,chks]
   cases h1 : dec d (f0 == 7) (l.drop p) with
   | none => rfl
   | some x =>
    obtain ⟨t,r⟩:=x
    obtain ⟨a1,a2,a3⟩:=dec_ok _ _ _ _ _ h1
    have:=one_pos a2
    simp only
    cases h2 : kids (dec d (f0 == 7)) n r with
    | none => rfl
    | some y =>
     simp only [F.flat_app,List.length_append]
     exact (decide_eq_false (by omega)).symm
  ·rw [if_neg hpe,w64' (x:=(deep : Int) + 1) (by omega) (by omega)]
   have hc:=hd (deep + 1) (f0 == 7) p en k (by omega) (by omega) hen (by omega)
   rw [show ((deep : Int) + 1) = ((deep + 1 : Nat) : Int) by omega,hc]
   simp only [Option.bind_some,kids,chks,chk]
   cases h1 : dec d (f0 == 7) (l.drop p) with
   | none => simp
   | some x =>
    obtain ⟨t,r⟩:=x
    obtain ⟨a1,a2,a3⟩:=dec_ok _ _ _ _ _ h1
    have hpos:=one_pos a2
    obtain ⟨x0,tl0,hx0⟩ : ∃ x0 tl0,t.flat = x0 :: tl0:=by
     cases hf : t.flat with
     | nil => rw [hf] at hpos;simp at hpos
     | cons a b => exact ⟨a,b,rfl⟩
    obtain ⟨e1,e2,e3,e4⟩:=rd_cast l p x0 (tl0 ++ r) (by rw [a1,hx0];rfl)
    have hsz : x0.f1 = (t.flat.length : Nat):=by
     match t,a2,hx0 with
     | .leaf k1 d1 t1 .nil,_,hx0 =>
      simp only [F.flat,List.cons.injEq] at hx0
      rw [← hx0.1]
      rfl
     | .node k1 d1 ks1 .nil,_,hx0 =>
      simp only [F.flat,List.cons.injEq] at hx0
      rw [← hx0.1]
      simp [F.flat]
    simp only
    by_cases hle : p + t.flat.length ≤ en
    ·rw [if_pos (decide_eq_true hle),if_pos (by omega),if_pos (by omega),e1,hsz]
     have hlen : p + t.flat.length ≤ l.length:=by omega
     rw [w64' (by omega) (by omega),w64' (x:=i + 1) (by omega) (by omega)]
     have hr : r = l.drop (p + t.flat.length):=by
      rw [← List.drop_drop,a1]
      simp
     have:=loop_law l hl d hd deep hdd f0 f1 f2 f3 f4 at_ en hen he1 hN n (p + t.flat.length) (i + 1) k (by omega) (by omega) hlen (by omega)
     rw [show ((p : Int) + (t.flat.length : Nat)) = ((p + t.flat.length : Nat) : Int) by omega,this,← hr]
     simp only [chks]
     cases h2 : kids (dec d (f0 == 7)) n r with
     | none => rfl
     | some y =>
      simp only [F.flat_app,List.length_append,Nat.add_assoc]
    ·rw [if_neg (by simp;omega)]
     congr 1
     cases h2 : kids (dec d (f0 == 7)) n r with
     | none => rfl
     | some y =>
      simp only [F.flat_app,List.length_append]
      exact (decide_eq_false (by omega)).symm
theorem check_law (l : List Nd) (hl : fit l = true) : ∀ d,ChkOk l d
 | d,deep,keyed,p,en,k,hdd,hp,hen,hk => by
  have hlen:=fit_len hl
  obtain ⟨k,rfl⟩ : ∃ k',k = k' + 1:=⟨k - 1,by omega⟩
  obtain ⟨x,r,hx⟩ : ∃ x r,l.drop p = x :: r:=⟨_,_,List.drop_eq_getElem_cons (show p < l.length by omega)⟩
  obtain ⟨e1,e2,e3,e4⟩:=rd_cast l p x r hx
  obtain ⟨s3,s4,hn2,hs0,hs1⟩:=fit_at hl e4
  rw [jsontext_check.f,if_pos (by omega),if_pos (by omega),e1,wrong_law k x keyed deep (by omega) (by omega) (by omega)]
  simp only [Option.bind_some]
  match d,hdd with
  | 0,hdd =>
   obtain ⟨k,rfl⟩ : ∃ k',k = k' + 1:=⟨k - 1,by omega⟩
   rw [if_pos (by rw [decide_eq_false (by omega : ¬ (deep : Int) < 32)];simp),jsontext_check.j0,if_pos rfl]
   rfl
  | d + 1,hdd =>
   obtain ⟨k,rfl⟩ : ∃ k',k = k' + 1:=⟨k - 1,by omega⟩
   have hdec : dec (d + 1) keyed (x :: r) = if okN x keyed then match kids (dec d (x.f0 == 7)) x.f2.toNat r with
    | none => none
    | some (ks,r') => if x.f1 = ((r.length - r'.length + 1 : Nat) : Int) then some (if x.f0 < 6 then .leaf x.f3.data.toList x.f0 x.f4.data.toList .nil else .node x.f3.data.toList x.f0 ks .nil,r') else none
    else none:=rfl
   rw [hx,decide_eq_true (by omega : (deep : Int) < 32),Bool.and_true]
   by_cases hok : okN x keyed = true
   ·by_cases hs : 1 ≤ x.f1
    ·rw [hok,decide_eq_true hs,if_neg (by simp),jsontext_check.j0,w64' (x:=(en : Int) - (p : Int)) (by omega) (by omega)]
     by_cases hov : x.f1 > (en : Int) - (p : Int)
     ·rw [if_pos (decide_eq_true hov),hdec,if_pos hok]
      congr 1
      cases hk2 : kids (dec d (x.f0 == 7)) x.f2.toNat r with
      | none => rfl
      | some y =>
       obtain ⟨ks,r'⟩:=y
       simp only
       split
       ·rename_i hsz
        have hfl:=(dec_ok (d + 1) keyed (x :: r) _ r' (by rw [hdec,if_pos hok,hk2];simp only;rw [if_pos hsz])).1
        simp only [chk]
        have:=congrArg List.length hfl
        simp at this
        have h6:=(kids_ok (dec_ok d (x.f0 == 7)) _ _ _ _ hk2).1
        have h7:=congrArg List.length h6
        simp at h7
        exact (decide_eq_false (by omega)).symm
       ·rfl
     ·rw [if_neg (by simp;omega),w64' (x:=(p : Int) + 1) (by omega) (by omega)]
      obtain ⟨S,hS⟩ : ∃ S : Nat,x.f1 = (S : Int):=⟨x.f1.toNat,by omega⟩
      have h0 : 0 ≤ x.f2:=by
       simp only [okN,Bool.and_eq_true,decide_eq_true_eq] at hok
       omega
      have hll:=loop_law l hlen d (check_law l hl d) deep (by omega) x.f0 x.f1 x.f2 x.f3 x.f4 p (p + S) (by omega) (by omega) hn2 x.f2.toNat (p + 1) 0 k (by omega) (by omega) (by omega) (by omega)
      rw [show ((p : Int) + 1) = ((p + 1 : Nat) : Int) by omega,hll,e3,hdec,if_pos hok]
      congr 1
      cases hk2 : kids (dec d (x.f0 == 7)) x.f2.toNat r with
      | none => rfl
      | some y =>
       obtain ⟨ks,r'⟩:=y
       have h6:=(kids_ok (dec_ok d (x.f0 == 7)) _ _ _ _ hk2).1
       have h7:=congrArg List.length h6
       simp at h7
       simp only [chks]
       by_cases hsz : x.f1 = ((r.length - r'.length + 1 : Nat) : Int)
       ·rw [if_pos hsz]
        have hfl:=(dec_ok (d + 1) keyed (x :: r) _ r' (by rw [hdec,if_pos hok,hk2];simp only;rw [if_pos hsz])).1
        simp only [chk]
        have h8:=congrArg List.length hfl
        simp at h8
        rw [decide_eq_true (by omega),decide_eq_true (by omega)]
       ·rw [if_neg hsz]
        exact decide_eq_false (by omega)
    ·have hs2 : decide (1 ≤ x.f1) = false:=decide_eq_false hs
     rw [hs2,if_pos (by simp),jsontext_check.j0,if_pos rfl,hdec,if_pos hok]
     congr 1
     cases hk2 : kids (dec d (x.f0 == 7)) x.f2.toNat r with
     | none => rfl
     | some y =>
      simp only
      rw [if_neg (by omega)]
      rfl
   ·have hf : okN x keyed = false:=by simpa using hok
    rw [hf,if_pos (by simp),jsontext_check.j0,if_pos rfl,hdec,if_neg hok]
    rfl
theorem dec_size (d : Nat) (keyed : Bool) (x : Nd) (r : List Nd) (t : F) (r' : List Nd) (h : dec d keyed (x :: r) = some (t,r')) : x.f1 = (t.flat.length : Nat):=by
 obtain ⟨a1,a2,a3⟩:=dec_ok _ _ _ _ _ h
 match t,a2,a1 with
 | .leaf k1 d1 t1 .nil,_,hx0 =>
  simp only [F.flat,List.cons_append,List.cons.injEq] at hx0
  rw [hx0.1]
  rfl
 | .node k1 d1 ks1 .nil,_,hx0 =>
  simp only [F.flat,List.cons_append,List.cons.injEq] at hx0
  rw [hx0.1]
  simp [F.flat]
theorem Check_law (l : List Nd) (hl : fit l = true) (k : Nat) (hk : 3 * l.length + 4 ≤ k) : jsontext_Check.f k l = some (if (tree? l).isSome then 0 else 2):=by
 rw [jsontext_Check.f]
 cases l with
 | nil => rfl
 | cons x r =>
  have hl2:=fit_len hl
  rw [if_neg (by simp;omega),if_pos (by simp)]
  have e0 : rd_T46 (x :: r) 0 = x:=rfl
  rw [e0]
  have hc:=check_law (x :: r) hl 32 0 false 0 (x :: r).length k rfl (by simp) (Nat.le_refl _) (by omega)
  rw [show jsontext_check.f k (x :: r) 0 ((x :: r).length : Int) false 0 = _ from hc]
  simp only [List.drop_zero,Option.bind_some]
  cases hd : dec 32 false (x :: r) with
  | none =>
   have ht : tree? (x :: r) = none:=by unfold tree?;rw [hd]
   rw [ht]
   simp [chk]
  | some y =>
   obtain ⟨t,r'⟩:=y
   have hs:=dec_size _ _ _ _ _ _ hd
   have hf:=congrArg List.length (dec_ok _ _ _ _ _ hd).1
   simp only [List.length_append] at hf
   have hch : chk (some (t,r')) 0 (x :: r).length = true:=decide_eq_true (by omega)
   rw [hch]
   cases r' with
   | nil =>
    have ht : tree? (x :: r) = some t:=by unfold tree?;rw [hd]
    rw [if_pos (by simp at hf ⊢;omega),if_pos rfl,ht]
    rfl
   | cons a b =>
    have ht : tree? (x :: r) = none:=by unfold tree?;rw [hd]
    rw [if_neg (by simp at hf ⊢;omega),ht]
    rfl
end Go.Proofs.YtadfkeipcebmfaaDoor.X
namespace Go.Proofs.YtadfkeipcebmfaaDoor.X
open Go.RowKit Go.Proofs.YtadfkeipcebmfaaDoorW.PrintWords
set_option linter.unusedVariables false
set_option linter.unusedSimpArgs false
def jsontext_Print.f (l : List (S46)) : Option (ByteArray × Int) :=
 if fit l then match tree? l with
  | some t => if t.txt.length ≤ 17592186044416 then some (str t.txt,0) else none
  | none => some (⟨#[]⟩,2)
 else none
theorem write_root {t : F} (h : WriteOk t) (B b : Nat) (ad : Addr) (cp N : Nat) (l : List Nd) (w0 w : World) (hN : N = l.length) (hl : l = t.flat) (hcp : N ≤ cp) (hlen : N ≤ 1099511627776) (hbig : t.txt.length ≤ 17592186044416)
  (hC : Kd.C kN w0 (some ad) N l) (hB : w0.heap.size ≤ B) (hbel : Below w0.heap.size w0 w) (hbld : Bld B b [] w) :
  Calls Tryd.prog 37 #[.pointer (some ⟨b,0,none⟩),.slice (some ad) N cp,.int .i64 0] w fun e w' => (∃ x,e = .returned x) ∧ Bld B b t.txt w' ∧ Below B w w':=by
 have:=h.use B b ad cp N l [] [] [] w0 w hN (by rw [hl];simp) hcp hlen (by simpa [F.txt] using hbig) hC hB hbel hbld
 refine Calls.mono this ?_
 rintro e w' ⟨rfl,h2,h3,_⟩
 exact ⟨⟨_,rfl⟩,by simpa [F.txt] using h2,h3⟩
set_option maxHeartbeats 1000000 in
set_option maxRecDepth 100000 in
theorem jsontext_Print.calls (A0 : Option Addr) (c0 : Nat) (l0 : List (S46)) (r1 : ByteArray) (r2 : Int) (w : World) (hGU8 : GlobU8 w) (hr0 : Kd.C k46 w A0 l0.length l0) (hc0 : l0.length ≤ c0) (h : jsontext_Print.f l0 = some (r1,r2)) :
  Calls Tryd.prog 15 #[.slice A0 l0.length c0] w fun e w' => e = .returned (.tuple #[.string r1,.int .i64 r2]) ∧ Below w.heap.size w w':=by
 unfold jsontext_Print.f at h
 split at h
 ·rename_i hfit
  have hck:=Check_law l0 hfit (3 * l0.length + 4) (Nat.le_refl _)
  have HG:=Lib.hid hGU8
  have HR:=Lib.hid hr0
  have HC:=Lib.hid hc0
  cases ht : tree? l0 with
  | none =>
   rw [ht] at h hck
   simp only [Option.some.injEq,Prod.mk.injEq] at h
   obtain ⟨rfl,rfl⟩:=h
   have HCK : Hid (jsontext_Check.f (3 * l0.length + 4) l0 = some 2):=Lib.hid hck
   clear hck hfit ht hGU8 hr0 hc0
   go_enter Tryd.func15,Tryd.ntmps15
   go_wp2_with (go_at_call 16;refine (jsontext_Check.calls _ A0 c0 l0 2 _ HG.out HR.out HC.out HCK.out).mono ?_;rintro e w1 ⟨rfl,hb1⟩;have HB1:=Lib.hid hb1;clear hb1)
   go_ret2
   exact ⟨rfl,HB1.out⟩
  | some t =>
   rw [ht] at h hck
   simp only at h
   split at h
   ·rename_i hbig
    simp only [Option.some.injEq,Prod.mk.injEq] at h
    obtain ⟨rfl,rfl⟩:=h
    obtain ⟨e1,e2,e3⟩:=tree_flat ht
    have hlen:=fit_len hfit
    have hw:=write_all t e3 t (by
     match t,e2 with
     | .leaf _ _ _ .nil,_ => simp [F.trees]
     | .node _ _ _ .nil,_ => simp [F.trees])
    have HCK : Hid (jsontext_Check.f (3 * l0.length + 4) l0 = some 0):=Lib.hid hck
    have HW:=Lib.hid hw
    have HE:=Lib.hid e1
    have HLEN:=Lib.hid hlen
    have HBIG:=Lib.hid hbig
    obtain ⟨ad,rfl⟩ : ∃ ad,A0 = some ad:=by
     have hp:=one_pos e2
     obtain ⟨ad,e,_⟩:=at_T46 hr0 0 (Int.le_refl _) (by rw [e1];omega)
     exact ⟨ad,e⟩
    clear hck hfit ht hGU8 hr0 hc0 hw e1 e2 e3 hlen hbig
    generalize hN : l0.length = N
    have HN:=Lib.hid hN.symm
    have HR2 : Hid (Kd.C kN w (some ad) N l0):=Lib.hid (hN ▸ HR.out)
    have HC2 : Hid (N ≤ c0):=Lib.hid (hN ▸ HC.out)
    clear hN
    have hcall:=jsontext_Check.calls _ (some ad) c0 l0 0 w HG.out HR.out HC.out HCK.out
    rw [← HN.out] at hcall
    have HCALL:=Lib.hid hcall
    clear hcall
    go_enter Tryd.func15,Tryd.ntmps15
    go_upto_region 5 with (go_at_call 16;refine HCALL.out.mono ?_;rintro e w1 ⟨rfl,hb1⟩;have HB1:=Lib.hid hb1;clear hb1)
    have HBN : Hid (Bld w1.heap.size w1.heap.size [] (w1.alloc (.cells #[.pointer none,.slice none 0 0] 72 (0,0)))):=Lib.hid (bld_new w1 _ rfl)
    have HBA : Hid (Below w1.heap.size w1 (w1.alloc (.cells #[.pointer none,.slice none 0 0] 72 (0,0)))):=Lib.hid ((Below.refl _ _).alloc (Nat.le_refl _) _)
    have HLN : Hid (N ≤ 1099511627776):=Lib.hid (by rw [HN.out];exact HLEN.out)
    have HBW : Hid (Below w.heap.size w (w1.alloc (.cells #[.pointer none,.slice none 0 0] 72 (0,0)))):=Lib.hid (HB1.out.trans (HBA.out.mono HB1.out.size))
    go_wp2_with (first
     | (go_at_call 37;refine (write_root HW.out w1.heap.size w1.heap.size ad c0 N l0 w _ HN.out HE.out HC2.out HLN.out HBIG.out HR2.out HB1.out.size HBW.out HBN.out).mono ?_;rintro e w2 ⟨⟨x,rfl⟩,hb2,hbel2⟩;have HB2 : Hid (Bld w1.heap.size w1.heap.size t.txt w2):=Lib.hid hb2;have HBEL2:=Lib.hid hbel2;clear hb2 hbel2)
     | (go_at_call 38;refine (Tryd.Builder_String_any w1.heap.size w1.heap.size t.txt _ HB2.out HB2.out.lt).mono ?_;rintro e w4 ⟨rfl,hb4⟩;have HB4:=Lib.hid hb4;clear hb4))
    go_ret2
    exact ⟨rfl,HB1.out.trans ((HBA.out.trans (HBEL2.out.trans HB4.out)).mono HB1.out.size)⟩
   ·cases h
 ·cases h
end Go.Proofs.YtadfkeipcebmfaaDoor.X
namespace Go.Proofs.YtadfkeipcebmfaaDoor.X
open Go.RowKit Go.Proofs.YtadfkeipcebmfaaDoorW.PrintWords Go.Proofs.YtadfkeipcebmfaaDoorW.PrintLast Go.Proofs.YtadfkeipcebmfaaDoorW.PrintMore
attribute [local go_sem] max2_int min2_int max_two min_two max_three min_three max_four min_four
set_option linter.unusedVariables false
set_option linter.unusedSimpArgs false
def racewaylaw25_works.f  : Option (Bool):=(jsontext_Parse.f (⟨#[123,34,97,34,58,91,49,44,116,114,117,101,93,125]⟩ : ByteArray)).bind fun bt112 => ((jsontext_Print.f bt112.1).bind fun bt117 => ((jsontext_Parse.f (⟨#[91,49,44,93]⟩ : ByteArray)).bind fun bt119 => (if (bt112.1.length : Int) = 4 then (if bt112.2.1 = 0 then (if bt112.2.2 = 0 then (if 1 < (bt112.1.length : Int) then (if ((rd_T46 bt112.1 1).f3).toList = ([97] : List UInt8) then (if 2 < (bt112.1.length : Int) then (if ((rd_T46 bt112.1 2).f4).toList = ([49] : List UInt8) then (if bt117.1.toList = ([123,34,97,34,58,91,49,44,116,114,117,101,93,125] : List UInt8) then (if bt117.2 = 0 then (if bt119.2.1 = 3 then (some (bt119.2.2 == 5)) else (some false)) else (some false)) else (some false)) else (some false)) else (none)) else (some false)) else (none)) else (some false)) else (some false)) else (some false))))
set_option maxHeartbeats 8000000 in
set_option maxRecDepth 100000 in
theorem racewaylaw25_works.calls  (r : Bool) (w : World) (hGU8 : GlobU8 w) (h : racewaylaw25_works.f  = some r) :
  Calls Tryd.prog 13 #[] w fun e w' => e = .returned (.bool r) ∧ Below w.heap.size w w':=by
 have HGU8:=Aside0.mk hGU8
 clear hGU8
 have HB:=Aside0.mk (Below.refl w.heap.size w)
 have H : ((jsontext_Parse.f (⟨#[123,34,97,34,58,91,49,44,116,114,117,101,93,125]⟩ : ByteArray)).bind fun bt112 => ((jsontext_Print.f bt112.1).bind fun bt117 => ((jsontext_Parse.f (⟨#[91,49,44,93]⟩ : ByteArray)).bind fun bt119 => (if (bt112.1.length : Int) = 4 then (if bt112.2.1 = 0 then (if bt112.2.2 = 0 then (if 1 < (bt112.1.length : Int) then (if ((rd_T46 bt112.1 1).f3).toList = ([97] : List UInt8) then (if 2 < (bt112.1.length : Int) then (if ((rd_T46 bt112.1 2).f4).toList = ([49] : List UInt8) then (if bt117.1.toList = ([123,34,97,34,58,91,49,44,116,114,117,101,93,125] : List UInt8) then (if bt117.2 = 0 then (if bt119.2.1 = 3 then (some (bt119.2.2 == 5)) else (some false)) else (some false)) else (some false)) else (some false)) else (none)) else (some false)) else (none)) else (some false)) else (some false)) else (some false))))) = some r:=h
 clear h
 replace H:=Option.bind_eq_some_iff.mp H
 obtain ⟨⟨t112,t113,t114⟩,A10,H⟩:=H
 replace H : ((jsontext_Print.f t112).bind fun bt117 => ((jsontext_Parse.f (⟨#[91,49,44,93]⟩ : ByteArray)).bind fun bt119 => (if (t112.length : Int) = 4 then (if t113 = 0 then (if t114 = 0 then (if 1 < (t112.length : Int) then (if ((rd_T46 t112 1).f3).toList = ([97] : List UInt8) then (if 2 < (t112.length : Int) then (if ((rd_T46 t112 2).f4).toList = ([49] : List UInt8) then (if bt117.1.toList = ([123,34,97,34,58,91,49,44,116,114,117,101,93,125] : List UInt8) then (if bt117.2 = 0 then (if bt119.2.1 = 3 then (some (bt119.2.2 == 5)) else (some false)) else (some false)) else (some false)) else (some false)) else (none)) else (some false)) else (none)) else (some false)) else (some false)) else (some false)))) = some r:=H
 have A1:=Aside0.mk A10
 clear A10
 replace H:=Option.bind_eq_some_iff.mp H
 obtain ⟨⟨t117,t118⟩,A20,H⟩:=H
 replace H : ((jsontext_Parse.f (⟨#[91,49,44,93]⟩ : ByteArray)).bind fun bt119 => (if (t112.length : Int) = 4 then (if t113 = 0 then (if t114 = 0 then (if 1 < (t112.length : Int) then (if ((rd_T46 t112 1).f3).toList = ([97] : List UInt8) then (if 2 < (t112.length : Int) then (if ((rd_T46 t112 2).f4).toList = ([49] : List UInt8) then (if t117.toList = ([123,34,97,34,58,91,49,44,116,114,117,101,93,125] : List UInt8) then (if t118 = 0 then (if bt119.2.1 = 3 then (some (bt119.2.2 == 5)) else (some false)) else (some false)) else (some false)) else (some false)) else (none)) else (some false)) else (none)) else (some false)) else (some false)) else (some false))) = some r:=H
 have A2:=Aside0.mk A20
 clear A20
 replace H:=Option.bind_eq_some_iff.mp H
 obtain ⟨⟨t119,t120,t121⟩,A30,H⟩:=H
 replace H : (if (t112.length : Int) = 4 then (if t113 = 0 then (if t114 = 0 then (if 1 < (t112.length : Int) then (if ((rd_T46 t112 1).f3).toList = ([97] : List UInt8) then (if 2 < (t112.length : Int) then (if ((rd_T46 t112 2).f4).toList = ([49] : List UInt8) then (if t117.toList = ([123,34,97,34,58,91,49,44,116,114,117,101,93,125] : List UInt8) then (if t118 = 0 then (if t120 = 3 then (some (t121 == 5)) else (some false)) else (some false)) else (some false)) else (some false)) else (none)) else (some false)) else (none)) else (some false)) else (some false)) else (some false)) = some r:=H
 have A3:=Aside0.mk A30
 clear A30
 by_cases c4 : (t112.length : Int) = 4
 ·rw [if_pos c4] at H
  have c4b0 : ((t112.length : Int) == 4) = true:=beq_iff_eq.mpr c4
  have c4b1 : ((t112.length : Int) != 4) = false:=bne_eq_false_iff_eq.mpr c4
  clear c4
  by_cases c5 : t113 = 0
  ·rw [if_pos c5] at H
   have c5b0 : (t113 == 0) = true:=beq_iff_eq.mpr c5
   have c5b1 : (t113 != 0) = false:=bne_eq_false_iff_eq.mpr c5
   clear c5
   by_cases c6 : t114 = 0
   ·rw [if_pos c6] at H
    have c6b0 : (t114 == 0) = true:=beq_iff_eq.mpr c6
    have c6b1 : (t114 != 0) = false:=bne_eq_false_iff_eq.mpr c6
    clear c6
    by_cases c7 : 1 < (t112.length : Int)
    ·rw [if_pos c7] at H
     have c7b0 : decide (1 < (t112.length : Int)) = true:=decide_eq_true c7
     have c7b1 : decide (1 < t112.length) = true:=decide_eq_true (by omega)
     clear c7
     by_cases c8 : ((rd_T46 t112 1).f3).toList = ([97] : List UInt8)
     ·rw [if_pos c8] at H
      have c8b0 : (((rd_T46 t112 1).f3).toList == ([97] : List UInt8)) = true:=beq_iff_eq.mpr c8
      have c8b1 : (((rd_T46 t112 1).f3).toList != ([97] : List UInt8)) = false:=bne_eq_false_iff_eq.mpr c8
      clear c8
      by_cases c9 : 2 < (t112.length : Int)
      ·rw [if_pos c9] at H
       have c9b0 : decide (2 < (t112.length : Int)) = true:=decide_eq_true c9
       have c9b1 : decide (2 < t112.length) = true:=decide_eq_true (by omega)
       clear c9
       by_cases c10 : ((rd_T46 t112 2).f4).toList = ([49] : List UInt8)
       ·rw [if_pos c10] at H
        have c10b0 : (((rd_T46 t112 2).f4).toList == ([49] : List UInt8)) = true:=beq_iff_eq.mpr c10
        have c10b1 : (((rd_T46 t112 2).f4).toList != ([49] : List UInt8)) = false:=bne_eq_false_iff_eq.mpr c10
        clear c10
        by_cases c11 : t117.toList = ([123,34,97,34,58,91,49,44,116,114,117,101,93,125] : List UInt8)
        ·rw [if_pos c11] at H
         have c11b0 : (t117.toList == ([123,34,97,34,58,91,49,44,116,114,117,101,93,125] : List UInt8)) = true:=beq_iff_eq.mpr c11
         have c11b1 : (t117.toList != ([123,34,97,34,58,91,49,44,116,114,117,101,93,125] : List UInt8)) = false:=bne_eq_false_iff_eq.mpr c11
         clear c11
         by_cases c12 : t118 = 0
         ·rw [if_pos c12] at H
          have c12b0 : (t118 == 0) = true:=beq_iff_eq.mpr c12
          have c12b1 : (t118 != 0) = false:=bne_eq_false_iff_eq.mpr c12
          clear c12
          by_cases c13 : t120 = 3
          ·rw [if_pos c13] at H
           have c13b0 : (t120 == 3) = true:=beq_iff_eq.mpr c13
           have c13b1 : (t120 != 3) = false:=bne_eq_false_iff_eq.mpr c13
           clear c13
           obtain rfl:=Option.some.inj H
           go_enter Tryd.func13,Tryd.ntmps13
           go_wp2_with (first|((with_reducible refine gate_callee (f:=10) rfl ?_);refine goesL_ (some 10) rfl rfl Tryd.func10 (by kernel_rfl) rfl #[.string (⟨#[123,34,97,34,58,91,49,44,116,114,117,101,93,125]⟩ : ByteArray)] rfl (by (try simp only [List.map_toArray,List.map_cons,List.map_nil]);first|done|rfl|(simp only [List.length_drop,List.length_take];rfl)) ?_;(with_reducible refine (jsontext_Parse.calls (⟨#[123,34,97,34,58,91,49,44,116,114,117,101,93,125]⟩ : ByteArray) t112 t113 t114 _ ?side1 A1.out).mono ?_);(case side1 => first|exact HGU8.out|exact GlobU8.below HGU8.out (by repeat (first|(with_reducible first|exact HB.out|apply below_alloc|apply pw_below_drewN|apply below_drew1)|exact HB.out))|exact GlobU8.drawn HGU8.out (by repeat (first|exact Drawn0.refl _|apply Drawn0.step)));rintro e w14 ⟨v115,rfl,ho0,hb⟩;refine ⟨_,rfl,?_⟩;have n0_:=Aside0.mk (Kd.R_lower ho0 (below_size (by repeat (first|(with_reducible first|exact HB.out|apply below_alloc|apply pw_below_drewN|apply below_drew1)|exact HB.out))));have n1_:=Aside0.mk (below_step (by repeat (first|(with_reducible first|exact HB.out|apply below_alloc|apply pw_below_drewN|apply below_drew1)|exact HB.out)) hb);clear HB;have HO116:=n0_;have HB:=n1_;clear n0_ n1_;(try clear hb);(try clear hb2);(try clear hk);(try clear hi);(try clear ho0);obtain ⟨Ao15,co15,eo15⟩:=Kd.R_slice HO116.out;subst eo15)|((with_reducible refine gate_callee (f:=15) rfl ?_);refine goesL_ (some 16) rfl rfl Tryd.func15 (by kernel_rfl) rfl #[.slice Ao15 t112.length co15] rfl (by (try simp only [List.map_toArray,List.map_cons,List.map_nil]);first|done|rfl|(simp only [List.length_drop,List.length_take];rfl)) ?_;(with_reducible refine (jsontext_Print.calls _ _ t112 t117 t118 _ ?side3 ?side1 ?side2 A2.out).mono ?_);(case side1 => repeat (first|exact (Kd.R_reads' HO116.out).2.2|(with_reducible refine Kd.C_alloc ?_ _)|(with_reducible refine Kd.C_drewN ?_ _)|(with_reducible refine Kd.C_drew ?_)));(case side2 => exact (Kd.R_reads' HO116.out).2.1);(case side3 => first|exact HGU8.out|exact GlobU8.below HGU8.out (by repeat (first|(with_reducible first|exact HB.out|apply below_alloc|apply pw_below_drewN|apply below_drew1)|exact HB.out))|exact GlobU8.drawn HGU8.out (by repeat (first|exact Drawn0.refl _|apply Drawn0.step)));rintro e w16 ⟨rfl,hb⟩;refine ⟨_,rfl,?_⟩;have n0_:=Aside0.mk (Kd.R_below (by (with_reducible repeat (first|apply Kd.R_alloc|apply Kd.R_drewN|apply Kd.R_drew));exact HO116.out) hb);have n1_:=Aside0.mk (below_step (by repeat (first|(with_reducible first|exact HB.out|apply below_alloc|apply pw_below_drewN|apply below_drew1)|exact HB.out)) hb);clear HO116;clear HB;have HO116:=n0_;have HB:=n1_;clear n0_ n1_;(try clear hb);(try clear hb2);(try clear hk);(try clear hi))|((with_reducible refine gate_callee (f:=10) rfl ?_);refine goesL_ (some 20) rfl rfl Tryd.func10 (by kernel_rfl) rfl #[.string (⟨#[91,49,44,93]⟩ : ByteArray)] rfl (by (try simp only [List.map_toArray,List.map_cons,List.map_nil]);first|done|rfl|(simp only [List.length_drop,List.length_take];rfl)) ?_;(with_reducible refine (jsontext_Parse.calls (⟨#[91,49,44,93]⟩ : ByteArray) t119 t120 t121 _ ?side1 A3.out).mono ?_);(case side1 => first|exact HGU8.out|exact GlobU8.below HGU8.out (by repeat (first|(with_reducible first|exact HB.out|apply below_alloc|apply pw_below_drewN|apply below_drew1)|exact HB.out))|exact GlobU8.drawn HGU8.out (by repeat (first|exact Drawn0.refl _|apply Drawn0.step)));rintro e w17 ⟨v122,rfl,ho0,hb⟩;refine ⟨_,rfl,?_⟩;have n0_:=Aside0.mk (Kd.R_elder' (by (with_reducible repeat (first|apply Kd.R_alloc|apply Kd.R_drewN|apply Kd.R_drew));exact HO116.out) (Kd.R_base ho0) hb);have n1_:=Aside0.mk (Kd.R_lower (Kd.R_new' ho0 (Kd.R_lt (by (with_reducible repeat (first|apply Kd.R_alloc|apply Kd.R_drewN|apply Kd.R_drew));exact HO116.out))) (below_size (by repeat (first|(with_reducible first|exact HB.out|apply below_alloc|apply pw_below_drewN|apply below_drew1)|exact HB.out))));have n2_:=Aside0.mk (below_step (by repeat (first|(with_reducible first|exact HB.out|apply below_alloc|apply pw_below_drewN|apply below_drew1)|exact HB.out)) hb);clear HO116;clear HB;have HO116:=n0_;have HO123:=n1_;have HB:=n2_;clear n0_ n1_ n2_;(try clear hb);(try clear hb2);(try clear hk);(try clear hi);(try clear ho0);have p124 : 0 ≤ (1 : Int):=(by omega);have q124 : 1 < (t112.length : Int):=of_decide_eq_true (by first|(with_reducible assumption)|assumption);obtain ⟨ad124,e124,hx124_0,hx124_1,hx124_2,hx124_3,hx124_4⟩:=at_T46 (Kd.R_reads' HO116.out).2.2 1 p124 q124;cases e124;(try simp only [show (1 : Int).toNat = 1 from rfl,Nat.reduceMul,Nat.reduceEqDiff,Go.Addr.add,↓reduceIte] at hx124_0);(try simp only [show (1 : Int).toNat = 1 from rfl,Nat.reduceMul,Nat.reduceEqDiff,Go.Addr.add,↓reduceIte] at hx124_1);(try simp only [show (1 : Int).toNat = 1 from rfl,Nat.reduceMul,Nat.reduceEqDiff,Go.Addr.add,↓reduceIte] at hx124_2);(try simp only [show (1 : Int).toNat = 1 from rfl,Nat.reduceMul,Nat.reduceEqDiff,Go.Addr.add,↓reduceIte] at hx124_3);(try simp only [show (1 : Int).toNat = 1 from rfl,Nat.reduceMul,Nat.reduceEqDiff,Go.Addr.add,↓reduceIte] at hx124_4);have qi124 : (1 < t112.length) = True:=eq_true (by omega);(try rw [show ((1 : Int)).toNat = 1 from rfl] at hx124_0);(try rw [show 1 * 5 = 5 from rfl] at hx124_0);(try rw [show ((1 : Int)).toNat = 1 from rfl] at hx124_1);(try rw [show 1 * 5 = 5 from rfl] at hx124_1);(try rw [show ((1 : Int)).toNat = 1 from rfl] at hx124_2);(try rw [show 1 * 5 = 5 from rfl] at hx124_2);(try rw [show ((1 : Int)).toNat = 1 from rfl] at hx124_3);(try rw [show 1 * 5 = 5 from rfl] at hx124_3);(try rw [show ((1 : Int)).toNat = 1 from rfl] at hx124_4);(try rw [show 1 * 5 = 5 from rfl] at hx124_4);replace p124:=eq_true p124;replace q124:=eq_true q124;have p125 : 0 ≤ (2 : Int):=(by omega);have q125 : 2 < (t112.length : Int):=of_decide_eq_true (by first|(with_reducible assumption)|assumption);obtain ⟨ad125,e125,hx125_0,hx125_1,hx125_2,hx125_3,hx125_4⟩:=at_T46 (Kd.R_reads' HO116.out).2.2 2 p125 q125;obtain rfl : ad124 = ad125:=(by injection e125);(try simp only [show (2 : Int).toNat = 2 from rfl,Nat.reduceMul,Nat.reduceEqDiff,Go.Addr.add,↓reduceIte] at hx125_0);(try simp only [show (2 : Int).toNat = 2 from rfl,Nat.reduceMul,Nat.reduceEqDiff,Go.Addr.add,↓reduceIte] at hx125_1);(try simp only [show (2 : Int).toNat = 2 from rfl,Nat.reduceMul,Nat.reduceEqDiff,Go.Addr.add,↓reduceIte] at hx125_2);(try simp only [show (2 : Int).toNat = 2 from rfl,Nat.reduceMul,Nat.reduceEqDiff,Go.Addr.add,↓reduceIte] at hx125_3);(try simp only [show (2 : Int).toNat = 2 from rfl,Nat.reduceMul,Nat.reduceEqDiff,Go.Addr.add,↓reduceIte] at hx125_4);have qi125 : (2 < t112.length) = True:=eq_true (by omega);(try rw [show ((2 : Int)).toNat = 2 from rfl] at hx125_0);(try rw [show 2 * 5 = 10 from rfl] at hx125_0);(try rw [show ((2 : Int)).toNat = 2 from rfl] at hx125_1);(try rw [show 2 * 5 = 10 from rfl] at hx125_1);(try rw [show ((2 : Int)).toNat = 2 from rfl] at hx125_2);(try rw [show 2 * 5 = 10 from rfl] at hx125_2);(try rw [show ((2 : Int)).toNat = 2 from rfl] at hx125_3);(try rw [show 2 * 5 = 10 from rfl] at hx125_3);(try rw [show ((2 : Int)).toNat = 2 from rfl] at hx125_4);(try rw [show 2 * 5 = 10 from rfl] at hx125_4);replace p125:=eq_true p125;replace q125:=eq_true q125))
           go_ret
           exact ⟨by first|rfl|(simp [errW_none,errW_some] <;> rfl)|(simp [*,errW_none,errW_some] <;> rfl),by repeat (first|(with_reducible first|exact HB.out|apply below_alloc|apply pw_below_drewN|apply below_drew1)|exact HB.out)⟩
          ·rw [if_neg c13] at H
           have c13b0 : (t120 == 3) = false:=beq_eq_false_iff_ne.mpr c13
           have c13b1 : (t120 != 3) = true:=bne_iff_ne.mpr c13
           obtain rfl:=Option.some.inj H
           go_enter Tryd.func13,Tryd.ntmps13
           go_wp2_with (first|((with_reducible refine gate_callee (f:=10) rfl ?_);refine goesL_ (some 10) rfl rfl Tryd.func10 (by kernel_rfl) rfl #[.string (⟨#[123,34,97,34,58,91,49,44,116,114,117,101,93,125]⟩ : ByteArray)] rfl (by (try simp only [List.map_toArray,List.map_cons,List.map_nil]);first|done|rfl|(simp only [List.length_drop,List.length_take];rfl)) ?_;(with_reducible refine (jsontext_Parse.calls (⟨#[123,34,97,34,58,91,49,44,116,114,117,101,93,125]⟩ : ByteArray) t112 t113 t114 _ ?side1 A1.out).mono ?_);(case side1 => first|exact HGU8.out|exact GlobU8.below HGU8.out (by repeat (first|(with_reducible first|exact HB.out|apply below_alloc|apply pw_below_drewN|apply below_drew1)|exact HB.out))|exact GlobU8.drawn HGU8.out (by repeat (first|exact Drawn0.refl _|apply Drawn0.step)));rintro e w18 ⟨v115,rfl,ho0,hb⟩;refine ⟨_,rfl,?_⟩;have n0_:=Aside0.mk (Kd.R_lower ho0 (below_size (by repeat (first|(with_reducible first|exact HB.out|apply below_alloc|apply pw_below_drewN|apply below_drew1)|exact HB.out))));have n1_:=Aside0.mk (below_step (by repeat (first|(with_reducible first|exact HB.out|apply below_alloc|apply pw_below_drewN|apply below_drew1)|exact HB.out)) hb);clear HB;have HO116:=n0_;have HB:=n1_;clear n0_ n1_;(try clear hb);(try clear hb2);(try clear hk);(try clear hi);(try clear ho0);obtain ⟨Ao19,co19,eo19⟩:=Kd.R_slice HO116.out;subst eo19)|((with_reducible refine gate_callee (f:=15) rfl ?_);refine goesL_ (some 16) rfl rfl Tryd.func15 (by kernel_rfl) rfl #[.slice Ao19 t112.length co19] rfl (by (try simp only [List.map_toArray,List.map_cons,List.map_nil]);first|done|rfl|(simp only [List.length_drop,List.length_take];rfl)) ?_;(with_reducible refine (jsontext_Print.calls _ _ t112 t117 t118 _ ?side3 ?side1 ?side2 A2.out).mono ?_);(case side1 => repeat (first|exact (Kd.R_reads' HO116.out).2.2|(with_reducible refine Kd.C_alloc ?_ _)|(with_reducible refine Kd.C_drewN ?_ _)|(with_reducible refine Kd.C_drew ?_)));(case side2 => exact (Kd.R_reads' HO116.out).2.1);(case side3 => first|exact HGU8.out|exact GlobU8.below HGU8.out (by repeat (first|(with_reducible first|exact HB.out|apply below_alloc|apply pw_below_drewN|apply below_drew1)|exact HB.out))|exact GlobU8.drawn HGU8.out (by repeat (first|exact Drawn0.refl _|apply Drawn0.step)));rintro e w20 ⟨rfl,hb⟩;refine ⟨_,rfl,?_⟩;have n0_:=Aside0.mk (Kd.R_below (by (with_reducible repeat (first|apply Kd.R_alloc|apply Kd.R_drewN|apply Kd.R_drew));exact HO116.out) hb);have n1_:=Aside0.mk (below_step (by repeat (first|(with_reducible first|exact HB.out|apply below_alloc|apply pw_below_drewN|apply below_drew1)|exact HB.out)) hb);clear HO116;clear HB;have HO116:=n0_;have HB:=n1_;clear n0_ n1_;(try clear hb);(try clear hb2);(try clear hk);(try clear hi))|((with_reducible refine gate_callee (f:=10) rfl ?_);refine goesL_ (some 20) rfl rfl Tryd.func10 (by kernel_rfl) rfl #[.string (⟨#[91,49,44,93]⟩ : ByteArray)] rfl (by (try simp only [List.map_toArray,List.map_cons,List.map_nil]);first|done|rfl|(simp only [List.length_drop,List.length_take];rfl)) ?_;(with_reducible refine (jsontext_Parse.calls (⟨#[91,49,44,93]⟩ : ByteArray) t119 t120 t121 _ ?side1 A3.out).mono ?_);(case side1 => first|exact HGU8.out|exact GlobU8.below HGU8.out (by repeat (first|(with_reducible first|exact HB.out|apply below_alloc|apply pw_below_drewN|apply below_drew1)|exact HB.out))|exact GlobU8.drawn HGU8.out (by repeat (first|exact Drawn0.refl _|apply Drawn0.step)));rintro e w21 ⟨v122,rfl,ho0,hb⟩;refine ⟨_,rfl,?_⟩;have n0_:=Aside0.mk (Kd.R_elder' (by (with_reducible repeat (first|apply Kd.R_alloc|apply Kd.R_drewN|apply Kd.R_drew));exact HO116.out) (Kd.R_base ho0) hb);have n1_:=Aside0.mk (Kd.R_lower (Kd.R_new' ho0 (Kd.R_lt (by (with_reducible repeat (first|apply Kd.R_alloc|apply Kd.R_drewN|apply Kd.R_drew));exact HO116.out))) (below_size (by repeat (first|(with_reducible first|exact HB.out|apply below_alloc|apply pw_below_drewN|apply below_drew1)|exact HB.out))));have n2_:=Aside0.mk (below_step (by repeat (first|(with_reducible first|exact HB.out|apply below_alloc|apply pw_below_drewN|apply below_drew1)|exact HB.out)) hb);clear HO116;clear HB;have HO116:=n0_;have HO123:=n1_;have HB:=n2_;clear n0_ n1_ n2_;(try clear hb);(try clear hb2);(try clear hk);(try clear hi);(try clear ho0);have p124 : 0 ≤ (1 : Int):=(by omega);have q124 : 1 < (t112.length : Int):=of_decide_eq_true (by first|(with_reducible assumption)|assumption);obtain ⟨ad124,e124,hx124_0,hx124_1,hx124_2,hx124_3,hx124_4⟩:=at_T46 (Kd.R_reads' HO116.out).2.2 1 p124 q124;cases e124;(try simp only [show (1 : Int).toNat = 1 from rfl,Nat.reduceMul,Nat.reduceEqDiff,Go.Addr.add,↓reduceIte] at hx124_0);(try simp only [show (1 : Int).toNat = 1 from rfl,Nat.reduceMul,Nat.reduceEqDiff,Go.Addr.add,↓reduceIte] at hx124_1);(try simp only [show (1 : Int).toNat = 1 from rfl,Nat.reduceMul,Nat.reduceEqDiff,Go.Addr.add,↓reduceIte] at hx124_2);(try simp only [show (1 : Int).toNat = 1 from rfl,Nat.reduceMul,Nat.reduceEqDiff,Go.Addr.add,↓reduceIte] at hx124_3);(try simp only [show (1 : Int).toNat = 1 from rfl,Nat.reduceMul,Nat.reduceEqDiff,Go.Addr.add,↓reduceIte] at hx124_4);have qi124 : (1 < t112.length) = True:=eq_true (by omega);(try rw [show ((1 : Int)).toNat = 1 from rfl] at hx124_0);(try rw [show 1 * 5 = 5 from rfl] at hx124_0);(try rw [show ((1 : Int)).toNat = 1 from rfl] at hx124_1);(try rw [show 1 * 5 = 5 from rfl] at hx124_1);(try rw [show ((1 : Int)).toNat = 1 from rfl] at hx124_2);(try rw [show 1 * 5 = 5 from rfl] at hx124_2);(try rw [show ((1 : Int)).toNat = 1 from rfl] at hx124_3);(try rw [show 1 * 5 = 5 from rfl] at hx124_3);(try rw [show ((1 : Int)).toNat = 1 from rfl] at hx124_4);(try rw [show 1 * 5 = 5 from rfl] at hx124_4);replace p124:=eq_true p124;replace q124:=eq_true q124;have p125 : 0 ≤ (2 : Int):=(by omega);have q125 : 2 < (t112.length : Int):=of_decide_eq_true (by first|(with_reducible assumption)|assumption);obtain ⟨ad125,e125,hx125_0,hx125_1,hx125_2,hx125_3,hx125_4⟩:=at_T46 (Kd.R_reads' HO116.out).2.2 2 p125 q125;obtain rfl : ad124 = ad125:=(by injection e125);(try simp only [show (2 : Int).toNat = 2 from rfl,Nat.reduceMul,Nat.reduceEqDiff,Go.Addr.add,↓reduceIte] at hx125_0);(try simp only [show (2 : Int).toNat = 2 from rfl,Nat.reduceMul,Nat.reduceEqDiff,Go.Addr.add,↓reduceIte] at hx125_1);(try simp only [show (2 : Int).toNat = 2 from rfl,Nat.reduceMul,Nat.reduceEqDiff,Go.Addr.add,↓reduceIte] at hx125_2);(try simp only [show (2 : Int).toNat = 2 from rfl,Nat.reduceMul,Nat.reduceEqDiff,Go.Addr.add,↓reduceIte] at hx125_3);(try simp only [show (2 : Int).toNat = 2 from rfl,Nat.reduceMul,Nat.reduceEqDiff,Go.Addr.add,↓reduceIte] at hx125_4);have qi125 : (2 < t112.length) = True:=eq_true (by omega);(try rw [show ((2 : Int)).toNat = 2 from rfl] at hx125_0);(try rw [show 2 * 5 = 10 from rfl] at hx125_0);(try rw [show ((2 : Int)).toNat = 2 from rfl] at hx125_1);(try rw [show 2 * 5 = 10 from rfl] at hx125_1);(try rw [show ((2 : Int)).toNat = 2 from rfl] at hx125_2);(try rw [show 2 * 5 = 10 from rfl] at hx125_2);(try rw [show ((2 : Int)).toNat = 2 from rfl] at hx125_3);(try rw [show 2 * 5 = 10 from rfl] at hx125_3);(try rw [show ((2 : Int)).toNat = 2 from rfl] at hx125_4);(try rw [show 2 * 5 = 10 from rfl] at hx125_4);replace p125:=eq_true p125;replace q125:=eq_true q125))
           go_ret
           exact ⟨by first|rfl|(simp [errW_none,errW_some] <;> rfl)|(simp [*,errW_none,errW_some] <;> rfl),by repeat (first|(with_reducible first|exact HB.out|apply below_alloc|apply pw_below_drewN|apply below_drew1)|exact HB.out)⟩
         ·rw [if_neg c12] at H
          have c12b0 : (t118 == 0) = false:=beq_eq_false_iff_ne.mpr c12
          have c12b1 : (t118 != 0) = true:=bne_iff_ne.mpr c12
          obtain rfl:=Option.some.inj H
          go_enter Tryd.func13,Tryd.ntmps13
          go_wp2_with (first|((with_reducible refine gate_callee (f:=10) rfl ?_);refine goesL_ (some 10) rfl rfl Tryd.func10 (by kernel_rfl) rfl #[.string (⟨#[123,34,97,34,58,91,49,44,116,114,117,101,93,125]⟩ : ByteArray)] rfl (by (try simp only [List.map_toArray,List.map_cons,List.map_nil]);first|done|rfl|(simp only [List.length_drop,List.length_take];rfl)) ?_;(with_reducible refine (jsontext_Parse.calls (⟨#[123,34,97,34,58,91,49,44,116,114,117,101,93,125]⟩ : ByteArray) t112 t113 t114 _ ?side1 A1.out).mono ?_);(case side1 => first|exact HGU8.out|exact GlobU8.below HGU8.out (by repeat (first|(with_reducible first|exact HB.out|apply below_alloc|apply pw_below_drewN|apply below_drew1)|exact HB.out))|exact GlobU8.drawn HGU8.out (by repeat (first|exact Drawn0.refl _|apply Drawn0.step)));rintro e w22 ⟨v115,rfl,ho0,hb⟩;refine ⟨_,rfl,?_⟩;have n0_:=Aside0.mk (Kd.R_lower ho0 (below_size (by repeat (first|(with_reducible first|exact HB.out|apply below_alloc|apply pw_below_drewN|apply below_drew1)|exact HB.out))));have n1_:=Aside0.mk (below_step (by repeat (first|(with_reducible first|exact HB.out|apply below_alloc|apply pw_below_drewN|apply below_drew1)|exact HB.out)) hb);clear HB;have HO116:=n0_;have HB:=n1_;clear n0_ n1_;(try clear hb);(try clear hb2);(try clear hk);(try clear hi);(try clear ho0);obtain ⟨Ao23,co23,eo23⟩:=Kd.R_slice HO116.out;subst eo23)|((with_reducible refine gate_callee (f:=15) rfl ?_);refine goesL_ (some 16) rfl rfl Tryd.func15 (by kernel_rfl) rfl #[.slice Ao23 t112.length co23] rfl (by (try simp only [List.map_toArray,List.map_cons,List.map_nil]);first|done|rfl|(simp only [List.length_drop,List.length_take];rfl)) ?_;(with_reducible refine (jsontext_Print.calls _ _ t112 t117 t118 _ ?side3 ?side1 ?side2 A2.out).mono ?_);(case side1 => repeat (first|exact (Kd.R_reads' HO116.out).2.2|(with_reducible refine Kd.C_alloc ?_ _)|(with_reducible refine Kd.C_drewN ?_ _)|(with_reducible refine Kd.C_drew ?_)));(case side2 => exact (Kd.R_reads' HO116.out).2.1);(case side3 => first|exact HGU8.out|exact GlobU8.below HGU8.out (by repeat (first|(with_reducible first|exact HB.out|apply below_alloc|apply pw_below_drewN|apply below_drew1)|exact HB.out))|exact GlobU8.drawn HGU8.out (by repeat (first|exact Drawn0.refl _|apply Drawn0.step)));rintro e w24 ⟨rfl,hb⟩;refine ⟨_,rfl,?_⟩;have n0_:=Aside0.mk (Kd.R_below (by (with_reducible repeat (first|apply Kd.R_alloc|apply Kd.R_drewN|apply Kd.R_drew));exact HO116.out) hb);have n1_:=Aside0.mk (below_step (by repeat (first|(with_reducible first|exact HB.out|apply below_alloc|apply pw_below_drewN|apply below_drew1)|exact HB.out)) hb);clear HO116;clear HB;have HO116:=n0_;have HB:=n1_;clear n0_ n1_;(try clear hb);(try clear hb2);(try clear hk);(try clear hi))|((with_reducible refine gate_callee (f:=10) rfl ?_);refine goesL_ (some 20) rfl rfl Tryd.func10 (by kernel_rfl) rfl #[.string (⟨#[91,49,44,93]⟩ : ByteArray)] rfl (by (try simp only [List.map_toArray,List.map_cons,List.map_nil]);first|done|rfl|(simp only [List.length_drop,List.length_take];rfl)) ?_;(with_reducible refine (jsontext_Parse.calls (⟨#[91,49,44,93]⟩ : ByteArray) t119 t120 t121 _ ?side1 A3.out).mono ?_);(case side1 => first|exact HGU8.out|exact GlobU8.below HGU8.out (by repeat (first|(with_reducible first|exact HB.out|apply below_alloc|apply pw_below_drewN|apply below_drew1)|exact HB.out))|exact GlobU8.drawn HGU8.out (by repeat (first|exact Drawn0.refl _|apply Drawn0.step)));rintro e w25 ⟨v122,rfl,ho0,hb⟩;refine ⟨_,rfl,?_⟩;have n0_:=Aside0.mk (Kd.R_elder' (by (with_reducible repeat (first|apply Kd.R_alloc|apply Kd.R_drewN|apply Kd.R_drew));exact HO116.out) (Kd.R_base ho0) hb);have n1_:=Aside0.mk (Kd.R_lower (Kd.R_new' ho0 (Kd.R_lt (by (with_reducible repeat (first|apply Kd.R_alloc|apply Kd.R_drewN|apply Kd.R_drew));exact HO116.out))) (below_size (by repeat (first|(with_reducible first|exact HB.out|apply below_alloc|apply pw_below_drewN|apply below_drew1)|exact HB.out))));have n2_:=Aside0.mk (below_step (by repeat (first|(with_reducible first|exact HB.out|apply below_alloc|apply pw_below_drewN|apply below_drew1)|exact HB.out)) hb);clear HO116;clear HB;have HO116:=n0_;have HO123:=n1_;have HB:=n2_;clear n0_ n1_ n2_;(try clear hb);(try clear hb2);(try clear hk);(try clear hi);(try clear ho0);have p124 : 0 ≤ (1 : Int):=(by omega);have q124 : 1 < (t112.length : Int):=of_decide_eq_true (by first|(with_reducible assumption)|assumption);obtain ⟨ad124,e124,hx124_0,hx124_1,hx124_2,hx124_3,hx124_4⟩:=at_T46 (Kd.R_reads' HO116.out).2.2 1 p124 q124;cases e124;(try simp only [show (1 : Int).toNat = 1 from rfl,Nat.reduceMul,Nat.reduceEqDiff,Go.Addr.add,↓reduceIte] at hx124_0);(try simp only [show (1 : Int).toNat = 1 from rfl,Nat.reduceMul,Nat.reduceEqDiff,Go.Addr.add,↓reduceIte] at hx124_1);(try simp only [show (1 : Int).toNat = 1 from rfl,Nat.reduceMul,Nat.reduceEqDiff,Go.Addr.add,↓reduceIte] at hx124_2);(try simp only [show (1 : Int).toNat = 1 from rfl,Nat.reduceMul,Nat.reduceEqDiff,Go.Addr.add,↓reduceIte] at hx124_3);(try simp only [show (1 : Int).toNat = 1 from rfl,Nat.reduceMul,Nat.reduceEqDiff,Go.Addr.add,↓reduceIte] at hx124_4);have qi124 : (1 < t112.length) = True:=eq_true (by omega);(try rw [show ((1 : Int)).toNat = 1 from rfl] at hx124_0);(try rw [show 1 * 5 = 5 from rfl] at hx124_0);(try rw [show ((1 : Int)).toNat = 1 from rfl] at hx124_1);(try rw [show 1 * 5 = 5 from rfl] at hx124_1);(try rw [show ((1 : Int)).toNat = 1 from rfl] at hx124_2);(try rw [show 1 * 5 = 5 from rfl] at hx124_2);(try rw [show ((1 : Int)).toNat = 1 from rfl] at hx124_3);(try rw [show 1 * 5 = 5 from rfl] at hx124_3);(try rw [show ((1 : Int)).toNat = 1 from rfl] at hx124_4);(try rw [show 1 * 5 = 5 from rfl] at hx124_4);replace p124:=eq_true p124;replace q124:=eq_true q124;have p125 : 0 ≤ (2 : Int):=(by omega);have q125 : 2 < (t112.length : Int):=of_decide_eq_true (by first|(with_reducible assumption)|assumption);obtain ⟨ad125,e125,hx125_0,hx125_1,hx125_2,hx125_3,hx125_4⟩:=at_T46 (Kd.R_reads' HO116.out).2.2 2 p125 q125;obtain rfl : ad124 = ad125:=(by injection e125);(try simp only [show (2 : Int).toNat = 2 from rfl,Nat.reduceMul,Nat.reduceEqDiff,Go.Addr.add,↓reduceIte] at hx125_0);(try simp only [show (2 : Int).toNat = 2 from rfl,Nat.reduceMul,Nat.reduceEqDiff,Go.Addr.add,↓reduceIte] at hx125_1);(try simp only [show (2 : Int).toNat = 2 from rfl,Nat.reduceMul,Nat.reduceEqDiff,Go.Addr.add,↓reduceIte] at hx125_2);(try simp only [show (2 : Int).toNat = 2 from rfl,Nat.reduceMul,Nat.reduceEqDiff,Go.Addr.add,↓reduceIte] at hx125_3);(try simp only [show (2 : Int).toNat = 2 from rfl,Nat.reduceMul,Nat.reduceEqDiff,Go.Addr.add,↓reduceIte] at hx125_4);have qi125 : (2 < t112.length) = True:=eq_true (by omega);(try rw [show ((2 : Int)).toNat = 2 from rfl] at hx125_0);(try rw [show 2 * 5 = 10 from rfl] at hx125_0);(try rw [show ((2 : Int)).toNat = 2 from rfl] at hx125_1);(try rw [show 2 * 5 = 10 from rfl] at hx125_1);(try rw [show ((2 : Int)).toNat = 2 from rfl] at hx125_2);(try rw [show 2 * 5 = 10 from rfl] at hx125_2);(try rw [show ((2 : Int)).toNat = 2 from rfl] at hx125_3);(try rw [show 2 * 5 = 10 from rfl] at hx125_3);(try rw [show ((2 : Int)).toNat = 2 from rfl] at hx125_4);(try rw [show 2 * 5 = 10 from rfl] at hx125_4);replace p125:=eq_true p125;replace q125:=eq_true q125))
          go_ret
          exact ⟨by first|rfl|(simp [errW_none,errW_some] <;> rfl)|(simp [*,errW_none,errW_some] <;> rfl),by repeat (first|(with_reducible first|exact HB.out|apply below_alloc|apply pw_below_drewN|apply below_drew1)|exact HB.out)⟩
        ·rw [if_neg c11] at H
         have c11b0 : (t117.toList == ([123,34,97,34,58,91,49,44,116,114,117,101,93,125] : List UInt8)) = false:=beq_eq_false_iff_ne.mpr c11
         have c11b1 : (t117.toList != ([123,34,97,34,58,91,49,44,116,114,117,101,93,125] : List UInt8)) = true:=bne_iff_ne.mpr c11
         obtain rfl:=Option.some.inj H
         go_enter Tryd.func13,Tryd.ntmps13
         go_wp2_with (first|((with_reducible refine gate_callee (f:=10) rfl ?_);refine goesL_ (some 10) rfl rfl Tryd.func10 (by kernel_rfl) rfl #[.string (⟨#[123,34,97,34,58,91,49,44,116,114,117,101,93,125]⟩ : ByteArray)] rfl (by (try simp only [List.map_toArray,List.map_cons,List.map_nil]);first|done|rfl|(simp only [List.length_drop,List.length_take];rfl)) ?_;(with_reducible refine (jsontext_Parse.calls (⟨#[123,34,97,34,58,91,49,44,116,114,117,101,93,125]⟩ : ByteArray) t112 t113 t114 _ ?side1 A1.out).mono ?_);(case side1 => first|exact HGU8.out|exact GlobU8.below HGU8.out (by repeat (first|(with_reducible first|exact HB.out|apply below_alloc|apply pw_below_drewN|apply below_drew1)|exact HB.out))|exact GlobU8.drawn HGU8.out (by repeat (first|exact Drawn0.refl _|apply Drawn0.step)));rintro e w26 ⟨v115,rfl,ho0,hb⟩;refine ⟨_,rfl,?_⟩;have n0_:=Aside0.mk (Kd.R_lower ho0 (below_size (by repeat (first|(with_reducible first|exact HB.out|apply below_alloc|apply pw_below_drewN|apply below_drew1)|exact HB.out))));have n1_:=Aside0.mk (below_step (by repeat (first|(with_reducible first|exact HB.out|apply below_alloc|apply pw_below_drewN|apply below_drew1)|exact HB.out)) hb);clear HB;have HO116:=n0_;have HB:=n1_;clear n0_ n1_;(try clear hb);(try clear hb2);(try clear hk);(try clear hi);(try clear ho0);obtain ⟨Ao27,co27,eo27⟩:=Kd.R_slice HO116.out;subst eo27)|((with_reducible refine gate_callee (f:=15) rfl ?_);refine goesL_ (some 16) rfl rfl Tryd.func15 (by kernel_rfl) rfl #[.slice Ao27 t112.length co27] rfl (by (try simp only [List.map_toArray,List.map_cons,List.map_nil]);first|done|rfl|(simp only [List.length_drop,List.length_take];rfl)) ?_;(with_reducible refine (jsontext_Print.calls _ _ t112 t117 t118 _ ?side3 ?side1 ?side2 A2.out).mono ?_);(case side1 => repeat (first|exact (Kd.R_reads' HO116.out).2.2|(with_reducible refine Kd.C_alloc ?_ _)|(with_reducible refine Kd.C_drewN ?_ _)|(with_reducible refine Kd.C_drew ?_)));(case side2 => exact (Kd.R_reads' HO116.out).2.1);(case side3 => first|exact HGU8.out|exact GlobU8.below HGU8.out (by repeat (first|(with_reducible first|exact HB.out|apply below_alloc|apply pw_below_drewN|apply below_drew1)|exact HB.out))|exact GlobU8.drawn HGU8.out (by repeat (first|exact Drawn0.refl _|apply Drawn0.step)));rintro e w28 ⟨rfl,hb⟩;refine ⟨_,rfl,?_⟩;have n0_:=Aside0.mk (Kd.R_below (by (with_reducible repeat (first|apply Kd.R_alloc|apply Kd.R_drewN|apply Kd.R_drew));exact HO116.out) hb);have n1_:=Aside0.mk (below_step (by repeat (first|(with_reducible first|exact HB.out|apply below_alloc|apply pw_below_drewN|apply below_drew1)|exact HB.out)) hb);clear HO116;clear HB;have HO116:=n0_;have HB:=n1_;clear n0_ n1_;(try clear hb);(try clear hb2);(try clear hk);(try clear hi))|((with_reducible refine gate_callee (f:=10) rfl ?_);refine goesL_ (some 20) rfl rfl Tryd.func10 (by kernel_rfl) rfl #[.string (⟨#[91,49,44,93]⟩ : ByteArray)] rfl (by (try simp only [List.map_toArray,List.map_cons,List.map_nil]);first|done|rfl|(simp only [List.length_drop,List.length_take];rfl)) ?_;(with_reducible refine (jsontext_Parse.calls (⟨#[91,49,44,93]⟩ : ByteArray) t119 t120 t121 _ ?side1 A3.out).mono ?_);(case side1 => first|exact HGU8.out|exact GlobU8.below HGU8.out (by repeat (first|(with_reducible first|exact HB.out|apply below_alloc|apply pw_below_drewN|apply below_drew1)|exact HB.out))|exact GlobU8.drawn HGU8.out (by repeat (first|exact Drawn0.refl _|apply Drawn0.step)));rintro e w29 ⟨v122,rfl,ho0,hb⟩;refine ⟨_,rfl,?_⟩;have n0_:=Aside0.mk (Kd.R_elder' (by (with_reducible repeat (first|apply Kd.R_alloc|apply Kd.R_drewN|apply Kd.R_drew));exact HO116.out) (Kd.R_base ho0) hb);have n1_:=Aside0.mk (Kd.R_lower (Kd.R_new' ho0 (Kd.R_lt (by (with_reducible repeat (first|apply Kd.R_alloc|apply Kd.R_drewN|apply Kd.R_drew));exact HO116.out))) (below_size (by repeat (first|(with_reducible first|exact HB.out|apply below_alloc|apply pw_below_drewN|apply below_drew1)|exact HB.out))));have n2_:=Aside0.mk (below_step (by repeat (first|(with_reducible first|exact HB.out|apply below_alloc|apply pw_below_drewN|apply below_drew1)|exact HB.out)) hb);clear HO116;clear HB;have HO116:=n0_;have HO123:=n1_;have HB:=n2_;clear n0_ n1_ n2_;(try clear hb);(try clear hb2);(try clear hk);(try clear hi);(try clear ho0);have p124 : 0 ≤ (1 : Int):=(by omega);have q124 : 1 < (t112.length : Int):=of_decide_eq_true (by first|(with_reducible assumption)|assumption);obtain ⟨ad124,e124,hx124_0,hx124_1,hx124_2,hx124_3,hx124_4⟩:=at_T46 (Kd.R_reads' HO116.out).2.2 1 p124 q124;cases e124;(try simp only [show (1 : Int).toNat = 1 from rfl,Nat.reduceMul,Nat.reduceEqDiff,Go.Addr.add,↓reduceIte] at hx124_0);(try simp only [show (1 : Int).toNat = 1 from rfl,Nat.reduceMul,Nat.reduceEqDiff,Go.Addr.add,↓reduceIte] at hx124_1);(try simp only [show (1 : Int).toNat = 1 from rfl,Nat.reduceMul,Nat.reduceEqDiff,Go.Addr.add,↓reduceIte] at hx124_2);(try simp only [show (1 : Int).toNat = 1 from rfl,Nat.reduceMul,Nat.reduceEqDiff,Go.Addr.add,↓reduceIte] at hx124_3);(try simp only [show (1 : Int).toNat = 1 from rfl,Nat.reduceMul,Nat.reduceEqDiff,Go.Addr.add,↓reduceIte] at hx124_4);have qi124 : (1 < t112.length) = True:=eq_true (by omega);(try rw [show ((1 : Int)).toNat = 1 from rfl] at hx124_0);(try rw [show 1 * 5 = 5 from rfl] at hx124_0);(try rw [show ((1 : Int)).toNat = 1 from rfl] at hx124_1);(try rw [show 1 * 5 = 5 from rfl] at hx124_1);(try rw [show ((1 : Int)).toNat = 1 from rfl] at hx124_2);(try rw [show 1 * 5 = 5 from rfl] at hx124_2);(try rw [show ((1 : Int)).toNat = 1 from rfl] at hx124_3);(try rw [show 1 * 5 = 5 from rfl] at hx124_3);(try rw [show ((1 : Int)).toNat = 1 from rfl] at hx124_4);(try rw [show 1 * 5 = 5 from rfl] at hx124_4);replace p124:=eq_true p124;replace q124:=eq_true q124;have p125 : 0 ≤ (2 : Int):=(by omega);have q125 : 2 < (t112.length : Int):=of_decide_eq_true (by first|(with_reducible assumption)|assumption);obtain ⟨ad125,e125,hx125_0,hx125_1,hx125_2,hx125_3,hx125_4⟩:=at_T46 (Kd.R_reads' HO116.out).2.2 2 p125 q125;obtain rfl : ad124 = ad125:=(by injection e125);(try simp only [show (2 : Int).toNat = 2 from rfl,Nat.reduceMul,Nat.reduceEqDiff,Go.Addr.add,↓reduceIte] at hx125_0);(try simp only [show (2 : Int).toNat = 2 from rfl,Nat.reduceMul,Nat.reduceEqDiff,Go.Addr.add,↓reduceIte] at hx125_1);(try simp only [show (2 : Int).toNat = 2 from rfl,Nat.reduceMul,Nat.reduceEqDiff,Go.Addr.add,↓reduceIte] at hx125_2);(try simp only [show (2 : Int).toNat = 2 from rfl,Nat.reduceMul,Nat.reduceEqDiff,Go.Addr.add,↓reduceIte] at hx125_3);(try simp only [show (2 : Int).toNat = 2 from rfl,Nat.reduceMul,Nat.reduceEqDiff,Go.Addr.add,↓reduceIte] at hx125_4);have qi125 : (2 < t112.length) = True:=eq_true (by omega);(try rw [show ((2 : Int)).toNat = 2 from rfl] at hx125_0);(try rw [show 2 * 5 = 10 from rfl] at hx125_0);(try rw [show ((2 : Int)).toNat = 2 from rfl] at hx125_1);(try rw [show 2 * 5 = 10 from rfl] at hx125_1);(try rw [show ((2 : Int)).toNat = 2 from rfl] at hx125_2);(try rw [show 2 * 5 = 10 from rfl] at hx125_2);(try rw [show ((2 : Int)).toNat = 2 from rfl] at hx125_3);(try rw [show 2 * 5 = 10 from rfl] at hx125_3);(try rw [show ((2 : Int)).toNat = 2 from rfl] at hx125_4);(try rw [show 2 * 5 = 10 from rfl] at hx125_4);replace p125:=eq_true p125;replace q125:=eq_true q125))
         go_ret
         exact ⟨by first|rfl|(simp [errW_none,errW_some] <;> rfl)|(simp [*,errW_none,errW_some] <;> rfl),by repeat (first|(with_reducible first|exact HB.out|apply below_alloc|apply pw_below_drewN|apply below_drew1)|exact HB.out)⟩
       ·rw [if_neg c10] at H
        have c10b0 : (((rd_T46 t112 2).f4).toList == ([49] : List UInt8)) = false:=beq_eq_false_iff_ne.mpr c10
        have c10b1 : (((rd_T46 t112 2).f4).toList != ([49] : List UInt8)) = true:=bne_iff_ne.mpr c10
        obtain rfl:=Option.some.inj H
        go_enter Tryd.func13,Tryd.ntmps13
        go_wp2_with (first|((with_reducible refine gate_callee (f:=10) rfl ?_);refine goesL_ (some 10) rfl rfl Tryd.func10 (by kernel_rfl) rfl #[.string (⟨#[123,34,97,34,58,91,49,44,116,114,117,101,93,125]⟩ : ByteArray)] rfl (by (try simp only [List.map_toArray,List.map_cons,List.map_nil]);first|done|rfl|(simp only [List.length_drop,List.length_take];rfl)) ?_;(with_reducible refine (jsontext_Parse.calls (⟨#[123,34,97,34,58,91,49,44,116,114,117,101,93,125]⟩ : ByteArray) t112 t113 t114 _ ?side1 A1.out).mono ?_);(case side1 => first|exact HGU8.out|exact GlobU8.below HGU8.out (by repeat (first|(with_reducible first|exact HB.out|apply below_alloc|apply pw_below_drewN|apply below_drew1)|exact HB.out))|exact GlobU8.drawn HGU8.out (by repeat (first|exact Drawn0.refl _|apply Drawn0.step)));rintro e w30 ⟨v115,rfl,ho0,hb⟩;refine ⟨_,rfl,?_⟩;have n0_:=Aside0.mk (Kd.R_lower ho0 (below_size (by repeat (first|(with_reducible first|exact HB.out|apply below_alloc|apply pw_below_drewN|apply below_drew1)|exact HB.out))));have n1_:=Aside0.mk (below_step (by repeat (first|(with_reducible first|exact HB.out|apply below_alloc|apply pw_below_drewN|apply below_drew1)|exact HB.out)) hb);clear HB;have HO116:=n0_;have HB:=n1_;clear n0_ n1_;(try clear hb);(try clear hb2);(try clear hk);(try clear hi);(try clear ho0);obtain ⟨Ao31,co31,eo31⟩:=Kd.R_slice HO116.out;subst eo31)|((with_reducible refine gate_callee (f:=15) rfl ?_);refine goesL_ (some 16) rfl rfl Tryd.func15 (by kernel_rfl) rfl #[.slice Ao31 t112.length co31] rfl (by (try simp only [List.map_toArray,List.map_cons,List.map_nil]);first|done|rfl|(simp only [List.length_drop,List.length_take];rfl)) ?_;(with_reducible refine (jsontext_Print.calls _ _ t112 t117 t118 _ ?side3 ?side1 ?side2 A2.out).mono ?_);(case side1 => repeat (first|exact (Kd.R_reads' HO116.out).2.2|(with_reducible refine Kd.C_alloc ?_ _)|(with_reducible refine Kd.C_drewN ?_ _)|(with_reducible refine Kd.C_drew ?_)));(case side2 => exact (Kd.R_reads' HO116.out).2.1);(case side3 => first|exact HGU8.out|exact GlobU8.below HGU8.out (by repeat (first|(with_reducible first|exact HB.out|apply below_alloc|apply pw_below_drewN|apply below_drew1)|exact HB.out))|exact GlobU8.drawn HGU8.out (by repeat (first|exact Drawn0.refl _|apply Drawn0.step)));rintro e w32 ⟨rfl,hb⟩;refine ⟨_,rfl,?_⟩;have n0_:=Aside0.mk (Kd.R_below (by (with_reducible repeat (first|apply Kd.R_alloc|apply Kd.R_drewN|apply Kd.R_drew));exact HO116.out) hb);have n1_:=Aside0.mk (below_step (by repeat (first|(with_reducible first|exact HB.out|apply below_alloc|apply pw_below_drewN|apply below_drew1)|exact HB.out)) hb);clear HO116;clear HB;have HO116:=n0_;have HB:=n1_;clear n0_ n1_;(try clear hb);(try clear hb2);(try clear hk);(try clear hi))|((with_reducible refine gate_callee (f:=10) rfl ?_);refine goesL_ (some 20) rfl rfl Tryd.func10 (by kernel_rfl) rfl #[.string (⟨#[91,49,44,93]⟩ : ByteArray)] rfl (by (try simp only [List.map_toArray,List.map_cons,List.map_nil]);first|done|rfl|(simp only [List.length_drop,List.length_take];rfl)) ?_;(with_reducible refine (jsontext_Parse.calls (⟨#[91,49,44,93]⟩ : ByteArray) t119 t120 t121 _ ?side1 A3.out).mono ?_);(case side1 => first|exact HGU8.out|exact GlobU8.below HGU8.out (by repeat (first|(with_reducible first|exact HB.out|apply below_alloc|apply pw_below_drewN|apply below_drew1)|exact HB.out))|exact GlobU8.drawn HGU8.out (by repeat (first|exact Drawn0.refl _|apply Drawn0.step)));rintro e w33 ⟨v122,rfl,ho0,hb⟩;refine ⟨_,rfl,?_⟩;have n0_:=Aside0.mk (Kd.R_elder' (by (with_reducible repeat (first|apply Kd.R_alloc|apply Kd.R_drewN|apply Kd.R_drew));exact HO116.out) (Kd.R_base ho0) hb);have n1_:=Aside0.mk (Kd.R_lower (Kd.R_new' ho0 (Kd.R_lt (by (with_reducible repeat (first|apply Kd.R_alloc|apply Kd.R_drewN|apply Kd.R_drew));exact HO116.out))) (below_size (by repeat (first|(with_reducible first|exact HB.out|apply below_alloc|apply pw_below_drewN|apply below_drew1)|exact HB.out))));have n2_:=Aside0.mk (below_step (by repeat (first|(with_reducible first|exact HB.out|apply below_alloc|apply pw_below_drewN|apply below_drew1)|exact HB.out)) hb);clear HO116;clear HB;have HO116:=n0_;have HO123:=n1_;have HB:=n2_;clear n0_ n1_ n2_;(try clear hb);(try clear hb2);(try clear hk);(try clear hi);(try clear ho0);have p124 : 0 ≤ (1 : Int):=(by omega);have q124 : 1 < (t112.length : Int):=of_decide_eq_true (by first|(with_reducible assumption)|assumption);obtain ⟨ad124,e124,hx124_0,hx124_1,hx124_2,hx124_3,hx124_4⟩:=at_T46 (Kd.R_reads' HO116.out).2.2 1 p124 q124;cases e124;(try simp only [show (1 : Int).toNat = 1 from rfl,Nat.reduceMul,Nat.reduceEqDiff,Go.Addr.add,↓reduceIte] at hx124_0);(try simp only [show (1 : Int).toNat = 1 from rfl,Nat.reduceMul,Nat.reduceEqDiff,Go.Addr.add,↓reduceIte] at hx124_1);(try simp only [show (1 : Int).toNat = 1 from rfl,Nat.reduceMul,Nat.reduceEqDiff,Go.Addr.add,↓reduceIte] at hx124_2);(try simp only [show (1 : Int).toNat = 1 from rfl,Nat.reduceMul,Nat.reduceEqDiff,Go.Addr.add,↓reduceIte] at hx124_3);(try simp only [show (1 : Int).toNat = 1 from rfl,Nat.reduceMul,Nat.reduceEqDiff,Go.Addr.add,↓reduceIte] at hx124_4);have qi124 : (1 < t112.length) = True:=eq_true (by omega);(try rw [show ((1 : Int)).toNat = 1 from rfl] at hx124_0);(try rw [show 1 * 5 = 5 from rfl] at hx124_0);(try rw [show ((1 : Int)).toNat = 1 from rfl] at hx124_1);(try rw [show 1 * 5 = 5 from rfl] at hx124_1);(try rw [show ((1 : Int)).toNat = 1 from rfl] at hx124_2);(try rw [show 1 * 5 = 5 from rfl] at hx124_2);(try rw [show ((1 : Int)).toNat = 1 from rfl] at hx124_3);(try rw [show 1 * 5 = 5 from rfl] at hx124_3);(try rw [show ((1 : Int)).toNat = 1 from rfl] at hx124_4);(try rw [show 1 * 5 = 5 from rfl] at hx124_4);replace p124:=eq_true p124;replace q124:=eq_true q124;have p125 : 0 ≤ (2 : Int):=(by omega);have q125 : 2 < (t112.length : Int):=of_decide_eq_true (by first|(with_reducible assumption)|assumption);obtain ⟨ad125,e125,hx125_0,hx125_1,hx125_2,hx125_3,hx125_4⟩:=at_T46 (Kd.R_reads' HO116.out).2.2 2 p125 q125;obtain rfl : ad124 = ad125:=(by injection e125);(try simp only [show (2 : Int).toNat = 2 from rfl,Nat.reduceMul,Nat.reduceEqDiff,Go.Addr.add,↓reduceIte] at hx125_0);(try simp only [show (2 : Int).toNat = 2 from rfl,Nat.reduceMul,Nat.reduceEqDiff,Go.Addr.add,↓reduceIte] at hx125_1);(try simp only [show (2 : Int).toNat = 2 from rfl,Nat.reduceMul,Nat.reduceEqDiff,Go.Addr.add,↓reduceIte] at hx125_2);(try simp only [show (2 : Int).toNat = 2 from rfl,Nat.reduceMul,Nat.reduceEqDiff,Go.Addr.add,↓reduceIte] at hx125_3);(try simp only [show (2 : Int).toNat = 2 from rfl,Nat.reduceMul,Nat.reduceEqDiff,Go.Addr.add,↓reduceIte] at hx125_4);have qi125 : (2 < t112.length) = True:=eq_true (by omega);(try rw [show ((2 : Int)).toNat = 2 from rfl] at hx125_0);(try rw [show 2 * 5 = 10 from rfl] at hx125_0);(try rw [show ((2 : Int)).toNat = 2 from rfl] at hx125_1);(try rw [show 2 * 5 = 10 from rfl] at hx125_1);(try rw [show ((2 : Int)).toNat = 2 from rfl] at hx125_2);(try rw [show 2 * 5 = 10 from rfl] at hx125_2);(try rw [show ((2 : Int)).toNat = 2 from rfl] at hx125_3);(try rw [show 2 * 5 = 10 from rfl] at hx125_3);(try rw [show ((2 : Int)).toNat = 2 from rfl] at hx125_4);(try rw [show 2 * 5 = 10 from rfl] at hx125_4);replace p125:=eq_true p125;replace q125:=eq_true q125))
        go_ret
        exact ⟨by first|rfl|(simp [errW_none,errW_some] <;> rfl)|(simp [*,errW_none,errW_some] <;> rfl),by repeat (first|(with_reducible first|exact HB.out|apply below_alloc|apply pw_below_drewN|apply below_drew1)|exact HB.out)⟩
      ·rw [if_neg c9] at H
       exact absurd H (by simp)
     ·rw [if_neg c8] at H
      have c8b0 : (((rd_T46 t112 1).f3).toList == ([97] : List UInt8)) = false:=beq_eq_false_iff_ne.mpr c8
      have c8b1 : (((rd_T46 t112 1).f3).toList != ([97] : List UInt8)) = true:=bne_iff_ne.mpr c8
      obtain rfl:=Option.some.inj H
      go_enter Tryd.func13,Tryd.ntmps13
      go_wp2_with (first|((with_reducible refine gate_callee (f:=10) rfl ?_);refine goesL_ (some 10) rfl rfl Tryd.func10 (by kernel_rfl) rfl #[.string (⟨#[123,34,97,34,58,91,49,44,116,114,117,101,93,125]⟩ : ByteArray)] rfl (by (try simp only [List.map_toArray,List.map_cons,List.map_nil]);first|done|rfl|(simp only [List.length_drop,List.length_take];rfl)) ?_;(with_reducible refine (jsontext_Parse.calls (⟨#[123,34,97,34,58,91,49,44,116,114,117,101,93,125]⟩ : ByteArray) t112 t113 t114 _ ?side1 A1.out).mono ?_);(case side1 => first|exact HGU8.out|exact GlobU8.below HGU8.out (by repeat (first|(with_reducible first|exact HB.out|apply below_alloc|apply pw_below_drewN|apply below_drew1)|exact HB.out))|exact GlobU8.drawn HGU8.out (by repeat (first|exact Drawn0.refl _|apply Drawn0.step)));rintro e w34 ⟨v115,rfl,ho0,hb⟩;refine ⟨_,rfl,?_⟩;have n0_:=Aside0.mk (Kd.R_lower ho0 (below_size (by repeat (first|(with_reducible first|exact HB.out|apply below_alloc|apply pw_below_drewN|apply below_drew1)|exact HB.out))));have n1_:=Aside0.mk (below_step (by repeat (first|(with_reducible first|exact HB.out|apply below_alloc|apply pw_below_drewN|apply below_drew1)|exact HB.out)) hb);clear HB;have HO116:=n0_;have HB:=n1_;clear n0_ n1_;(try clear hb);(try clear hb2);(try clear hk);(try clear hi);(try clear ho0);obtain ⟨Ao35,co35,eo35⟩:=Kd.R_slice HO116.out;subst eo35)|((with_reducible refine gate_callee (f:=15) rfl ?_);refine goesL_ (some 16) rfl rfl Tryd.func15 (by kernel_rfl) rfl #[.slice Ao35 t112.length co35] rfl (by (try simp only [List.map_toArray,List.map_cons,List.map_nil]);first|done|rfl|(simp only [List.length_drop,List.length_take];rfl)) ?_;(with_reducible refine (jsontext_Print.calls _ _ t112 t117 t118 _ ?side3 ?side1 ?side2 A2.out).mono ?_);(case side1 => repeat (first|exact (Kd.R_reads' HO116.out).2.2|(with_reducible refine Kd.C_alloc ?_ _)|(with_reducible refine Kd.C_drewN ?_ _)|(with_reducible refine Kd.C_drew ?_)));(case side2 => exact (Kd.R_reads' HO116.out).2.1);(case side3 => first|exact HGU8.out|exact GlobU8.below HGU8.out (by repeat (first|(with_reducible first|exact HB.out|apply below_alloc|apply pw_below_drewN|apply below_drew1)|exact HB.out))|exact GlobU8.drawn HGU8.out (by repeat (first|exact Drawn0.refl _|apply Drawn0.step)));rintro e w36 ⟨rfl,hb⟩;refine ⟨_,rfl,?_⟩;have n0_:=Aside0.mk (Kd.R_below (by (with_reducible repeat (first|apply Kd.R_alloc|apply Kd.R_drewN|apply Kd.R_drew));exact HO116.out) hb);have n1_:=Aside0.mk (below_step (by repeat (first|(with_reducible first|exact HB.out|apply below_alloc|apply pw_below_drewN|apply below_drew1)|exact HB.out)) hb);clear HO116;clear HB;have HO116:=n0_;have HB:=n1_;clear n0_ n1_;(try clear hb);(try clear hb2);(try clear hk);(try clear hi))|((with_reducible refine gate_callee (f:=10) rfl ?_);refine goesL_ (some 20) rfl rfl Tryd.func10 (by kernel_rfl) rfl #[.string (⟨#[91,49,44,93]⟩ : ByteArray)] rfl (by (try simp only [List.map_toArray,List.map_cons,List.map_nil]);first|done|rfl|(simp only [List.length_drop,List.length_take];rfl)) ?_;(with_reducible refine (jsontext_Parse.calls (⟨#[91,49,44,93]⟩ : ByteArray) t119 t120 t121 _ ?side1 A3.out).mono ?_);(case side1 => first|exact HGU8.out|exact GlobU8.below HGU8.out (by repeat (first|(with_reducible first|exact HB.out|apply below_alloc|apply pw_below_drewN|apply below_drew1)|exact HB.out))|exact GlobU8.drawn HGU8.out (by repeat (first|exact Drawn0.refl _|apply Drawn0.step)));rintro e w37 ⟨v122,rfl,ho0,hb⟩;refine ⟨_,rfl,?_⟩;have n0_:=Aside0.mk (Kd.R_elder' (by (with_reducible repeat (first|apply Kd.R_alloc|apply Kd.R_drewN|apply Kd.R_drew));exact HO116.out) (Kd.R_base ho0) hb);have n1_:=Aside0.mk (Kd.R_lower (Kd.R_new' ho0 (Kd.R_lt (by (with_reducible repeat (first|apply Kd.R_alloc|apply Kd.R_drewN|apply Kd.R_drew));exact HO116.out))) (below_size (by repeat (first|(with_reducible first|exact HB.out|apply below_alloc|apply pw_below_drewN|apply below_drew1)|exact HB.out))));have n2_:=Aside0.mk (below_step (by repeat (first|(with_reducible first|exact HB.out|apply below_alloc|apply pw_below_drewN|apply below_drew1)|exact HB.out)) hb);clear HO116;clear HB;have HO116:=n0_;have HO123:=n1_;have HB:=n2_;clear n0_ n1_ n2_;(try clear hb);(try clear hb2);(try clear hk);(try clear hi);(try clear ho0);have p124 : 0 ≤ (1 : Int):=(by omega);have q124 : 1 < (t112.length : Int):=of_decide_eq_true (by first|(with_reducible assumption)|assumption);obtain ⟨ad124,e124,hx124_0,hx124_1,hx124_2,hx124_3,hx124_4⟩:=at_T46 (Kd.R_reads' HO116.out).2.2 1 p124 q124;cases e124;(try simp only [show (1 : Int).toNat = 1 from rfl,Nat.reduceMul,Nat.reduceEqDiff,Go.Addr.add,↓reduceIte] at hx124_0);(try simp only [show (1 : Int).toNat = 1 from rfl,Nat.reduceMul,Nat.reduceEqDiff,Go.Addr.add,↓reduceIte] at hx124_1);(try simp only [show (1 : Int).toNat = 1 from rfl,Nat.reduceMul,Nat.reduceEqDiff,Go.Addr.add,↓reduceIte] at hx124_2);(try simp only [show (1 : Int).toNat = 1 from rfl,Nat.reduceMul,Nat.reduceEqDiff,Go.Addr.add,↓reduceIte] at hx124_3);(try simp only [show (1 : Int).toNat = 1 from rfl,Nat.reduceMul,Nat.reduceEqDiff,Go.Addr.add,↓reduceIte] at hx124_4);have qi124 : (1 < t112.length) = True:=eq_true (by omega);(try rw [show ((1 : Int)).toNat = 1 from rfl] at hx124_0);(try rw [show 1 * 5 = 5 from rfl] at hx124_0);(try rw [show ((1 : Int)).toNat = 1 from rfl] at hx124_1);(try rw [show 1 * 5 = 5 from rfl] at hx124_1);(try rw [show ((1 : Int)).toNat = 1 from rfl] at hx124_2);(try rw [show 1 * 5 = 5 from rfl] at hx124_2);(try rw [show ((1 : Int)).toNat = 1 from rfl] at hx124_3);(try rw [show 1 * 5 = 5 from rfl] at hx124_3);(try rw [show ((1 : Int)).toNat = 1 from rfl] at hx124_4);(try rw [show 1 * 5 = 5 from rfl] at hx124_4);replace p124:=eq_true p124;replace q124:=eq_true q124))
      go_ret
      exact ⟨by first|rfl|(simp [errW_none,errW_some] <;> rfl)|(simp [*,errW_none,errW_some] <;> rfl),by repeat (first|(with_reducible first|exact HB.out|apply below_alloc|apply pw_below_drewN|apply below_drew1)|exact HB.out)⟩
    ·rw [if_neg c7] at H
     exact absurd H (by simp)
   ·rw [if_neg c6] at H
    have c6b0 : (t114 == 0) = false:=beq_eq_false_iff_ne.mpr c6
    have c6b1 : (t114 != 0) = true:=bne_iff_ne.mpr c6
    obtain rfl:=Option.some.inj H
    go_enter Tryd.func13,Tryd.ntmps13
    go_wp2_with (first|((with_reducible refine gate_callee (f:=10) rfl ?_);refine goesL_ (some 10) rfl rfl Tryd.func10 (by kernel_rfl) rfl #[.string (⟨#[123,34,97,34,58,91,49,44,116,114,117,101,93,125]⟩ : ByteArray)] rfl (by (try simp only [List.map_toArray,List.map_cons,List.map_nil]);first|done|rfl|(simp only [List.length_drop,List.length_take];rfl)) ?_;(with_reducible refine (jsontext_Parse.calls (⟨#[123,34,97,34,58,91,49,44,116,114,117,101,93,125]⟩ : ByteArray) t112 t113 t114 _ ?side1 A1.out).mono ?_);(case side1 => first|exact HGU8.out|exact GlobU8.below HGU8.out (by repeat (first|(with_reducible first|exact HB.out|apply below_alloc|apply pw_below_drewN|apply below_drew1)|exact HB.out))|exact GlobU8.drawn HGU8.out (by repeat (first|exact Drawn0.refl _|apply Drawn0.step)));rintro e w38 ⟨v115,rfl,ho0,hb⟩;refine ⟨_,rfl,?_⟩;have n0_:=Aside0.mk (Kd.R_lower ho0 (below_size (by repeat (first|(with_reducible first|exact HB.out|apply below_alloc|apply pw_below_drewN|apply below_drew1)|exact HB.out))));have n1_:=Aside0.mk (below_step (by repeat (first|(with_reducible first|exact HB.out|apply below_alloc|apply pw_below_drewN|apply below_drew1)|exact HB.out)) hb);clear HB;have HO116:=n0_;have HB:=n1_;clear n0_ n1_;(try clear hb);(try clear hb2);(try clear hk);(try clear hi);(try clear ho0);obtain ⟨Ao39,co39,eo39⟩:=Kd.R_slice HO116.out;subst eo39)|((with_reducible refine gate_callee (f:=15) rfl ?_);refine goesL_ (some 16) rfl rfl Tryd.func15 (by kernel_rfl) rfl #[.slice Ao39 t112.length co39] rfl (by (try simp only [List.map_toArray,List.map_cons,List.map_nil]);first|done|rfl|(simp only [List.length_drop,List.length_take];rfl)) ?_;(with_reducible refine (jsontext_Print.calls _ _ t112 t117 t118 _ ?side3 ?side1 ?side2 A2.out).mono ?_);(case side1 => repeat (first|exact (Kd.R_reads' HO116.out).2.2|(with_reducible refine Kd.C_alloc ?_ _)|(with_reducible refine Kd.C_drewN ?_ _)|(with_reducible refine Kd.C_drew ?_)));(case side2 => exact (Kd.R_reads' HO116.out).2.1);(case side3 => first|exact HGU8.out|exact GlobU8.below HGU8.out (by repeat (first|(with_reducible first|exact HB.out|apply below_alloc|apply pw_below_drewN|apply below_drew1)|exact HB.out))|exact GlobU8.drawn HGU8.out (by repeat (first|exact Drawn0.refl _|apply Drawn0.step)));rintro e w40 ⟨rfl,hb⟩;refine ⟨_,rfl,?_⟩;have n0_:=Aside0.mk (Kd.R_below (by (with_reducible repeat (first|apply Kd.R_alloc|apply Kd.R_drewN|apply Kd.R_drew));exact HO116.out) hb);have n1_:=Aside0.mk (below_step (by repeat (first|(with_reducible first|exact HB.out|apply below_alloc|apply pw_below_drewN|apply below_drew1)|exact HB.out)) hb);clear HO116;clear HB;have HO116:=n0_;have HB:=n1_;clear n0_ n1_;(try clear hb);(try clear hb2);(try clear hk);(try clear hi))|((with_reducible refine gate_callee (f:=10) rfl ?_);refine goesL_ (some 20) rfl rfl Tryd.func10 (by kernel_rfl) rfl #[.string (⟨#[91,49,44,93]⟩ : ByteArray)] rfl (by (try simp only [List.map_toArray,List.map_cons,List.map_nil]);first|done|rfl|(simp only [List.length_drop,List.length_take];rfl)) ?_;(with_reducible refine (jsontext_Parse.calls (⟨#[91,49,44,93]⟩ : ByteArray) t119 t120 t121 _ ?side1 A3.out).mono ?_);(case side1 => first|exact HGU8.out|exact GlobU8.below HGU8.out (by repeat (first|(with_reducible first|exact HB.out|apply below_alloc|apply pw_below_drewN|apply below_drew1)|exact HB.out))|exact GlobU8.drawn HGU8.out (by repeat (first|exact Drawn0.refl _|apply Drawn0.step)));rintro e w41 ⟨v122,rfl,ho0,hb⟩;refine ⟨_,rfl,?_⟩;have n0_:=Aside0.mk (Kd.R_elder' (by (with_reducible repeat (first|apply Kd.R_alloc|apply Kd.R_drewN|apply Kd.R_drew));exact HO116.out) (Kd.R_base ho0) hb);have n1_:=Aside0.mk (Kd.R_lower (Kd.R_new' ho0 (Kd.R_lt (by (with_reducible repeat (first|apply Kd.R_alloc|apply Kd.R_drewN|apply Kd.R_drew));exact HO116.out))) (below_size (by repeat (first|(with_reducible first|exact HB.out|apply below_alloc|apply pw_below_drewN|apply below_drew1)|exact HB.out))));have n2_:=Aside0.mk (below_step (by repeat (first|(with_reducible first|exact HB.out|apply below_alloc|apply pw_below_drewN|apply below_drew1)|exact HB.out)) hb);clear HO116;clear HB;have HO116:=n0_;have HO123:=n1_;have HB:=n2_;clear n0_ n1_ n2_;(try clear hb);(try clear hb2);(try clear hk);(try clear hi);(try clear ho0)))
    go_ret
    exact ⟨by first|rfl|(simp [errW_none,errW_some] <;> rfl)|(simp [*,errW_none,errW_some] <;> rfl),by repeat (first|(with_reducible first|exact HB.out|apply below_alloc|apply pw_below_drewN|apply below_drew1)|exact HB.out)⟩
  ·rw [if_neg c5] at H
   have c5b0 : (t113 == 0) = false:=beq_eq_false_iff_ne.mpr c5
   have c5b1 : (t113 != 0) = true:=bne_iff_ne.mpr c5
   obtain rfl:=Option.some.inj H
   go_enter Tryd.func13,Tryd.ntmps13
   go_wp2_with (first|((with_reducible refine gate_callee (f:=10) rfl ?_);refine goesL_ (some 10) rfl rfl Tryd.func10 (by kernel_rfl) rfl #[.string (⟨#[123,34,97,34,58,91,49,44,116,114,117,101,93,125]⟩ : ByteArray)] rfl (by (try simp only [List.map_toArray,List.map_cons,List.map_nil]);first|done|rfl|(simp only [List.length_drop,List.length_take];rfl)) ?_;(with_reducible refine (jsontext_Parse.calls (⟨#[123,34,97,34,58,91,49,44,116,114,117,101,93,125]⟩ : ByteArray) t112 t113 t114 _ ?side1 A1.out).mono ?_);(case side1 => first|exact HGU8.out|exact GlobU8.below HGU8.out (by repeat (first|(with_reducible first|exact HB.out|apply below_alloc|apply pw_below_drewN|apply below_drew1)|exact HB.out))|exact GlobU8.drawn HGU8.out (by repeat (first|exact Drawn0.refl _|apply Drawn0.step)));rintro e w42 ⟨v115,rfl,ho0,hb⟩;refine ⟨_,rfl,?_⟩;have n0_:=Aside0.mk (Kd.R_lower ho0 (below_size (by repeat (first|(with_reducible first|exact HB.out|apply below_alloc|apply pw_below_drewN|apply below_drew1)|exact HB.out))));have n1_:=Aside0.mk (below_step (by repeat (first|(with_reducible first|exact HB.out|apply below_alloc|apply pw_below_drewN|apply below_drew1)|exact HB.out)) hb);clear HB;have HO116:=n0_;have HB:=n1_;clear n0_ n1_;(try clear hb);(try clear hb2);(try clear hk);(try clear hi);(try clear ho0);obtain ⟨Ao43,co43,eo43⟩:=Kd.R_slice HO116.out;subst eo43)|((with_reducible refine gate_callee (f:=15) rfl ?_);refine goesL_ (some 16) rfl rfl Tryd.func15 (by kernel_rfl) rfl #[.slice Ao43 t112.length co43] rfl (by (try simp only [List.map_toArray,List.map_cons,List.map_nil]);first|done|rfl|(simp only [List.length_drop,List.length_take];rfl)) ?_;(with_reducible refine (jsontext_Print.calls _ _ t112 t117 t118 _ ?side3 ?side1 ?side2 A2.out).mono ?_);(case side1 => repeat (first|exact (Kd.R_reads' HO116.out).2.2|(with_reducible refine Kd.C_alloc ?_ _)|(with_reducible refine Kd.C_drewN ?_ _)|(with_reducible refine Kd.C_drew ?_)));(case side2 => exact (Kd.R_reads' HO116.out).2.1);(case side3 => first|exact HGU8.out|exact GlobU8.below HGU8.out (by repeat (first|(with_reducible first|exact HB.out|apply below_alloc|apply pw_below_drewN|apply below_drew1)|exact HB.out))|exact GlobU8.drawn HGU8.out (by repeat (first|exact Drawn0.refl _|apply Drawn0.step)));rintro e w44 ⟨rfl,hb⟩;refine ⟨_,rfl,?_⟩;have n0_:=Aside0.mk (Kd.R_below (by (with_reducible repeat (first|apply Kd.R_alloc|apply Kd.R_drewN|apply Kd.R_drew));exact HO116.out) hb);have n1_:=Aside0.mk (below_step (by repeat (first|(with_reducible first|exact HB.out|apply below_alloc|apply pw_below_drewN|apply below_drew1)|exact HB.out)) hb);clear HO116;clear HB;have HO116:=n0_;have HB:=n1_;clear n0_ n1_;(try clear hb);(try clear hb2);(try clear hk);(try clear hi))|((with_reducible refine gate_callee (f:=10) rfl ?_);refine goesL_ (some 20) rfl rfl Tryd.func10 (by kernel_rfl) rfl #[.string (⟨#[91,49,44,93]⟩ : ByteArray)] rfl (by (try simp only [List.map_toArray,List.map_cons,List.map_nil]);first|done|rfl|(simp only [List.length_drop,List.length_take];rfl)) ?_;(with_reducible refine (jsontext_Parse.calls (⟨#[91,49,44,93]⟩ : ByteArray) t119 t120 t121 _ ?side1 A3.out).mono ?_);(case side1 => first|exact HGU8.out|exact GlobU8.below HGU8.out (by repeat (first|(with_reducible first|exact HB.out|apply below_alloc|apply pw_below_drewN|apply below_drew1)|exact HB.out))|exact GlobU8.drawn HGU8.out (by repeat (first|exact Drawn0.refl _|apply Drawn0.step)));rintro e w45 ⟨v122,rfl,ho0,hb⟩;refine ⟨_,rfl,?_⟩;have n0_:=Aside0.mk (Kd.R_elder' (by (with_reducible repeat (first|apply Kd.R_alloc|apply Kd.R_drewN|apply Kd.R_drew));exact HO116.out) (Kd.R_base ho0) hb);have n1_:=Aside0.mk (Kd.R_lower (Kd.R_new' ho0 (Kd.R_lt (by (with_reducible repeat (first|apply Kd.R_alloc|apply Kd.R_drewN|apply Kd.R_drew));exact HO116.out))) (below_size (by repeat (first|(with_reducible first|exact HB.out|apply below_alloc|apply pw_below_drewN|apply below_drew1)|exact HB.out))));have n2_:=Aside0.mk (below_step (by repeat (first|(with_reducible first|exact HB.out|apply below_alloc|apply pw_below_drewN|apply below_drew1)|exact HB.out)) hb);clear HO116;clear HB;have HO116:=n0_;have HO123:=n1_;have HB:=n2_;clear n0_ n1_ n2_;(try clear hb);(try clear hb2);(try clear hk);(try clear hi);(try clear ho0)))
   go_ret
   exact ⟨by first|rfl|(simp [errW_none,errW_some] <;> rfl)|(simp [*,errW_none,errW_some] <;> rfl),by repeat (first|(with_reducible first|exact HB.out|apply below_alloc|apply pw_below_drewN|apply below_drew1)|exact HB.out)⟩
 ·rw [if_neg c4] at H
  have c4b0 : ((t112.length : Int) == 4) = false:=beq_eq_false_iff_ne.mpr c4
  have c4b1 : ((t112.length : Int) != 4) = true:=bne_iff_ne.mpr c4
  obtain rfl:=Option.some.inj H
  go_enter Tryd.func13,Tryd.ntmps13
  go_wp2_with (first|((with_reducible refine gate_callee (f:=10) rfl ?_);refine goesL_ (some 10) rfl rfl Tryd.func10 (by kernel_rfl) rfl #[.string (⟨#[123,34,97,34,58,91,49,44,116,114,117,101,93,125]⟩ : ByteArray)] rfl (by (try simp only [List.map_toArray,List.map_cons,List.map_nil]);first|done|rfl|(simp only [List.length_drop,List.length_take];rfl)) ?_;(with_reducible refine (jsontext_Parse.calls (⟨#[123,34,97,34,58,91,49,44,116,114,117,101,93,125]⟩ : ByteArray) t112 t113 t114 _ ?side1 A1.out).mono ?_);(case side1 => first|exact HGU8.out|exact GlobU8.below HGU8.out (by repeat (first|(with_reducible first|exact HB.out|apply below_alloc|apply pw_below_drewN|apply below_drew1)|exact HB.out))|exact GlobU8.drawn HGU8.out (by repeat (first|exact Drawn0.refl _|apply Drawn0.step)));rintro e w46 ⟨v115,rfl,ho0,hb⟩;refine ⟨_,rfl,?_⟩;have n0_:=Aside0.mk (Kd.R_lower ho0 (below_size (by repeat (first|(with_reducible first|exact HB.out|apply below_alloc|apply pw_below_drewN|apply below_drew1)|exact HB.out))));have n1_:=Aside0.mk (below_step (by repeat (first|(with_reducible first|exact HB.out|apply below_alloc|apply pw_below_drewN|apply below_drew1)|exact HB.out)) hb);clear HB;have HO116:=n0_;have HB:=n1_;clear n0_ n1_;(try clear hb);(try clear hb2);(try clear hk);(try clear hi);(try clear ho0);obtain ⟨Ao47,co47,eo47⟩:=Kd.R_slice HO116.out;subst eo47)|((with_reducible refine gate_callee (f:=15) rfl ?_);refine goesL_ (some 16) rfl rfl Tryd.func15 (by kernel_rfl) rfl #[.slice Ao47 t112.length co47] rfl (by (try simp only [List.map_toArray,List.map_cons,List.map_nil]);first|done|rfl|(simp only [List.length_drop,List.length_take];rfl)) ?_;(with_reducible refine (jsontext_Print.calls _ _ t112 t117 t118 _ ?side3 ?side1 ?side2 A2.out).mono ?_);(case side1 => repeat (first|exact (Kd.R_reads' HO116.out).2.2|(with_reducible refine Kd.C_alloc ?_ _)|(with_reducible refine Kd.C_drewN ?_ _)|(with_reducible refine Kd.C_drew ?_)));(case side2 => exact (Kd.R_reads' HO116.out).2.1);(case side3 => first|exact HGU8.out|exact GlobU8.below HGU8.out (by repeat (first|(with_reducible first|exact HB.out|apply below_alloc|apply pw_below_drewN|apply below_drew1)|exact HB.out))|exact GlobU8.drawn HGU8.out (by repeat (first|exact Drawn0.refl _|apply Drawn0.step)));rintro e w48 ⟨rfl,hb⟩;refine ⟨_,rfl,?_⟩;have n0_:=Aside0.mk (Kd.R_below (by (with_reducible repeat (first|apply Kd.R_alloc|apply Kd.R_drewN|apply Kd.R_drew));exact HO116.out) hb);have n1_:=Aside0.mk (below_step (by repeat (first|(with_reducible first|exact HB.out|apply below_alloc|apply pw_below_drewN|apply below_drew1)|exact HB.out)) hb);clear HO116;clear HB;have HO116:=n0_;have HB:=n1_;clear n0_ n1_;(try clear hb);(try clear hb2);(try clear hk);(try clear hi))|((with_reducible refine gate_callee (f:=10) rfl ?_);refine goesL_ (some 20) rfl rfl Tryd.func10 (by kernel_rfl) rfl #[.string (⟨#[91,49,44,93]⟩ : ByteArray)] rfl (by (try simp only [List.map_toArray,List.map_cons,List.map_nil]);first|done|rfl|(simp only [List.length_drop,List.length_take];rfl)) ?_;(with_reducible refine (jsontext_Parse.calls (⟨#[91,49,44,93]⟩ : ByteArray) t119 t120 t121 _ ?side1 A3.out).mono ?_);(case side1 => first|exact HGU8.out|exact GlobU8.below HGU8.out (by repeat (first|(with_reducible first|exact HB.out|apply below_alloc|apply pw_below_drewN|apply below_drew1)|exact HB.out))|exact GlobU8.drawn HGU8.out (by repeat (first|exact Drawn0.refl _|apply Drawn0.step)));rintro e w49 ⟨v122,rfl,ho0,hb⟩;refine ⟨_,rfl,?_⟩;have n0_:=Aside0.mk (Kd.R_elder' (by (with_reducible repeat (first|apply Kd.R_alloc|apply Kd.R_drewN|apply Kd.R_drew));exact HO116.out) (Kd.R_base ho0) hb);have n1_:=Aside0.mk (Kd.R_lower (Kd.R_new' ho0 (Kd.R_lt (by (with_reducible repeat (first|apply Kd.R_alloc|apply Kd.R_drewN|apply Kd.R_drew));exact HO116.out))) (below_size (by repeat (first|(with_reducible first|exact HB.out|apply below_alloc|apply pw_below_drewN|apply below_drew1)|exact HB.out))));have n2_:=Aside0.mk (below_step (by repeat (first|(with_reducible first|exact HB.out|apply below_alloc|apply pw_below_drewN|apply below_drew1)|exact HB.out)) hb);clear HO116;clear HB;have HO116:=n0_;have HO123:=n1_;have HB:=n2_;clear n0_ n1_ n2_;(try clear hb);(try clear hb2);(try clear hk);(try clear hi);(try clear ho0)))
  go_ret
  exact ⟨by first|rfl|(simp [errW_none,errW_some] <;> rfl)|(simp [*,errW_none,errW_some] <;> rfl),by repeat (first|(with_reducible first|exact HB.out|apply below_alloc|apply pw_below_drewN|apply below_drew1)|exact HB.out)⟩
end Go.Proofs.YtadfkeipcebmfaaDoor.X
namespace Go.Proofs.YtadfkeipcebmfaaDoor.X
open Go.RowKit Go.Proofs.YtadfkeipcebmfaaDoorW.PrintWords Go.Proofs.YtadfkeipcebmfaaDoorW.PrintLast Go.Proofs.YtadfkeipcebmfaaDoorW.PrintMore
attribute [local go_sem] max2_int min2_int max_two min_two max_three min_three max_four min_four
set_option linter.unusedVariables false
set_option linter.unusedSimpArgs false
def racewaylaw25_JsontextParses.f (k : Nat) (a0 : ByteArray) : Option (Bool):=if 0 ≤ (mn (a0.size : Int) 2000) then (if (mn (a0.size : Int) 2000) ≤ (a0.size : Int) then ((jsontext_Parse.f (a0.extract 0 ((mn (a0.size : Int) 2000) : Int).toNat)).bind fun bt126 => ((racewayref25_Parse.f k (a0.extract 0 ((mn (a0.size : Int) 2000) : Int).toNat)).bind fun bt131 => ((racewayref25_Same.f k bt126.1 bt131.1).bind fun t136 => (if t136 = true then (if bt126.2.1 = bt131.2.1 then (if bt126.2.2 = bt131.2.2 then ((racewaylaw25_works.f).bind fun t137 => (some t137)) else (some false)) else (some false)) else (some false))))) else (none)) else (none)
set_option maxHeartbeats 8000000 in
set_option maxRecDepth 100000 in
theorem racewaylaw25_JsontextParses.calls (k : Nat) (a0 : ByteArray) (r : Bool) (w : World) (hGU8 : GlobU8 w) (h : racewaylaw25_JsontextParses.f k a0 = some r) :
  Calls Tryd.prog 3 #[.string a0] w fun e w' => e = .returned (.bool r) ∧ Below w.heap.size w w':=by
 have HGU8:=Aside0.mk hGU8
 clear hGU8
 have HB:=Aside0.mk (Below.refl w.heap.size w)
 have H : (if 0 ≤ (mn (a0.size : Int) 2000) then (if (mn (a0.size : Int) 2000) ≤ (a0.size : Int) then ((jsontext_Parse.f (a0.extract 0 ((mn (a0.size : Int) 2000) : Int).toNat)).bind fun bt126 => ((racewayref25_Parse.f k (a0.extract 0 ((mn (a0.size : Int) 2000) : Int).toNat)).bind fun bt131 => ((racewayref25_Same.f k bt126.1 bt131.1).bind fun t136 => (if t136 = true then (if bt126.2.1 = bt131.2.1 then (if bt126.2.2 = bt131.2.2 then ((racewaylaw25_works.f).bind fun t137 => (some t137)) else (some false)) else (some false)) else (some false))))) else (none)) else (none)) = some r:=h
 clear h
 obtain ⟨ji2,hji2⟩ : ∃ j_ : Int,(mn (a0.size : Int) 2000) = j_:=⟨_,rfl⟩
 replace H : (if 0 ≤ (ji2) then (if (ji2) ≤ (a0.size : Int) then ((jsontext_Parse.f (a0.extract 0 ((ji2) : Int).toNat)).bind fun bt126 => ((racewayref25_Parse.f k (a0.extract 0 ((ji2) : Int).toNat)).bind fun bt131 => ((racewayref25_Same.f k bt126.1 bt131.1).bind fun t136 => (if t136 = true then (if bt126.2.1 = bt131.2.1 then (if bt126.2.2 = bt131.2.2 then ((racewaylaw25_works.f).bind fun t137 => (some t137)) else (some false)) else (some false)) else (some false))))) else (none)) else (none)) = some r:=by first|(rw [hji2] at H;exact H)|(simp only [hji2] at H ⊢;exact H)
 (try (have hji2h : ji2 ≤ 2000:=by (rw [← hji2];unfold mn;(repeat' split) <;> omega)))
 (try (have hji2g : ji2 ≤ 64:=by omega))
 (try (have hji2l : 0 ≤ ji2:=by (rw [← hji2];unfold mn;(repeat' split) <;> omega)))
 (try (have hji2m : 0 ≤ ji2:=by omega))
 have hji2_ : (if 2000 < (a0.size : Int) then 2000 else (a0.size : Int)) = ji2:=hji2
 by_cases c3 : 0 ≤ (ji2)
 ·rw [if_pos c3] at H
  have c3b0:=eq_true c3
  have c3b1 : decide (0 ≤ (ji2)) = true:=decide_eq_true c3
  clear c3
  by_cases c4 : (ji2) ≤ (a0.size : Int)
  ·rw [if_pos c4] at H
   have c4b0:=eq_true c4
   have c4b1 : decide ((ji2) ≤ (a0.size : Int)) = true:=decide_eq_true c4
   clear c4
   replace H:=Option.bind_eq_some_iff.mp H
   obtain ⟨⟨t126,t127,t128⟩,A50,H⟩:=H
   replace H : ((racewayref25_Parse.f k (a0.extract 0 ((ji2) : Int).toNat)).bind fun bt131 => ((racewayref25_Same.f k t126 bt131.1).bind fun t136 => (if t136 = true then (if t127 = bt131.2.1 then (if t128 = bt131.2.2 then ((racewaylaw25_works.f).bind fun t137 => (some t137)) else (some false)) else (some false)) else (some false)))) = some r:=H
   have A5:=Aside0.mk A50
   clear A50
   replace H:=Option.bind_eq_some_iff.mp H
   obtain ⟨⟨t131,t132,t133⟩,A60,H⟩:=H
   replace H : ((racewayref25_Same.f k t126 t131).bind fun t136 => (if t136 = true then (if t127 = t132 then (if t128 = t133 then ((racewaylaw25_works.f).bind fun t137 => (some t137)) else (some false)) else (some false)) else (some false))) = some r:=H
   have A6:=Aside0.mk A60
   clear A60
   replace H:=Option.bind_eq_some_iff.mp H
   obtain ⟨t136,A70,H⟩:=H
   replace H : (if t136 = true then (if t127 = t132 then (if t128 = t133 then ((racewaylaw25_works.f).bind fun t137 => (some t137)) else (some false)) else (some false)) else (some false)) = some r:=H
   have A7:=Aside0.mk A70
   clear A70
   by_cases c8 : t136 = true
   ·subst c8
    have H1 : (if t127 = t132 then (if t128 = t133 then ((racewaylaw25_works.f).bind fun t137 => (some t137)) else (some false)) else (some false)) = some r:=by rw [if_pos rfl] at H;exact H
    clear H
    have H:=H1
    clear H1
    by_cases c9 : t127 = t132
    ·rw [if_pos c9] at H
     have c9b0 : (t127 == t132) = true:=beq_iff_eq.mpr c9
     have c9b1 : (t127 != t132) = false:=bne_eq_false_iff_eq.mpr c9
     clear c9
     by_cases c10 : t128 = t133
     ·rw [if_pos c10] at H
      have c10b0 : (t128 == t133) = true:=beq_iff_eq.mpr c10
      have c10b1 : (t128 != t133) = false:=bne_eq_false_iff_eq.mpr c10
      clear c10
      replace H:=Option.bind_eq_some_iff.mp H
      obtain ⟨t137,A110,H⟩:=H
      replace H : (some t137) = some r:=H
      have A11:=Aside0.mk A110
      clear A110
      obtain rfl:=Option.some.inj H
      go_enter Tryd.func3,Tryd.ntmps3
      go_wp2_with (first|((with_reducible refine gate_callee (f:=10) rfl ?_);refine goesL_ (some 16) rfl rfl Tryd.func10 (by kernel_rfl) rfl #[.string (a0.extract 0 ((ji2) : Int).toNat)] rfl (by (try simp only [List.map_toArray,List.map_cons,List.map_nil]);first|done|(simp only [hji2];rfl)|rfl|(simp only [List.length_drop,List.length_take];rfl)) ?_;(with_reducible refine (jsontext_Parse.calls (a0.extract 0 ((ji2) : Int).toNat) t126 t127 t128 _ ?side1 A5.out).mono ?_);(case side1 => first|exact HGU8.out|exact GlobU8.below HGU8.out (by repeat (first|(with_reducible first|exact HB.out|apply below_alloc|apply pw_below_drewN|apply below_drew1)|exact HB.out))|exact GlobU8.drawn HGU8.out (by repeat (first|exact Drawn0.refl _|apply Drawn0.step)));rintro e w12 ⟨v129,rfl,ho0,hb⟩;refine ⟨_,rfl,?_⟩;have n0_:=Aside0.mk (Kd.R_lower ho0 (below_size (by repeat (first|(with_reducible first|exact HB.out|apply below_alloc|apply pw_below_drewN|apply below_drew1)|exact HB.out))));have n1_:=Aside0.mk (below_step (by repeat (first|(with_reducible first|exact HB.out|apply below_alloc|apply pw_below_drewN|apply below_drew1)|exact HB.out)) hb);clear HB;have HO130:=n0_;have HB:=n1_;clear n0_ n1_;(try clear hb);(try clear hb2);(try clear hk);(try clear hi);(try clear ho0))|((with_reducible refine gate_callee (f:=11) rfl ?_);refine goesL_ (some 22) rfl rfl Tryd.func11 (by kernel_rfl) rfl #[.string (a0.extract 0 ((ji2) : Int).toNat)] rfl (by (try simp only [List.map_toArray,List.map_cons,List.map_nil]);first|done|(simp only [hji2];rfl)|rfl|(simp only [List.length_drop,List.length_take];rfl)) ?_;(with_reducible refine (racewayref25_Parse.calls k (a0.extract 0 ((ji2) : Int).toNat) t131 t132 t133 _ A6.out).mono ?_);rintro e w13 ⟨v134,rfl,ho0,hb⟩;refine ⟨_,rfl,?_⟩;have n0_:=Aside0.mk (Kd.R_elder' (by (with_reducible repeat (first|apply Kd.R_alloc|apply Kd.R_drewN|apply Kd.R_drew));exact HO130.out) (Kd.R_base ho0) hb);have n1_:=Aside0.mk (Kd.R_lower (Kd.R_new' ho0 (Kd.R_lt (by (with_reducible repeat (first|apply Kd.R_alloc|apply Kd.R_drewN|apply Kd.R_drew));exact HO130.out))) (below_size (by repeat (first|(with_reducible first|exact HB.out|apply below_alloc|apply pw_below_drewN|apply below_drew1)|exact HB.out))));have n2_:=Aside0.mk (below_step (by repeat (first|(with_reducible first|exact HB.out|apply below_alloc|apply pw_below_drewN|apply below_drew1)|exact HB.out)) hb);clear HO130;clear HB;have HO130:=n0_;have HO135:=n1_;have HB:=n2_;clear n0_ n1_ n2_;(try clear hb);(try clear hb2);(try clear hk);(try clear hi);(try clear ho0);obtain ⟨Ao14,co14,eo14⟩:=Kd.R_slice HO130.out;subst eo14;obtain ⟨Ao15,co15,eo15⟩:=Kd.R_slice HO135.out;subst eo15)|((with_reducible refine gate_callee (f:=12) rfl ?_);refine goesL_ (some 28) rfl rfl Tryd.func12 (by kernel_rfl) rfl #[.slice Ao14 t126.length co14,.slice Ao15 t131.length co15] rfl (by (try simp only [List.map_toArray,List.map_cons,List.map_nil]);first|done|rfl|(simp only [List.length_drop,List.length_take];rfl)) ?_;(with_reducible refine (racewayref25_Same.calls k _ _ t126 _ _ t131 true _ ?side1 ?side2 ?side3 ?side4 A7.out).mono ?_);(case side1 => repeat (first|exact (Kd.R_reads' HO130.out).2.2|(with_reducible refine Kd.C_alloc ?_ _)|(with_reducible refine Kd.C_drewN ?_ _)|(with_reducible refine Kd.C_drew ?_)));(case side2 => exact (Kd.R_reads' HO130.out).2.1);(case side3 => repeat (first|exact (Kd.R_reads' HO135.out).2.2|(with_reducible refine Kd.C_alloc ?_ _)|(with_reducible refine Kd.C_drewN ?_ _)|(with_reducible refine Kd.C_drew ?_)));(case side4 => exact (Kd.R_reads' HO135.out).2.1);rintro e w' ⟨rfl,⟨nd,rfl⟩⟩;refine ⟨_,rfl,?_⟩)|(go_at_call 13;(with_reducible refine (racewaylaw25_works.calls  t137 _ ?side1 A11.out).mono ?_);(case side1 => first|exact HGU8.out|exact GlobU8.below HGU8.out (by repeat (first|(with_reducible first|exact HB.out|apply below_alloc|apply pw_below_drewN|apply below_drew1)|exact HB.out))|exact GlobU8.drawn HGU8.out (by repeat (first|exact Drawn0.refl _|apply Drawn0.step)));rintro e w16 ⟨rfl,hb⟩;have n0_:=Aside0.mk (Kd.R_below (by (with_reducible repeat (first|apply Kd.R_alloc|apply Kd.R_drewN|apply Kd.R_drew));exact HO130.out) hb);have n1_:=Aside0.mk (Kd.R_below (by (with_reducible repeat (first|apply Kd.R_alloc|apply Kd.R_drewN|apply Kd.R_drew));exact HO135.out) hb);have n2_:=Aside0.mk (below_step (by repeat (first|(with_reducible first|exact HB.out|apply below_alloc|apply pw_below_drewN|apply below_drew1)|exact HB.out)) hb);clear HO130;clear HO135;clear HB;have HO130:=n0_;have HO135:=n1_;have HB:=n2_;clear n0_ n1_ n2_;(try clear hb);(try clear hb2);(try clear hk);(try clear hi)))
      go_ret
      exact ⟨by first|rfl|(simp [errW_none,errW_some] <;> rfl)|(simp only [← hji2];first|rfl|(simp [errW_none,errW_some] <;> rfl))|(simp [*,errW_none,errW_some] <;> rfl),by repeat (first|(with_reducible first|exact HB.out|apply below_alloc|apply pw_below_drewN|apply below_drew1)|exact HB.out)⟩
     ·rw [if_neg c10] at H
      have c10b0 : (t128 == t133) = false:=beq_eq_false_iff_ne.mpr c10
      have c10b1 : (t128 != t133) = true:=bne_iff_ne.mpr c10
      obtain rfl:=Option.some.inj H
      go_enter Tryd.func3,Tryd.ntmps3
      go_wp2_with (first|((with_reducible refine gate_callee (f:=10) rfl ?_);refine goesL_ (some 16) rfl rfl Tryd.func10 (by kernel_rfl) rfl #[.string (a0.extract 0 ((ji2) : Int).toNat)] rfl (by (try simp only [List.map_toArray,List.map_cons,List.map_nil]);first|done|(simp only [hji2];rfl)|rfl|(simp only [List.length_drop,List.length_take];rfl)) ?_;(with_reducible refine (jsontext_Parse.calls (a0.extract 0 ((ji2) : Int).toNat) t126 t127 t128 _ ?side1 A5.out).mono ?_);(case side1 => first|exact HGU8.out|exact GlobU8.below HGU8.out (by repeat (first|(with_reducible first|exact HB.out|apply below_alloc|apply pw_below_drewN|apply below_drew1)|exact HB.out))|exact GlobU8.drawn HGU8.out (by repeat (first|exact Drawn0.refl _|apply Drawn0.step)));rintro e w17 ⟨v129,rfl,ho0,hb⟩;refine ⟨_,rfl,?_⟩;have n0_:=Aside0.mk (Kd.R_lower ho0 (below_size (by repeat (first|(with_reducible first|exact HB.out|apply below_alloc|apply pw_below_drewN|apply below_drew1)|exact HB.out))));have n1_:=Aside0.mk (below_step (by repeat (first|(with_reducible first|exact HB.out|apply below_alloc|apply pw_below_drewN|apply below_drew1)|exact HB.out)) hb);clear HB;have HO130:=n0_;have HB:=n1_;clear n0_ n1_;(try clear hb);(try clear hb2);(try clear hk);(try clear hi);(try clear ho0))|((with_reducible refine gate_callee (f:=11) rfl ?_);refine goesL_ (some 22) rfl rfl Tryd.func11 (by kernel_rfl) rfl #[.string (a0.extract 0 ((ji2) : Int).toNat)] rfl (by (try simp only [List.map_toArray,List.map_cons,List.map_nil]);first|done|(simp only [hji2];rfl)|rfl|(simp only [List.length_drop,List.length_take];rfl)) ?_;(with_reducible refine (racewayref25_Parse.calls k (a0.extract 0 ((ji2) : Int).toNat) t131 t132 t133 _ A6.out).mono ?_);rintro e w18 ⟨v134,rfl,ho0,hb⟩;refine ⟨_,rfl,?_⟩;have n0_:=Aside0.mk (Kd.R_elder' (by (with_reducible repeat (first|apply Kd.R_alloc|apply Kd.R_drewN|apply Kd.R_drew));exact HO130.out) (Kd.R_base ho0) hb);have n1_:=Aside0.mk (Kd.R_lower (Kd.R_new' ho0 (Kd.R_lt (by (with_reducible repeat (first|apply Kd.R_alloc|apply Kd.R_drewN|apply Kd.R_drew));exact HO130.out))) (below_size (by repeat (first|(with_reducible first|exact HB.out|apply below_alloc|apply pw_below_drewN|apply below_drew1)|exact HB.out))));have n2_:=Aside0.mk (below_step (by repeat (first|(with_reducible first|exact HB.out|apply below_alloc|apply pw_below_drewN|apply below_drew1)|exact HB.out)) hb);clear HO130;clear HB;have HO130:=n0_;have HO135:=n1_;have HB:=n2_;clear n0_ n1_ n2_;(try clear hb);(try clear hb2);(try clear hk);(try clear hi);(try clear ho0);obtain ⟨Ao19,co19,eo19⟩:=Kd.R_slice HO130.out;subst eo19;obtain ⟨Ao20,co20,eo20⟩:=Kd.R_slice HO135.out;subst eo20)|((with_reducible refine gate_callee (f:=12) rfl ?_);refine goesL_ (some 28) rfl rfl Tryd.func12 (by kernel_rfl) rfl #[.slice Ao19 t126.length co19,.slice Ao20 t131.length co20] rfl (by (try simp only [List.map_toArray,List.map_cons,List.map_nil]);first|done|rfl|(simp only [List.length_drop,List.length_take];rfl)) ?_;(with_reducible refine (racewayref25_Same.calls k _ _ t126 _ _ t131 true _ ?side1 ?side2 ?side3 ?side4 A7.out).mono ?_);(case side1 => repeat (first|exact (Kd.R_reads' HO130.out).2.2|(with_reducible refine Kd.C_alloc ?_ _)|(with_reducible refine Kd.C_drewN ?_ _)|(with_reducible refine Kd.C_drew ?_)));(case side2 => exact (Kd.R_reads' HO130.out).2.1);(case side3 => repeat (first|exact (Kd.R_reads' HO135.out).2.2|(with_reducible refine Kd.C_alloc ?_ _)|(with_reducible refine Kd.C_drewN ?_ _)|(with_reducible refine Kd.C_drew ?_)));(case side4 => exact (Kd.R_reads' HO135.out).2.1);rintro e w' ⟨rfl,⟨nd,rfl⟩⟩;refine ⟨_,rfl,?_⟩))
      go_ret
      exact ⟨by first|rfl|(simp [errW_none,errW_some] <;> rfl)|(simp only [← hji2];first|rfl|(simp [errW_none,errW_some] <;> rfl))|(simp [*,errW_none,errW_some] <;> rfl),by repeat (first|(with_reducible first|exact HB.out|apply below_alloc|apply pw_below_drewN|apply below_drew1)|exact HB.out)⟩
    ·rw [if_neg c9] at H
     have c9b0 : (t127 == t132) = false:=beq_eq_false_iff_ne.mpr c9
     have c9b1 : (t127 != t132) = true:=bne_iff_ne.mpr c9
     obtain rfl:=Option.some.inj H
     go_enter Tryd.func3,Tryd.ntmps3
     go_wp2_with (first|((with_reducible refine gate_callee (f:=10) rfl ?_);refine goesL_ (some 16) rfl rfl Tryd.func10 (by kernel_rfl) rfl #[.string (a0.extract 0 ((ji2) : Int).toNat)] rfl (by (try simp only [List.map_toArray,List.map_cons,List.map_nil]);first|done|(simp only [hji2];rfl)|rfl|(simp only [List.length_drop,List.length_take];rfl)) ?_;(with_reducible refine (jsontext_Parse.calls (a0.extract 0 ((ji2) : Int).toNat) t126 t127 t128 _ ?side1 A5.out).mono ?_);(case side1 => first|exact HGU8.out|exact GlobU8.below HGU8.out (by repeat (first|(with_reducible first|exact HB.out|apply below_alloc|apply pw_below_drewN|apply below_drew1)|exact HB.out))|exact GlobU8.drawn HGU8.out (by repeat (first|exact Drawn0.refl _|apply Drawn0.step)));rintro e w21 ⟨v129,rfl,ho0,hb⟩;refine ⟨_,rfl,?_⟩;have n0_:=Aside0.mk (Kd.R_lower ho0 (below_size (by repeat (first|(with_reducible first|exact HB.out|apply below_alloc|apply pw_below_drewN|apply below_drew1)|exact HB.out))));have n1_:=Aside0.mk (below_step (by repeat (first|(with_reducible first|exact HB.out|apply below_alloc|apply pw_below_drewN|apply below_drew1)|exact HB.out)) hb);clear HB;have HO130:=n0_;have HB:=n1_;clear n0_ n1_;(try clear hb);(try clear hb2);(try clear hk);(try clear hi);(try clear ho0))|((with_reducible refine gate_callee (f:=11) rfl ?_);refine goesL_ (some 22) rfl rfl Tryd.func11 (by kernel_rfl) rfl #[.string (a0.extract 0 ((ji2) : Int).toNat)] rfl (by (try simp only [List.map_toArray,List.map_cons,List.map_nil]);first|done|(simp only [hji2];rfl)|rfl|(simp only [List.length_drop,List.length_take];rfl)) ?_;(with_reducible refine (racewayref25_Parse.calls k (a0.extract 0 ((ji2) : Int).toNat) t131 t132 t133 _ A6.out).mono ?_);rintro e w22 ⟨v134,rfl,ho0,hb⟩;refine ⟨_,rfl,?_⟩;have n0_:=Aside0.mk (Kd.R_elder' (by (with_reducible repeat (first|apply Kd.R_alloc|apply Kd.R_drewN|apply Kd.R_drew));exact HO130.out) (Kd.R_base ho0) hb);have n1_:=Aside0.mk (Kd.R_lower (Kd.R_new' ho0 (Kd.R_lt (by (with_reducible repeat (first|apply Kd.R_alloc|apply Kd.R_drewN|apply Kd.R_drew));exact HO130.out))) (below_size (by repeat (first|(with_reducible first|exact HB.out|apply below_alloc|apply pw_below_drewN|apply below_drew1)|exact HB.out))));have n2_:=Aside0.mk (below_step (by repeat (first|(with_reducible first|exact HB.out|apply below_alloc|apply pw_below_drewN|apply below_drew1)|exact HB.out)) hb);clear HO130;clear HB;have HO130:=n0_;have HO135:=n1_;have HB:=n2_;clear n0_ n1_ n2_;(try clear hb);(try clear hb2);(try clear hk);(try clear hi);(try clear ho0);obtain ⟨Ao23,co23,eo23⟩:=Kd.R_slice HO130.out;subst eo23;obtain ⟨Ao24,co24,eo24⟩:=Kd.R_slice HO135.out;subst eo24)|((with_reducible refine gate_callee (f:=12) rfl ?_);refine goesL_ (some 28) rfl rfl Tryd.func12 (by kernel_rfl) rfl #[.slice Ao23 t126.length co23,.slice Ao24 t131.length co24] rfl (by (try simp only [List.map_toArray,List.map_cons,List.map_nil]);first|done|rfl|(simp only [List.length_drop,List.length_take];rfl)) ?_;(with_reducible refine (racewayref25_Same.calls k _ _ t126 _ _ t131 true _ ?side1 ?side2 ?side3 ?side4 A7.out).mono ?_);(case side1 => repeat (first|exact (Kd.R_reads' HO130.out).2.2|(with_reducible refine Kd.C_alloc ?_ _)|(with_reducible refine Kd.C_drewN ?_ _)|(with_reducible refine Kd.C_drew ?_)));(case side2 => exact (Kd.R_reads' HO130.out).2.1);(case side3 => repeat (first|exact (Kd.R_reads' HO135.out).2.2|(with_reducible refine Kd.C_alloc ?_ _)|(with_reducible refine Kd.C_drewN ?_ _)|(with_reducible refine Kd.C_drew ?_)));(case side4 => exact (Kd.R_reads' HO135.out).2.1);rintro e w' ⟨rfl,⟨nd,rfl⟩⟩;refine ⟨_,rfl,?_⟩))
     go_ret
     exact ⟨by first|rfl|(simp [errW_none,errW_some] <;> rfl)|(simp only [← hji2];first|rfl|(simp [errW_none,errW_some] <;> rfl))|(simp [*,errW_none,errW_some] <;> rfl),by repeat (first|(with_reducible first|exact HB.out|apply below_alloc|apply pw_below_drewN|apply below_drew1)|exact HB.out)⟩
   ·replace c8:=Bool.eq_false_iff.mpr c8
    subst c8
    have H1 : (some false) = some r:=by rw [if_neg (show ¬ (false = true) by decide)] at H;exact H
    clear H
    have H:=H1
    clear H1
    obtain rfl:=Option.some.inj H
    go_enter Tryd.func3,Tryd.ntmps3
    go_wp2_with (first|((with_reducible refine gate_callee (f:=10) rfl ?_);refine goesL_ (some 16) rfl rfl Tryd.func10 (by kernel_rfl) rfl #[.string (a0.extract 0 ((ji2) : Int).toNat)] rfl (by (try simp only [List.map_toArray,List.map_cons,List.map_nil]);first|done|(simp only [hji2];rfl)|rfl|(simp only [List.length_drop,List.length_take];rfl)) ?_;(with_reducible refine (jsontext_Parse.calls (a0.extract 0 ((ji2) : Int).toNat) t126 t127 t128 _ ?side1 A5.out).mono ?_);(case side1 => first|exact HGU8.out|exact GlobU8.below HGU8.out (by repeat (first|(with_reducible first|exact HB.out|apply below_alloc|apply pw_below_drewN|apply below_drew1)|exact HB.out))|exact GlobU8.drawn HGU8.out (by repeat (first|exact Drawn0.refl _|apply Drawn0.step)));rintro e w25 ⟨v129,rfl,ho0,hb⟩;refine ⟨_,rfl,?_⟩;have n0_:=Aside0.mk (Kd.R_lower ho0 (below_size (by repeat (first|(with_reducible first|exact HB.out|apply below_alloc|apply pw_below_drewN|apply below_drew1)|exact HB.out))));have n1_:=Aside0.mk (below_step (by repeat (first|(with_reducible first|exact HB.out|apply below_alloc|apply pw_below_drewN|apply below_drew1)|exact HB.out)) hb);clear HB;have HO130:=n0_;have HB:=n1_;clear n0_ n1_;(try clear hb);(try clear hb2);(try clear hk);(try clear hi);(try clear ho0))|((with_reducible refine gate_callee (f:=11) rfl ?_);refine goesL_ (some 22) rfl rfl Tryd.func11 (by kernel_rfl) rfl #[.string (a0.extract 0 ((ji2) : Int).toNat)] rfl (by (try simp only [List.map_toArray,List.map_cons,List.map_nil]);first|done|(simp only [hji2];rfl)|rfl|(simp only [List.length_drop,List.length_take];rfl)) ?_;(with_reducible refine (racewayref25_Parse.calls k (a0.extract 0 ((ji2) : Int).toNat) t131 t132 t133 _ A6.out).mono ?_);rintro e w26 ⟨v134,rfl,ho0,hb⟩;refine ⟨_,rfl,?_⟩;have n0_:=Aside0.mk (Kd.R_elder' (by (with_reducible repeat (first|apply Kd.R_alloc|apply Kd.R_drewN|apply Kd.R_drew));exact HO130.out) (Kd.R_base ho0) hb);have n1_:=Aside0.mk (Kd.R_lower (Kd.R_new' ho0 (Kd.R_lt (by (with_reducible repeat (first|apply Kd.R_alloc|apply Kd.R_drewN|apply Kd.R_drew));exact HO130.out))) (below_size (by repeat (first|(with_reducible first|exact HB.out|apply below_alloc|apply pw_below_drewN|apply below_drew1)|exact HB.out))));have n2_:=Aside0.mk (below_step (by repeat (first|(with_reducible first|exact HB.out|apply below_alloc|apply pw_below_drewN|apply below_drew1)|exact HB.out)) hb);clear HO130;clear HB;have HO130:=n0_;have HO135:=n1_;have HB:=n2_;clear n0_ n1_ n2_;(try clear hb);(try clear hb2);(try clear hk);(try clear hi);(try clear ho0);obtain ⟨Ao27,co27,eo27⟩:=Kd.R_slice HO130.out;subst eo27;obtain ⟨Ao28,co28,eo28⟩:=Kd.R_slice HO135.out;subst eo28)|((with_reducible refine gate_callee (f:=12) rfl ?_);refine goesL_ (some 28) rfl rfl Tryd.func12 (by kernel_rfl) rfl #[.slice Ao27 t126.length co27,.slice Ao28 t131.length co28] rfl (by (try simp only [List.map_toArray,List.map_cons,List.map_nil]);first|done|rfl|(simp only [List.length_drop,List.length_take];rfl)) ?_;(with_reducible refine (racewayref25_Same.calls k _ _ t126 _ _ t131 false _ ?side1 ?side2 ?side3 ?side4 A7.out).mono ?_);(case side1 => repeat (first|exact (Kd.R_reads' HO130.out).2.2|(with_reducible refine Kd.C_alloc ?_ _)|(with_reducible refine Kd.C_drewN ?_ _)|(with_reducible refine Kd.C_drew ?_)));(case side2 => exact (Kd.R_reads' HO130.out).2.1);(case side3 => repeat (first|exact (Kd.R_reads' HO135.out).2.2|(with_reducible refine Kd.C_alloc ?_ _)|(with_reducible refine Kd.C_drewN ?_ _)|(with_reducible refine Kd.C_drew ?_)));(case side4 => exact (Kd.R_reads' HO135.out).2.1);rintro e w' ⟨rfl,⟨nd,rfl⟩⟩;refine ⟨_,rfl,?_⟩))
    go_ret
    exact ⟨by first|rfl|(simp [errW_none,errW_some] <;> rfl)|(simp only [← hji2];first|rfl|(simp [errW_none,errW_some] <;> rfl))|(simp [*,errW_none,errW_some] <;> rfl),by repeat (first|(with_reducible first|exact HB.out|apply below_alloc|apply pw_below_drewN|apply below_drew1)|exact HB.out)⟩
  ·rw [if_neg c4] at H
   exact absurd H (by simp)
 ·rw [if_neg c3] at H
  exact absurd H (by simp)
def racewaylaw25_JsontextParses.Pure : Prop:=∀ (a0 : ByteArray),a0.size ≤ 140737488351232 → ∃ k,racewaylaw25_JsontextParses.f k a0 = some true
theorem racewaylaw25_JsontextParses.walk (P : racewaylaw25_JsontextParses.Pure) (a0 : ByteArray) (w : World) (w0 : a0.size ≤ 140737488351232) (hGU8 : GlobU8 w) :
  Calls Tryd.prog 3 #[.string a0] w fun e w' => e = .returned (.bool true) ∧ Below w.heap.size w w':=by
 obtain ⟨k,h⟩:=P a0 w0
 refine (racewaylaw25_JsontextParses.calls k a0 true w hGU8 h).mono ?_
 rintro e w' ⟨rfl,hd⟩
 exact ⟨rfl,hd⟩
end Go.Proofs.YtadfkeipcebmfaaDoor.X
namespace Go.Proofs.YtadfkeipcebmfaaDoor.X
open Go.RowKit Go.Proofs.YtadfkeipcebmfaaDoorW.PrintWords Go.Proofs.YtadfkeipcebmfaaDoorW.PrintLast Go.Proofs.YtadfkeipcebmfaaDoorW.PrintMore
attribute [local go_sem] max2_int min2_int max_two min_two max_three min_three max_four min_four
set_option linter.unusedVariables false
set_option linter.unusedSimpArgs false
end Go.Proofs.YtadfkeipcebmfaaDoor.X
namespace Go.Proofs.YtadfkeipcebmfaaDoor.Pure
open Go.Proofs.YtadfkeipcebmfaaDoor.X Go.RowKit Go.Proofs.YtadfkeipcebmfaaDoorW.PrintWords Go.Proofs.YtadfkeipcebmfaaDoorW.PrintMore
set_option linter.unusedVariables false
set_option linter.unusedSimpArgs false
theorem w64v {x : Int} (h0 : -9223372036854775808 ≤ x) (h1 : x ≤ 9223372036854775807) : wrap64 x = x:=by unfold wrap64;omega
theorem bt_getD (s : ByteArray) (i : Nat) : bt s (i : Int) = ((s.data.toList.getD i 0).toNat : Int):=by
 unfold bt
 rw [Int.toNat_natCast]
 split
 ·rename_i h
  rw [List.getD_eq_getElem?_getD,List.getElem?_eq_getElem (by simpa using h)]
  rfl
 ·rename_i h
  rw [List.getD_eq_getElem?_getD,List.getElem?_eq_none (by simpa using h)]
  rfl
def sgnN (n b0 b1 b2 b3 : Nat) : Nat:=if b0 < 128 then 1 else if (Lib.decodeN n b0 b1 b2 b3).2 = 1 then 0 else (Lib.decodeN n b0 b1 b2 b3).2
theorem sgnN_bad {n b0 b1 b2 b3 : Nat} (h : ¬ b0 < 128) (h1 : (Lib.decodeN n b0 b1 b2 b3).2 = 1) : sgnN n b0 b1 b2 b3 = 0:=by rw [sgnN,if_neg h,if_pos h1]
theorem sgnN_ok {n b0 b1 b2 b3 : Nat} (w : Nat) (h : ¬ b0 < 128) (h1 : (Lib.decodeN n b0 b1 b2 b3).2 = w) (hw : w ≠ 1) : sgnN n b0 b1 b2 b3 = w:=by rw [sgnN,if_neg h,h1,if_neg hw]
theorem sgn_N (l : Bs) (i : Nat) (h : i < l.length) : sgn (l.drop i) = sgnN (l.length - i) (l.getD i 0).toNat (l.getD (i + 1) 0).toNat (l.getD (i + 2) 0).toNat (l.getD (i + 3) 0).toNat:=by
 have e : ∀ j,(l.drop i).getD j 0 = l.getD (i + j) 0:=fun j => by simp [List.getD_eq_getElem?_getD,List.getElem?_drop]
 obtain ⟨c,r,hc⟩ : ∃ c r,l.drop i = c :: r:=⟨_,_,List.drop_eq_getElem_cons h⟩
 have h0 : c = l.getD i 0:=by rw [← Nat.add_zero i,← e 0,hc];rfl
 have hN:=Lib.decodeL_N (l.drop i)
 rw [e 0,e 1,e 2,e 3,List.length_drop,Nat.add_zero] at hN
 rw [hc] at hN ⊢
 simp only [sgn,sgnN]
 rw [hN,h0]
theorem sl_step (s : ByteArray) (k i x6 x7 x8 x9 b : Nat) (hb : b = (s.data.toList.getD (i + x9) 0).toNat) (h1 : i + x6 ≤ s.size) (h9 : x9 < x6) (h7 : x7 ≤ 100000000) (hs : s.size ≤ 100000000) :
  racewayref25_Sign.l0 (k + 1) s (i : Int) (x6 : Int) (x7 : Int) (x8 : Int) (x9 : Int) = if b < 128 then some 0 else if 191 < b then some 0 else racewayref25_Sign.l0 k s (i : Int) (x6 : Int) ((64 * x7 + b - 128 : Nat) : Int) (x8 : Int) ((x9 + 1 : Nat) : Int):=by
 have hb8 : b < 256:=by rw [hb];exact UInt8.toNat_lt _
 rw [racewayref25_Sign.l0,if_pos (by omega),w64v (x:=(i : Int) + (x9 : Int)) (by omega) (by omega),if_pos (by omega),if_pos (by omega),show (i : Int) + (x9 : Int) = ((i + x9 : Nat) : Int) by omega,bt_getD,← hb,w64v (x:=(b : Int)) (by omega) (by omega)]
 by_cases c1 : b < 128
 ·rw [if_pos c1,if_pos (by omega)]
 ·rw [if_neg c1,if_neg (by omega)]
  by_cases c2 : 191 < b
  ·rw [if_pos c2,if_pos (by omega)]
  ·rw [if_neg c2,if_neg (by omega),w64v (x:=64 * (x7 : Int)) (by omega) (by omega),w64v (x:=64 * (x7 : Int) + (b : Int)) (by omega) (by omega),w64v (x:=64 * (x7 : Int) + (b : Int) - 128) (by omega) (by omega),w64v (x:=(x9 : Int) + 1) (by omega) (by omega)]
   congr 1
   ·omega
theorem sl_end (s : ByteArray) (k i x6 x7 x8 : Nat) : racewayref25_Sign.l0 (k + 1) s (i : Int) (x6 : Int) (x7 : Int) (x8 : Int) (x6 : Int) = some (((if x7 < x8 then 0 else if 1114111 < x7 then 0 else if 55296 ≤ x7 ∧ x7 ≤ 57343 then 0 else x6) : Nat) : Int):=by
 rw [racewayref25_Sign.l0,if_neg (by omega)]
 by_cases c1 : x7 < x8
 ·rw [if_pos c1,if_pos (by omega)];rfl
 ·rw [if_neg c1,if_neg (by omega)]
  by_cases c2 : 1114111 < x7
  ·rw [if_pos c2,if_pos (by omega)];rfl
  ·rw [if_neg c2,if_neg (by omega)]
   by_cases c3 : 55296 ≤ x7
   ·rw [if_pos (by omega)]
    by_cases c4 : x7 ≤ 57343
    ·rw [if_pos (by omega),if_pos ⟨c3,c4⟩];rfl
    ·rw [if_neg (by omega),if_neg (by omega)]
   ·rw [if_neg (by omega),if_neg (by omega)]
theorem sj2 (s : ByteArray) (k i x6 x7 x8 : Nat) (h6 : x6 ≠ 0) (hi : i ≤ s.size) (h64 : x6 ≤ 4) (hs : s.size ≤ 100000000) :
  racewayref25_Sign.j2 (k + 2) s (i : Int) (x6 : Int) (x7 : Int) (x8 : Int) = if s.size < i + x6 then some 0 else racewayref25_Sign.l0 k s (i : Int) (x6 : Int) (x7 : Int) (x8 : Int) ((1 : Nat) : Int):=by
 rw [racewayref25_Sign.j2,if_neg (by omega),racewayref25_Sign.j3,w64v (by omega) (by omega)]
 by_cases c : s.size < i + x6
 ·rw [if_pos c,if_pos (by simp;omega)]
 ·rw [if_neg c,if_neg (by simp;omega)]
  rfl
set_option maxRecDepth 100000 in
set_option maxHeartbeats 4000000 in
theorem sign_N (s : ByteArray) (i k b0 b1 b2 b3 : Nat) (hi : i < s.size) (hs : s.size ≤ 100000000) (h0 : b0 = (s.data.toList.getD i 0).toNat) (h1 : b1 = (s.data.toList.getD (i + 1) 0).toNat) (h2 : b2 = (s.data.toList.getD (i + 2) 0).toNat) (h3 : b3 = (s.data.toList.getD (i + 3) 0).toNat) :
  racewayref25_Sign.f (k + 20) s (i : Int) = some ((sgnN (s.size - i) b0 b1 b2 b3 : Nat) : Int):=by
 have q0 : b0 < 256:=by rw [h0];exact UInt8.toNat_lt _
 have q1 : b1 < 256:=by rw [h1];exact UInt8.toNat_lt _
 have q2 : b2 < 256:=by rw [h2];exact UInt8.toNat_lt _
 have q3 : b3 < 256:=by rw [h3];exact UInt8.toNat_lt _
 rw [racewayref25_Sign.f,if_pos (by omega),if_pos (by omega),bt_getD,← h0,w64v (x:=(b0 : Int)) (by omega) (by omega)]
 by_cases c1 : b0 < 128
 ·rw [if_pos (by omega),sgnN,if_pos c1];rfl
 ·rw [if_neg (by omega)]
  have hj0 : ∀ b : Bool,(b = true → 194 ≤ b0 ∧ b0 ≤ 223) → (b = false → ¬ (194 ≤ b0 ∧ b0 ≤ 223)) → racewayref25_Sign.j0 (k + 20) s (i : Int) (b0 : Int) 0 0 0 b = some ((sgnN (s.size - i) b0 b1 b2 b3 : Nat) : Int):=by
   intro b hb1 hb2
   rw [racewayref25_Sign.j0]
   cases b with
   | true =>
    have r:=hb1 rfl
    rw [if_pos rfl,w64v (x:=(b0 : Int) - 192) (by omega) (by omega),show ((b0 : Int) - 192) = ((b0 - 192 : Nat) : Int) by omega]
    refine (sj2 s (k + 17) i 2 (b0 - 192) 128 (by decide) (by omega) (by decide) hs).trans ?_
    by_cases c2 : s.size < i + 2
    ·rw [if_pos c2,sgnN_bad c1 (by unfold Lib.decodeN;rw [if_neg c1,if_neg (by omega),if_neg (by omega),if_neg (by omega)])]
     rfl
    ·rw [if_neg c2,sl_step s _ i 2 (b0 - 192) 128 1 b1 h1 (by omega) (by omega) (by omega) hs]
     by_cases c3 : b1 < 128
     ·rw [if_pos c3,sgnN_bad c1 (by unfold Lib.decodeN;rw [if_neg c1,if_neg (by omega),if_neg (by omega),if_neg (by omega)])];rfl
     ·rw [if_neg c3]
      by_cases c4 : 191 < b1
      ·rw [if_pos c4,sgnN_bad c1 (by unfold Lib.decodeN;rw [if_neg c1,if_neg (by omega),if_neg (by omega),if_neg (by omega)])];rfl
      ·rw [if_neg c4,sl_end s _ i 2 _ 128,if_neg (by omega),if_neg (by omega),if_neg (by omega),sgnN_ok 2 c1 (by unfold Lib.decodeN;rw [if_neg c1,if_pos (by omega),if_pos (by omega)]) (by decide)]
   | false =>
    have r:=hb2 rfl
    rw [if_neg (by decide)]
    have hj1 : ∀ b : Bool,(b = true → 224 ≤ b0 ∧ b0 ≤ 239) → (b = false → ¬ (224 ≤ b0 ∧ b0 ≤ 239)) → racewayref25_Sign.j1 (k + 19) s (i : Int) (b0 : Int) 0 0 0 b = some ((sgnN (s.size - i) b0 b1 b2 b3 : Nat) : Int):=by
     intro b hb1 hb2
     rw [racewayref25_Sign.j1]
     cases b with
     | true =>
      have r:=hb1 rfl
      rw [if_pos rfl,w64v (x:=(b0 : Int) - 224) (by omega) (by omega),show ((b0 : Int) - 224) = ((b0 - 224 : Nat) : Int) by omega]
      refine (sj2 s (k + 16) i 3 (b0 - 224) 2048 (by decide) (by omega) (by decide) hs).trans ?_
      by_cases c2 : s.size < i + 3
      ·rw [if_pos c2,sgnN_bad c1 (by unfold Lib.decodeN;rw [if_neg c1,if_neg (by omega),if_neg (by omega),if_neg (by omega)])]
       rfl
      ·rw [if_neg c2,sl_step s _ i 3 (b0 - 224) 2048 1 b1 h1 (by omega) (by omega) (by omega) hs]
       by_cases c3 : b1 < 128
       ·rw [if_pos c3,sgnN_bad c1 (by unfold Lib.decodeN;rw [if_neg c1,if_neg (by omega),if_neg (by omega),if_neg (by omega)])];rfl
       ·rw [if_neg c3]
        by_cases c4 : 191 < b1
        ·rw [if_pos c4,sgnN_bad c1 (by unfold Lib.decodeN;rw [if_neg c1,if_neg (by omega),if_neg (by omega),if_neg (by omega)])];rfl
        ·rw [if_neg c4,sl_step s _ i 3 _ 2048 2 b2 h2 (by omega) (by omega) (by omega) hs]
         by_cases c5 : b2 < 128
         ·rw [if_pos c5,sgnN_bad c1 (by unfold Lib.decodeN;rw [if_neg c1,if_neg (by omega),if_neg (by omega),if_neg (by omega)])];rfl
         ·rw [if_neg c5]
          by_cases c6 : 191 < b2
          ·rw [if_pos c6,sgnN_bad c1 (by unfold Lib.decodeN;rw [if_neg c1,if_neg (by omega),if_neg (by omega),if_neg (by omega)])];rfl
          ·rw [if_neg c6,sl_end s _ i 3 _ 2048]
           generalize hX : 64 * (64 * (b0 - 224) + b1 - 128) + b2 - 128 = X
           have e : b0 % 16 * 4096 + b1 % 64 * 64 + b2 % 64 = X:=by omega
           by_cases d1 : X < 2048
           ·rw [if_pos d1,sgnN_bad c1 (by unfold Lib.decodeN;rw [if_neg c1,if_neg (by omega),if_pos (by omega),e,if_neg (by omega)])]
           ·rw [if_neg d1,if_neg (by omega)]
            by_cases d2 : 55296 ≤ X ∧ X ≤ 57343
            ·rw [if_pos d2,sgnN_bad c1 (by unfold Lib.decodeN;rw [if_neg c1,if_neg (by omega),if_pos (by omega),e,if_neg (by omega)])]
            ·rw [if_neg d2,sgnN_ok 3 c1 (by unfold Lib.decodeN;rw [if_neg c1,if_neg (by omega),if_pos (by omega),e,if_pos (by omega)]) (by decide)]
     | false =>
      have r2:=hb2 rfl
      rw [if_neg (by decide)]
      have hbad : ¬ (240 ≤ b0 ∧ b0 ≤ 244) → racewayref25_Sign.j2 (k + 18) s (i : Int) 0 0 0 = some ((sgnN (s.size - i) b0 b1 b2 b3 : Nat) : Int):=by
       intro r3
       have e1 : (Lib.decodeN (s.size - i) b0 b1 b2 b3).2 = 1:=by
        unfold Lib.decodeN
        rw [if_neg c1]
        by_cases a1 : b0 / 32 = 6 ∧ (1 < s.size - i ∧ b1 / 64 = 2)
        ·rw [if_pos a1,if_neg (by omega)]
        ·rw [if_neg a1,if_neg (by omega)]
         by_cases a3 : b0 / 8 = 30 ∧ (1 < s.size - i ∧ b1 / 64 = 2) ∧ (2 < s.size - i ∧ b2 / 64 = 2) ∧ (3 < s.size - i ∧ b3 / 64 = 2)
         ·rw [if_pos a3,if_neg (by omega)]
         ·rw [if_neg a3]
       rw [racewayref25_Sign.j2,if_pos rfl,racewayref25_Sign.j3,if_pos rfl,sgnN_bad c1 e1]
       rfl
      by_cases c240 : 240 ≤ b0
      ·rw [if_pos (by omega)]
       by_cases c244 : b0 ≤ 244
       ·rw [if_pos (by omega),w64v (x:=(b0 : Int) - 240) (by omega) (by omega),show ((b0 : Int) - 240) = ((b0 - 240 : Nat) : Int) by omega]
        refine (sj2 s (k + 16) i 4 (b0 - 240) 65536 (by decide) (by omega) (by decide) hs).trans ?_
        by_cases c2 : s.size < i + 4
        ·rw [if_pos c2,sgnN_bad c1 (by unfold Lib.decodeN;rw [if_neg c1,if_neg (by omega),if_neg (by omega),if_neg (by omega)])]
         rfl
        ·rw [if_neg c2,sl_step s _ i 4 (b0 - 240) 65536 1 b1 h1 (by omega) (by omega) (by omega) hs]
         by_cases c3 : b1 < 128
         ·rw [if_pos c3,sgnN_bad c1 (by unfold Lib.decodeN;rw [if_neg c1,if_neg (by omega),if_neg (by omega),if_neg (by omega)])];rfl
         ·rw [if_neg c3]
          by_cases c4 : 191 < b1
          ·rw [if_pos c4,sgnN_bad c1 (by unfold Lib.decodeN;rw [if_neg c1,if_neg (by omega),if_neg (by omega),if_neg (by omega)])];rfl
          ·rw [if_neg c4,sl_step s _ i 4 _ 65536 2 b2 h2 (by omega) (by omega) (by omega) hs]
           by_cases c5 : b2 < 128
           ·rw [if_pos c5,sgnN_bad c1 (by unfold Lib.decodeN;rw [if_neg c1,if_neg (by omega),if_neg (by omega),if_neg (by omega)])];rfl
           ·rw [if_neg c5]
            by_cases c6 : 191 < b2
            ·rw [if_pos c6,sgnN_bad c1 (by unfold Lib.decodeN;rw [if_neg c1,if_neg (by omega),if_neg (by omega),if_neg (by omega)])];rfl
            ·rw [if_neg c6,sl_step s _ i 4 _ 65536 3 b3 h3 (by omega) (by omega) (by omega) hs]
             by_cases c7 : b3 < 128
             ·rw [if_pos c7,sgnN_bad c1 (by unfold Lib.decodeN;rw [if_neg c1,if_neg (by omega),if_neg (by omega),if_neg (by omega)])];rfl
             ·rw [if_neg c7]
              by_cases c8 : 191 < b3
              ·rw [if_pos c8,sgnN_bad c1 (by unfold Lib.decodeN;rw [if_neg c1,if_neg (by omega),if_neg (by omega),if_neg (by omega)])];rfl
              ·rw [if_neg c8,sl_end s _ i 4 _ 65536]
               generalize hX : 64 * (64 * (64 * (b0 - 240) + b1 - 128) + b2 - 128) + b3 - 128 = X
               have e : b0 % 8 * 262144 + b1 % 64 * 4096 + b2 % 64 * 64 + b3 % 64 = X:=by omega
               by_cases d1 : X < 65536
               ·rw [if_pos d1,sgnN_bad c1 (by unfold Lib.decodeN;rw [if_neg c1,if_neg (by omega),if_neg (by omega),if_pos (by omega),e,if_neg (by omega)])]
               ·rw [if_neg d1]
                by_cases d3 : 1114111 < X
                ·rw [if_pos d3,sgnN_bad c1 (by unfold Lib.decodeN;rw [if_neg c1,if_neg (by omega),if_neg (by omega),if_pos (by omega),e,if_neg (by omega)])]
                ·rw [if_neg d3,if_neg (by omega),sgnN_ok 4 c1 (by unfold Lib.decodeN;rw [if_neg c1,if_neg (by omega),if_neg (by omega),if_pos (by omega),e,if_pos (by omega)]) (by decide)]
       ·rw [if_neg (by omega)]
        exact hbad (by omega)
      ·rw [if_neg (by omega)]
       exact hbad (by omega)
    by_cases c224 : 224 ≤ b0
    ·rw [if_pos (by omega)]
     exact hj1 _ (fun h => by simp at h;omega) (fun h => by simp at h;omega)
    ·rw [if_neg (by omega)]
     exact hj1 _ (fun h => by cases h) (fun _ => by omega)
  by_cases c194 : 194 ≤ b0
  ·rw [if_pos (by omega)]
   exact hj0 _ (fun h => by simp at h;omega) (fun h => by simp at h;omega)
  ·rw [if_neg (by omega)]
   exact hj0 _ (fun h => by cases h) (fun _ => by omega)
theorem sign_is (s : ByteArray) (p : Nat) (l : Bs) (ha : At s p l) (hl : l ≠ []) (hs : s.size ≤ 100000000) (k : Nat) (hk : 20 ≤ k) : racewayref25_Sign.f k s (p : Int) = some ((sgn l : Nat) : Int):=by
 obtain ⟨k,rfl⟩ : ∃ k',k = k' + 20:=⟨k - 20,by omega⟩
 have hlt : p < s.size:=by cases l with|nil => exact absurd rfl hl|cons c r => exact ha.lt
 have hsz : s.data.toList.length = s.size:=by simp
 rw [sign_N s p k _ _ _ _ hlt hs rfl rfl rfl rfl,← hsz,← sgn_N _ _ (by omega),← ha.drop]
end Go.Proofs.YtadfkeipcebmfaaDoor.Pure
namespace Go.Proofs.YtadfkeipcebmfaaDoor.Pure
open Go.Proofs.YtadfkeipcebmfaaDoor.X Go.RowKit Go.Proofs.YtadfkeipcebmfaaDoorW.PrintWords Go.Proofs.YtadfkeipcebmfaaDoorW.PrintMore
set_option linter.unusedVariables false
set_option linter.unusedSimpArgs false
theorem _root_.Go.Proofs.YtadfkeipcebmfaaDoor.X.At.bt {s : ByteArray} {p : Nat} {c : UInt8} {r : Bs} (h : At s p (c :: r)) : bt s (p : Int) = (c.toNat : Int):=by
 rw [bt_getD]
 congr 2
 have h2:=h.drop
 have h3:=h.lt
 rw [List.drop_eq_getElem_cons (by simpa using h3)] at h2
 injection h2 with h2 _
 rw [List.getD_eq_getElem?_getD,List.getElem?_eq_getElem (by simpa using h3)]
 exact h2
theorem _root_.Go.Proofs.YtadfkeipcebmfaaDoor.X.At.ge {s : ByteArray} {p : Nat} (h : At s p []) : ¬ (p : Int) < (s.size : Int):=by have:=h.nil;omega
theorem _root_.Go.Proofs.YtadfkeipcebmfaaDoor.X.At.lti {s : ByteArray} {p : Nat} {c : UInt8} {r : Bs} (h : At s p (c :: r)) : (p : Int) < (s.size : Int):=by have:=h.lt;omega
def okR (s : ByteArray) (r : Bs) (T : List S46) (S : ByteArray) : Option (Int × Int × List S46 × ByteArray):=some (((s.size - r.length : Nat) : Int),0,T,S)
def badR (s : ByteArray) (r : Bs) (e : Int) : Option (Int × Int × List S46 × ByteArray):=some (((s.size - r.length : Nat) : Int),e,[],⟨#[]⟩)
theorem is_law {s : ByteArray} {p : Nat} {l : Bs} (ha : At s p l) (n : Int) (c : UInt8) (hc : n = (c.toNat : Int)) : racewayref25_is.f s (p : Int) n = some (isC c l):=by
 rw [racewayref25_is.f]
 cases l with
 | nil => rw [if_neg ha.ge];rfl
 | cons d r =>
  rw [if_pos ha.lti,if_pos (by omega),ha.bt,hc,isC]
  congr 1
  by_cases h : d = c
  ·subst h;simp
  ·have h2 : (d.toNat : Int) ≠ (c.toNat : Int):=fun e => h (UInt8.toNat_inj.mp (by omega))
   rw [beq_eq_false_iff_ne.mpr h2,beq_eq_false_iff_ne.mpr h]
def isD : Bs → Bool
 | c :: _ => isDig c
 | [] => false
theorem digit_law {s : ByteArray} {p : Nat} {l : Bs} (ha : At s p l) : racewayref25_digit.f s (p : Int) = some (isD l):=by
 rw [racewayref25_digit.f]
 cases l with
 | nil => rw [if_neg ha.ge];rfl
 | cons d r =>
  rw [if_pos ha.lti,if_pos (by omega),ha.bt]
  by_cases h : (48 : Int) ≤ (d.toNat : Int)
  ·rw [if_pos h]
   simp only [isD,isDig]
   rw [decide_eq_true (show 48 ≤ d.toNat by omega),Bool.true_and]
   congr 1
   by_cases h2 : d.toNat ≤ 57
   ·rw [decide_eq_true h2,decide_eq_true (by omega)]
   ·rw [decide_eq_false h2,decide_eq_false (by omega)]
  ·rw [if_neg h]
   simp only [isD,isDig]
   rw [decide_eq_false (show ¬ 48 ≤ d.toNat by omega),Bool.false_and]
theorem blanks_law (s : ByteArray) (hs : s.size ≤ 100000000) : ∀ (l : Bs) (p k : Nat),At s p l → l.length + 1 ≤ k → racewayref25_blanks.f k s (p : Int) = some (((s.size - (blanks l).length : Nat)) : Int)
 | [],p,0,ha,hk => by simp at hk
 | [],p,k + 1,ha,hk => by
  rw [racewayref25_blanks.f,racewayref25_blanks.l0,if_neg ha.ge]
  have:=ha.nil
  simp [blanks,this]
 | c :: r,p,0,ha,hk => by simp at hk
 | c :: r,p,k + 1,ha,hk => by
  have ih:=blanks_law s hs r (p + 1) k ha.next (by simp at hk;omega)
  rw [racewayref25_blanks.f] at ih
  have hp:=ha.len
  rw [racewayref25_blanks.f,racewayref25_blanks.l0,if_pos ha.lti,if_pos (by omega),ha.bt,w64v (by omega) (by have:=ha.lt;omega),show ((p : Int) + 1) = ((p + 1 : Nat) : Int) by omega]
  rw [blanks]
  have e : ∀ n : UInt8,((c.toNat : Int) = (n.toNat : Int)) ↔ c = n:=fun n => ⟨fun h => UInt8.toNat_inj.mp (by omega),fun h => by rw [h]⟩
  have e32 : ((c.toNat : Int) = 32) ↔ c = 32:=e 32
  have e9 : ((c.toNat : Int) = 9) ↔ c = 9:=e 9
  have e10 : ((c.toNat : Int) = 10) ↔ c = 10:=e 10
  have e13 : ((c.toNat : Int) = 13) ↔ c = 13:=e 13
  by_cases c1 : c = 32
  ·rw [if_pos (e32.mpr c1),ih,if_pos (by rw [c1];decide)]
  ·rw [if_neg (fun h => c1 (e32.mp h))]
   by_cases c2 : c = 9
   ·rw [if_pos (e9.mpr c2),ih,if_pos (by rw [c2];decide)]
   ·rw [if_neg (fun h => c2 (e9.mp h))]
    by_cases c3 : c = 10
    ·rw [if_pos (e10.mpr c3),ih,if_pos (by rw [c3];decide)]
    ·rw [if_neg (fun h => c3 (e10.mp h))]
     by_cases c4 : c = 13
     ·rw [if_pos (e13.mpr c4),ih,if_pos (by rw [c4];decide)]
     ·rw [if_neg (fun h => c4 (e13.mp h)),if_neg (by simp [isBlank,c1,c2,c3,c4])]
      simp only [List.length_cons] at hp ⊢
      congr 2
      omega
theorem _root_.Go.Proofs.YtadfkeipcebmfaaDoor.X.At.blanks {s : ByteArray} : ∀ {l : Bs} {p : Nat},At s p l → At s (s.size - (X.blanks l).length) (X.blanks l)
 | [],p,ha => by
  have:=ha.nil
  simp only [X.blanks,List.length_nil,Nat.sub_zero]
  rw [← this]
  exact ha
 | c :: r,p,ha => by
  rw [X.blanks]
  split
  ·exact ha.next.blanks
  ·have:=ha.pos
   rw [← this]
   exact ha
def nres (s : ByteArray) (p : Nat) : Rs Unit → Option (Int × Int × List S46 × ByteArray)
 | .ok r _ => okR s r [] (s.extract p (s.size - r.length))
 | .bad r e => badR s r e
theorem fin_law {s : ByteArray} {p q : Nat} {l : Bs} (ha : At s q l) (hp : p ≤ q) : (if 0 ≤ (p : Int) then (if (p : Int) ≤ (q : Int) then (if (q : Int) ≤ (s.size : Int) then (some ((q : Int),0,([] : List (S46)),s.extract (p : Int).toNat (q : Int).toNat)) else (none)) else (none)) else (none)) = nres s p (.ok l ()):=by
 have h1:=ha.le
 have h2:=ha.pos
 rw [if_pos (by omega),if_pos (by omega),if_pos (by omega),nres,okR,Int.toNat_natCast,Int.toNat_natCast,← h2]
theorem fail_law {s : ByteArray} {p q : Nat} {l : Bs} (ha : At s q l) : ((racewayref25_fail.f (q : Int)).bind fun b => (some (b.1,b.2.1,b.2.2.1,b.2.2.2))) = nres s p (.bad l 5):=by
 have h2:=ha.pos
 rw [racewayref25_fail.f]
 show some ((q : Int),(5 : Int),([] : List S46),(⟨#[]⟩ : ByteArray)) = _
 rw [nres,badR,← h2]
theorem fail_law' {s : ByteArray} {q : Nat} {l : Bs} (ha : At s q l) : ((racewayref25_fail.f (q : Int)).bind fun b => (some (b.1,b.2.1,b.2.2.1,b.2.2.2))) = badR s l 5:=fail_law (p:=0) ha
theorem skip_cons (c : UInt8) (r : Bs) (h : isDig c = true) : skipDig (c :: r) = skipDig r:=by rw [skipDig,if_pos h]
theorem skip_not (l : Bs) (h : isD l = false) : skipDig l = l:=by
 cases l with
 | nil => rfl
 | cons c r => rw [skipDig,if_neg (by simpa [isD] using h)]
theorem digits_is (l : Bs) : digits l = if isD l = true then .ok (skipDig l) () else .bad l 5:=by
 cases l with
 | nil => rfl
 | cons c r =>
  simp only [digits]
  by_cases h : isDig c = true
  ·rw [if_pos h,if_pos (show isD (c :: r) = true from h),skip_cons c r h]
  ·rw [if_neg h,if_neg (show ¬ isD (c :: r) = true from h)]
theorem p1 {s : ByteArray} {q : Nat} {c : UInt8} {r : Bs} (hs : s.size ≤ 100000000) (ha : At s q (c :: r)) : wrap64 ((q : Int) + 1) = ((q + 1 : Nat) : Int):=by
 have:=ha.lt
 rw [w64v (by omega) (by omega)]
 omega
theorem l2_law (s : ByteArray) (hs : s.size ≤ 100000000) (p : Nat) : ∀ (l : Bs) (q k : Nat),At s q l → p ≤ q → l.length + 1 ≤ k → racewayref25_number.l2 k s (q : Int) (p : Int) = nres s p (.ok (skipDig l) ())
 | l,q,0,ha,hp,hk => by omega
 | [],q,k + 1,ha,hp,hk => by
  rw [racewayref25_number.l2,digit_law ha,Option.bind_some,if_neg (by decide)]
  exact fin_law ha hp
 | c :: r,q,k + 1,ha,hp,hk => by
  rw [racewayref25_number.l2,digit_law ha,Option.bind_some]
  by_cases h : isDig c = true
  ·rw [if_pos (by rw [isD,h]),p1 hs ha,skip_cons c r h]
   exact l2_law s hs p r (q + 1) k ha.next (by omega) (by simp at hk;omega)
  ·rw [if_neg (by rw [isD];exact h),fin_law ha hp,skip_not (c :: r) (by simpa [isD] using h)]
theorem j7_law (s : ByteArray) (hs : s.size ≤ 100000000) (p : Nat) (l : Bs) (q k : Nat) (ha : At s q l) (hp : p ≤ q) (hk : l.length + 2 ≤ k) : racewayref25_number.j7 k s (q : Int) (p : Int) = nres s p (digits l):=by
 obtain ⟨k,rfl⟩ : ∃ k',k = k' + 1:=⟨k - 1,by omega⟩
 rw [racewayref25_number.j7,digit_law ha,Option.bind_some,digits_is]
 by_cases h : isD l = true
 ·rw [if_pos h,if_pos h]
  exact l2_law s hs p l q k ha hp (by omega)
 ·rw [if_neg h,if_neg h]
  exact fail_law ha
theorem isC_ne {c : UInt8} {l : Bs} (h : isC c l = true) : ∃ r,l = c :: r:=by
 cases l with
 | nil => cases h
 | cons d r =>
  simp only [isC,beq_iff_eq] at h
  exact ⟨r,by rw [h]⟩
theorem j4_law (s : ByteArray) (hs : s.size ≤ 100000000) (p : Nat) (l : Bs) (q k : Nat) (ha : At s q l) (hp : p ≤ q) (hk : l.length + 8 ≤ k) : racewayref25_number.j4 k s (q : Int) (p : Int) = nres s p (num3 l):=by
 obtain ⟨k,rfl⟩ : ∃ k',k = k' + 4:=⟨k - 4,by omega⟩
 have hj5 : (isC 101 l || isC 69 l) = true → racewayref25_number.j5 (k + 3) s (q : Int) (p : Int) true = nres s p (num3 l):=by
  intro h
  obtain ⟨c,r,rfl⟩ : ∃ c r,l = c :: r:=by
   simp only [Bool.or_eq_true] at h
   rcases h with h|h
   ·obtain ⟨r,e⟩:=isC_ne h
    exact ⟨_,r,e⟩
   ·obtain ⟨r,e⟩:=isC_ne h
    exact ⟨_,r,e⟩
  have hb:=ha.next
  rw [racewayref25_number.j5,if_pos rfl,p1 hs ha,is_law hb 43 43 rfl,Option.bind_some,is_law hb 45 45 rfl]
  unfold num3
  rw [if_pos h,List.drop_succ_cons,List.drop_zero]
  have h6 : racewayref25_number.j6 (k + 2) s ((q + 1 : Nat) : Int) (p : Int) (isC 43 r || isC 45 r) = nres s p (if (isC 43 r || isC 45 r) = true then digits (List.drop 2 (c :: r)) else digits r):=by
   rw [racewayref25_number.j6]
   by_cases h2 : (isC 43 r || isC 45 r) = true
   ·obtain ⟨c2,r2,rfl⟩ : ∃ c r',r = c :: r':=by
     simp only [Bool.or_eq_true] at h2
     rcases h2 with h2|h2
     ·obtain ⟨r,e⟩:=isC_ne h2
      exact ⟨_,r,e⟩
     ·obtain ⟨r,e⟩:=isC_ne h2
      exact ⟨_,r,e⟩
    rw [if_pos h2,if_pos h2,p1 hs hb]
    exact j7_law s hs p r2 (q + 1 + 1) _ hb.next (by omega) (by simp at hk;omega)
   ·rw [if_neg h2,if_neg h2]
    exact j7_law s hs p r (q + 1) _ hb (by omega) (by simp at hk;omega)
  by_cases h3 : isC 43 r = true
  ·rw [if_pos h3]
   rw [h3,Bool.true_or] at h6
   rw [h3,Bool.true_or]
   exact h6
  ·rw [if_neg h3,Option.bind_some]
   have h3' : isC 43 r = false:=by simpa using h3
   rw [h3',Bool.false_or] at h6
   rw [h3',Bool.false_or]
   exact h6
 rw [racewayref25_number.j4,is_law ha 101 101 rfl,Option.bind_some]
 by_cases h1 : isC 101 l = true
 ·rw [if_pos h1]
  exact hj5 (by rw [h1];rfl)
 ·rw [if_neg h1,is_law ha 69 69 rfl,Option.bind_some]
  have h1' : isC 101 l = false:=by simpa using h1
  by_cases h2 : isC 69 l = true
  ·rw [h2]
   exact hj5 (by rw [h2,Bool.or_true])
  ·have h2' : isC 69 l = false:=by simpa using h2
   rw [h2',racewayref25_number.j5,if_neg (by decide),fin_law ha hp,num3,h1',h2']
   rfl
theorem l1_law (s : ByteArray) (hs : s.size ≤ 100000000) (p : Nat) : ∀ (l : Bs) (q k : Nat),At s q l → p ≤ q → 2 * l.length + 10 ≤ k → racewayref25_number.l1 k s (q : Int) (p : Int) = nres s p (num3 (skipDig l))
 | l,q,0,ha,hp,hk => by omega
 | [],q,k + 1,ha,hp,hk => by
  rw [racewayref25_number.l1,digit_law ha,Option.bind_some,if_neg (by decide)]
  exact j4_law s hs p [] q k ha hp (by simp at hk ⊢;omega)
 | c :: r,q,k + 1,ha,hp,hk => by
  rw [racewayref25_number.l1,digit_law ha,Option.bind_some]
  by_cases h : isDig c = true
  ·rw [if_pos (by rw [isD,h]),p1 hs ha,skip_cons c r h]
   exact l1_law s hs p r (q + 1) k ha.next (by omega) (by simp at hk;omega)
  ·rw [if_neg (by rw [isD];exact h),skip_not (c :: r) (by simpa [isD] using h)]
   exact j4_law s hs p (c :: r) q k ha hp (by simp at hk ⊢;omega)
def num23 (l : Bs) : Rs Unit:=match num2 l with
 | .bad r e => .bad r e
 | .ok l3 _ => num3 l3
theorem j2_law (s : ByteArray) (hs : s.size ≤ 100000000) (p : Nat) (l : Bs) (q k : Nat) (ha : At s q l) (hp : p ≤ q) (hk : 2 * l.length + 12 ≤ k) : racewayref25_number.j2 k s (q : Int) (p : Int) = nres s p (num23 l):=by
 obtain ⟨k,rfl⟩ : ∃ k',k = k' + 1:=⟨k - 1,by omega⟩
 rw [racewayref25_number.j2,is_law ha 46 46 rfl,Option.bind_some,num23,num2]
 by_cases h : isC 46 l = true
 ·obtain ⟨r,rfl⟩:=isC_ne h
  rw [if_pos h,if_pos h,p1 hs ha,digit_law ha.next,Option.bind_some,List.drop_succ_cons,List.drop_zero,digits_is]
  by_cases h2 : isD r = true
  ·rw [if_pos h2,if_pos h2]
   exact l1_law s hs p r (q + 1) k ha.next (by omega) (by simp at hk;omega)
  ·rw [if_neg h2,if_neg h2]
   exact fail_law ha.next
 ·rw [if_neg h,if_neg h]
  exact j4_law s hs p l q k ha hp (by omega)
theorem l0_law (s : ByteArray) (hs : s.size ≤ 100000000) (p : Nat) : ∀ (l : Bs) (q k : Nat),At s q l → p ≤ q → 3 * l.length + 14 ≤ k → racewayref25_number.l0 k s (q : Int) (p : Int) = nres s p (num23 (skipDig l))
 | l,q,0,ha,hp,hk => by omega
 | [],q,k + 1,ha,hp,hk => by
  rw [racewayref25_number.l0,digit_law ha,Option.bind_some,if_neg (by decide)]
  exact j2_law s hs p [] q k ha hp (by simp at hk ⊢;omega)
 | c :: r,q,k + 1,ha,hp,hk => by
  rw [racewayref25_number.l0,digit_law ha,Option.bind_some]
  by_cases h : isDig c = true
  ·rw [if_pos (by rw [isD,h]),p1 hs ha,skip_cons c r h]
   exact l0_law s hs p r (q + 1) k ha.next (by omega) (by simp at hk;omega)
  ·rw [if_neg (by rw [isD];exact h),skip_not (c :: r) (by simpa [isD] using h)]
   exact j2_law s hs p (c :: r) q k ha hp (by simp at hk ⊢;omega)
theorem j0_law (s : ByteArray) (hs : s.size ≤ 100000000) (p : Nat) (l : Bs) (q k : Nat) (ha : At s q l) (hp : p ≤ q) (hk : 3 * l.length + 16 ≤ k) : racewayref25_number.j0 k s (q : Int) (p : Int) = nres s p (match num1 l with | .bad r e => .bad r e | .ok l2 _ => num23 l2):=by
 obtain ⟨k,rfl⟩ : ∃ k',k = k' + 1:=⟨k - 1,by omega⟩
 rw [racewayref25_number.j0,digit_law ha,Option.bind_some,num1]
 cases l with
 | nil =>
  rw [if_neg (by decide)]
  exact fail_law ha
 | cons c r =>
  have e48 : (bt s (q : Int) = 48) ↔ isC 48 (c :: r) = true:=by
   rw [ha.bt]
   simp only [isC,beq_iff_eq]
   exact ⟨fun h => UInt8.toNat_inj.mp (by show c.toNat = 48;omega),fun h => by rw [h];rfl⟩
  by_cases h : isD (c :: r) = true
  ·rw [if_pos h,if_pos (by omega),if_pos ha.lti]
   by_cases h2 : isC 48 (c :: r) = true
   ·rw [if_pos (e48.mpr h2),if_pos h2,p1 hs ha]
    exact j2_law s hs p r (q + 1) k ha.next (by omega) (by simp at hk;omega)
   ·rw [if_neg (fun hh => h2 (e48.mp hh)),if_neg h2,digits_is,if_pos h]
    exact l0_law s hs p (c :: r) q k ha hp (by omega)
  ·have h2 : ¬ isC 48 (c :: r) = true:=by
    intro hh
    simp only [isC,beq_iff_eq] at hh
    subst hh
    exact h (show isDig 48 = true by decide)
   rw [if_neg h,if_neg h2,digits_is,if_neg h]
   exact fail_law ha
theorem number_R {s : ByteArray} {p : Nat} {l : Bs} (ha : At s p l) (hs : s.size ≤ 100000000) (k : Nat) (hk : 3 * l.length + 20 ≤ k) : racewayref25_number.f k s (p : Int) = nres s p (num l):=by
 rw [racewayref25_number.f,is_law ha 45 45 rfl,Option.bind_some]
 have e : ∀ l' : Bs,(match num1 l' with | .bad r e => (.bad r e : Rs Unit) | .ok l2 _ => num23 l2) = (match num1 l' with | .bad r e => (.bad r e : Rs Unit) | .ok l2 _ => match num2 l2 with | .bad r e => .bad r e | .ok l3 _ => num3 l3):=fun _ => rfl
 by_cases h : isC 45 l = true
 ·obtain ⟨r,rfl⟩:=isC_ne h
  rw [if_pos h,p1 hs ha,j0_law s hs p r (p + 1) k ha.next (by omega) (by simp at hk;omega),num,if_pos h]
  rfl
 ·rw [if_neg h,j0_law s hs p l p k ha (Nat.le_refl _) (by omega),num,if_neg h]
  rfl
theorem word_l0 (s w : ByteArray) (hs : s.size ≤ 100000000) (hw : w.size ≤ 100) (p : Nat) (kind : Int) : ∀ (wl l : Bs) (i k : Nat),At w i wl → At s (p + i) l → wl.length + 1 ≤ k →
  racewayref25_word.l0 k s (p : Int) w kind (i : Int) = match word wl l with | .ok r _ => okR s r [⟨kind,1,0,⟨#[]⟩,⟨#[]⟩⟩] ⟨#[]⟩ | .bad r e => badR s r e
 | wl,l,i,0,hwa,ha,hk => by omega
 | [],l,i,k + 1,hwa,ha,hk => by
  have h1:=hwa.nil
  have h2:=ha.pos
  have h3:=ha.le
  rw [racewayref25_word.l0,if_neg hwa.ge,word]
  simp only [okR]
  rw [w64v (by omega) (by omega),← h2,h1]
  rfl
 | c :: wl,l,i,k + 1,hwa,ha,hk => by
  have h1:=hwa.lt
  have h3:=ha.le
  rw [racewayref25_word.l0,if_pos hwa.lti,if_pos (by omega),w64v (x:=(p : Int) + (i : Int)) (by omega) (by omega),show (p : Int) + (i : Int) = ((p + i : Nat) : Int) by omega,hwa.bt,is_law ha _ c rfl,Option.bind_some]
  cases l with
  | nil =>
   have h4:=ha.nil
   have hm : mn ((p + i : Nat) : Int) (s.size : Int) = ((p + i : Nat) : Int):=by unfold mn;split <;> omega
   rw [isC,if_neg (by decide),hm]
   exact fail_law' ha
  | cons d r =>
   have h5:=ha.lt
   rw [word]
   simp only [isC,beq_iff_eq]
   by_cases h : d = c
   ·rw [if_pos h,if_pos h,w64v (x:=(i : Int) + 1) (by omega) (by omega),show (i : Int) + 1 = ((i + 1 : Nat) : Int) by omega]
    have hb:=ha.next
    exact word_l0 s w hs hw p kind wl r (i + 1) k hwa.next hb (by simp at hk;omega)
   ·have hm : mn ((p + i : Nat) : Int) (s.size : Int) = ((p + i : Nat) : Int):=by unfold mn;split <;> omega
    rw [if_neg h,if_neg h,hm]
    exact fail_law' ha
theorem word_R {s : ByteArray} {p : Nat} {l : Bs} (ha : At s p l) (hs : s.size ≤ 100000000) (w : ByteArray) (hw : w.size ≤ 100) (kind : Int) (k : Nat) (hk : 102 ≤ k) :
  racewayref25_word.f k s (p : Int) w kind = match word w.data.toList l with | .ok r _ => okR s r [⟨kind,1,0,⟨#[]⟩,⟨#[]⟩⟩] ⟨#[]⟩ | .bad r e => badR s r e:=by
 rw [racewayref25_word.f]
 exact word_l0 s w hs hw p kind w.data.toList l 0 k (At.start w) ha (by simp;omega)
end Go.Proofs.YtadfkeipcebmfaaDoor.Pure
namespace Go.Proofs.YtadfkeipcebmfaaDoor.Pure
open Go.Proofs.YtadfkeipcebmfaaDoor.X Go.RowKit Go.Proofs.YtadfkeipcebmfaaDoorW.PrintWords Go.Proofs.YtadfkeipcebmfaaDoorW.PrintMore
set_option linter.unusedVariables false
set_option linter.unusedSimpArgs false
theorem hex_round (s : ByteArray) (hs : s.size ≤ 100000000) (p i n k : Nat) (c : UInt8) (hi : i < 4) (hn : n ≤ 100000) (hlt : p + i < s.size) (hc : bt s ((p + i : Nat) : Int) = (c.toNat : Int)) :
  racewayref25_four.l0 (k + 6) s (p : Int) (n : Int) (i : Int) = match hexv c with|none => some (-1)|some d => racewayref25_four.l0 k s (p : Int) ((16 * n + d : Nat) : Int) ((i + 1 : Nat) : Int):=by
 have q:=UInt8.toNat_lt c
 have hw : wrap64 ((p : Int) + (i : Int)) = ((p + i : Nat) : Int):=by rw [w64v (by omega) (by omega)];omega
 have hwi : wrap64 ((i : Int) + 1) = ((i + 1 : Nat) : Int):=by rw [w64v (by omega) (by omega)];omega
 generalize hx : c.toNat = x at *
 have hwx : wrap64 (x : Int) = (x : Int):=w64v (by omega) (by omega)
 have fin : ∀ (k : Nat) (d : Nat),d ≤ 100 → racewayref25_four.l0 k s (p : Int) (wrap64 (wrap64 (16 * (n : Int)) + (d : Int))) ((i + 1 : Nat) : Int) = racewayref25_four.l0 k s (p : Int) ((16 * n + d : Nat) : Int) ((i + 1 : Nat) : Int):=by
  intro k d hd
  rw [w64v (x:=16 * (n : Int)) (by omega) (by omega),w64v (x:=16 * (n : Int) + (d : Int)) (by omega) (by omega)]
  congr 1
 rw [racewayref25_four.l0,if_pos (by omega),hw,if_pos (by omega),if_pos (by omega),hc,hwx]
 have hv : hexv c = if 48 ≤ x ∧ x ≤ 57 then some (x - 48) else if 97 ≤ x ∧ x ≤ 102 then some (x - 87) else if 65 ≤ x ∧ x ≤ 70 then some (x - 55) else none:=by unfold hexv;rw [hx]
 rw [hv]
 by_cases c1 : 48 ≤ x ∧ x ≤ 57
 ·rw [if_pos c1,if_pos (by omega),decide_eq_true (by omega),racewayref25_four.j1,if_pos rfl,racewayref25_four.j2,if_neg (by omega),racewayref25_four.j3,if_neg (by decide),racewayref25_four.j4,if_neg (by omega),racewayref25_four.j5,if_neg (by decide),w64v (x:=(x : Int) - 48) (by omega) (by omega),if_neg (by omega),hwi,show (x : Int) - 48 = ((x - 48 : Nat) : Int) by omega]
  exact fin k _ (by omega)
 ·rw [if_neg c1]
  have e1 : (if (x : Int) ≥ 48 then racewayref25_four.j1 (k + 5) s (p : Int) (n : Int) (i : Int) (x : Int) (-1) (decide ((x : Int) ≤ 57)) else racewayref25_four.j1 (k + 5) s (p : Int) (n : Int) (i : Int) (x : Int) (-1) false) = racewayref25_four.j1 (k + 5) s (p : Int) (n : Int) (i : Int) (x : Int) (-1) false:=by
   by_cases h : (x : Int) ≥ 48
   ·rw [if_pos h,decide_eq_false (by omega)]
   ·rw [if_neg h]
  rw [e1,racewayref25_four.j1,if_neg (by decide),racewayref25_four.j2]
  by_cases c2 : 97 ≤ x ∧ x ≤ 102
  ·rw [if_pos c2,if_pos (by omega),decide_eq_true (by omega),racewayref25_four.j3,if_pos rfl,racewayref25_four.j4,if_pos (by omega),decide_eq_false (by omega),racewayref25_four.j5,if_neg (by decide),w64v (x:=(x : Int) - 97) (by omega) (by omega),w64v (x:=(x : Int) - 97 + 10) (by omega) (by omega),if_neg (by omega),hwi,show (x : Int) - 97 + 10 = ((x - 87 : Nat) : Int) by omega]
   exact fin k _ (by omega)
  ·rw [if_neg c2]
   have e2 : (if (x : Int) ≥ 97 then racewayref25_four.j3 (k + 3) s (p : Int) (n : Int) (i : Int) (x : Int) (-1) (decide ((x : Int) ≤ 102)) else racewayref25_four.j3 (k + 3) s (p : Int) (n : Int) (i : Int) (x : Int) (-1) false) = racewayref25_four.j3 (k + 3) s (p : Int) (n : Int) (i : Int) (x : Int) (-1) false:=by
    by_cases h : (x : Int) ≥ 97
    ·rw [if_pos h,decide_eq_false (by omega)]
    ·rw [if_neg h]
   rw [e2,racewayref25_four.j3,if_neg (by decide),racewayref25_four.j4]
   by_cases c3 : 65 ≤ x ∧ x ≤ 70
   ·rw [if_pos c3,if_pos (by omega),decide_eq_true (by omega),racewayref25_four.j5,if_pos rfl,w64v (x:=(x : Int) - 65) (by omega) (by omega),w64v (x:=(x : Int) - 65 + 10) (by omega) (by omega),if_neg (by omega),hwi,show (x : Int) - 65 + 10 = ((x - 55 : Nat) : Int) by omega]
    exact fin k _ (by omega)
   ·rw [if_neg c3]
    have e3 : (if (x : Int) ≥ 65 then racewayref25_four.j5 (k + 1) s (p : Int) (n : Int) (i : Int) (x : Int) (-1) (decide ((x : Int) ≤ 70)) else racewayref25_four.j5 (k + 1) s (p : Int) (n : Int) (i : Int) (x : Int) (-1) false) = racewayref25_four.j5 (k + 1) s (p : Int) (n : Int) (i : Int) (x : Int) (-1) false:=by
     by_cases h : (x : Int) ≥ 65
     ·rw [if_pos h,decide_eq_false (by omega)]
     ·rw [if_neg h]
    rw [e3,racewayref25_four.j5,if_neg (by decide),if_pos (by decide)]
theorem hexv_lt {c : UInt8} {d : Nat} (h : hexv c = some d) : d < 16:=by
 unfold hexv at h
 split at h
 ·injection h with h;omega
 ·split at h
  ·injection h with h;omega
  ·split at h
   ·injection h with h;omega
   ·cases h
def fourI (l : Bs) : Int:=match four l with
 | some n => (n : Int)
 | none => -1
theorem four_R {s : ByteArray} {p : Nat} {l : Bs} (ha : At s p l) (hs : s.size ≤ 100000000) (k : Nat) (hk : 30 ≤ k) : racewayref25_four.f k s (p : Int) = some (fourI l):=by
 obtain ⟨k,rfl⟩ : ∃ k',k = k' + 25:=⟨k - 25,by omega⟩
 have hl:=ha.len
 have h0:=ha.le
 rw [racewayref25_four.f,w64v (by omega) (by omega)]
 match l,ha,hl with
 | [],ha,hl => rw [if_pos (by simp at hl;omega)];rfl
 | [_],ha,hl => rw [if_pos (by simp at hl;omega)];rfl
 | [_,_],ha,hl => rw [if_pos (by simp at hl;omega)];rfl
 | [_,_,_],ha,hl => rw [if_pos (by simp at hl;omega)];rfl
 | a :: b :: c :: d :: r,ha,hl =>
  simp only [List.length_cons] at hl
  rw [if_neg (by omega)]
  have a0:=ha.bt
  have a1:=ha.next.bt
  have a2:=ha.next.next.bt
  have a3:=ha.next.next.next.bt
  have r0:=hex_round s hs p 0 0 (k + 19) a (by omega) (by omega) (by omega) a0
  rw [show ((0 : Int)) = ((0 : Nat) : Int) from rfl,r0]
  have e4 : four (a :: b :: c :: d :: r) = (hexv a).bind fun x => (hexv b).bind fun y => (hexv c).bind fun z => (hexv d).bind fun u => some (4096 * x + 256 * y + 16 * z + u):=rfl
  rw [fourI,e4]
  cases h0 : hexv a with
  | none => rfl
  | some x =>
   have l0:=hexv_lt h0
   simp only [Option.bind_some]
   rw [hex_round s hs p 1 (16 * 0 + x) (k + 13) b (by omega) (by omega) (by omega) a1]
   cases h1 : hexv b with
   | none => rfl
   | some y =>
    have l1:=hexv_lt h1
    simp only [Option.bind_some]
    rw [hex_round s hs p 2 _ (k + 7) c (by omega) (by omega) (by omega) a2]
    cases h2 : hexv c with
    | none => rfl
    | some z =>
     have l2:=hexv_lt h2
     simp only [Option.bind_some]
     rw [hex_round s hs p 3 _ (k + 1) d (by omega) (by omega) (by omega) a3]
     cases h3 : hexv d with
     | none => rfl
     | some u =>
      simp only [Option.bind_some]
      rw [racewayref25_four.l0,if_neg (by decide)]
      show some _ = some _
      congr 1
      omega
end Go.Proofs.YtadfkeipcebmfaaDoor.Pure
namespace Go.Proofs.YtadfkeipcebmfaaDoor.Pure
open Go.Proofs.YtadfkeipcebmfaaDoor.X
set_option linter.unusedVariables false
set_option linter.unusedSimpArgs false
def stops : Bs → Bool
 | [] => true
 | c :: _ => !isDig c && c != 46 && c != 101 && c != 69
theorem map_ok {f : F → F} {x : Rs F} {r : Bs} {g : F} (h : x.map f = .ok r g) : ∃ g0,x = .ok r g0 ∧ f g0 = g:=by
 cases x with
 | bad a b => cases h
 | ok a b =>
  injection h with h1 h2
  exact ⟨b,by rw [h1],h2⟩
end Go.Proofs.YtadfkeipcebmfaaDoor.Pure
namespace Go.Proofs.YtadfkeipcebmfaaDoor.Pure
open Go.Proofs.YtadfkeipcebmfaaDoor.X Go.RowKit Go.Proofs.YtadfkeipcebmfaaDoorW.PrintWords
set_option linter.unusedVariables false
set_option linter.unusedSimpArgs false
end Go.Proofs.YtadfkeipcebmfaaDoor.Pure
namespace Go.Proofs.YtadfkeipcebmfaaDoor.Pure
open Go.Proofs.YtadfkeipcebmfaaDoor.X Go.RowKit Go.Proofs.YtadfkeipcebmfaaDoorW.PrintWords
set_option linter.unusedVariables false
set_option linter.unusedSimpArgs false
end Go.Proofs.YtadfkeipcebmfaaDoor.Pure
namespace Go.Proofs.YtadfkeipcebmfaaDoor.Pure
open Go.Proofs.YtadfkeipcebmfaaDoor.X Go.RowKit Go.Proofs.YtadfkeipcebmfaaDoorW.PrintWords
set_option linter.unusedVariables false
set_option linter.unusedSimpArgs false
def key : F → Bs
 | .leaf k _ _ _ => k
 | .node k _ _ _ => k
 | .nil => []
end Go.Proofs.YtadfkeipcebmfaaDoor.Pure
namespace Go.Proofs.YtadfkeipcebmfaaDoor.Pure
open Go.Proofs.YtadfkeipcebmfaaDoor.X Go.RowKit Go.Proofs.YtadfkeipcebmfaaDoorW.PrintWords
set_option linter.unusedVariables false
set_option linter.unusedSimpArgs false
end Go.Proofs.YtadfkeipcebmfaaDoor.Pure
namespace Go.Proofs.YtadfkeipcebmfaaDoor.Pure
open Go.Proofs.YtadfkeipcebmfaaDoor.X Go.RowKit Go.Proofs.YtadfkeipcebmfaaDoorW.PrintWords
set_option linter.unusedVariables false
set_option linter.unusedSimpArgs false
def nd : Bs → Bool
 | [] => true
 | c :: _ => !isDig c
theorem skip_nd (x : Bs) (hx : nd x = true) : ∀ l : Bs,(∀ c ∈ l,isDig c = true) → skipDig (l ++ x) = x
 | [],_ => by
  cases x with
  | nil => rfl
  | cons c x =>
   simp only [nd,Bool.not_eq_true'] at hx
   simp [skipDig,hx]
 | c :: l,h => by
  rw [List.cons_append,skipDig,if_pos (h c (by simp))]
  exact skip_nd x hx l (fun d hd => h d (by simp [hd]))
theorem skip_part : ∀ l : Bs,∃ t,l = t ++ skipDig l ∧ (∀ c ∈ t,isDig c = true) ∧ nd (skipDig l) = true
 | [] => ⟨[],rfl,by simp,rfl⟩
 | c :: l => by
  rw [skipDig]
  by_cases hc : isDig c = true
  ·obtain ⟨t,e,h1,h2⟩:=skip_part l
   rw [if_pos hc]
   refine ⟨c :: t,by rw [List.cons_append,← e],fun d hd => ?_,h2⟩
   simp only [List.mem_cons] at hd
   rcases hd with rfl|hd
   ·exact hc
   ·exact h1 d hd
  ·rw [if_neg hc]
   exact ⟨[],rfl,by simp,by simpa [nd] using hc⟩
theorem digits_part (l r : Bs) (u : Unit) (h : digits l = .ok r u) : ∃ t,l = t ++ r ∧ t ≠ [] ∧ (∀ y,nd y = true → digits (t ++ y) = .ok y ()) ∧ ∀ c y,t = c :: y → isDig c = true:=by
 cases l with
 | nil => cases h
 | cons c l =>
  simp only [digits] at h
  split at h
  ·rename_i hc
   injection h with h1 _
   obtain ⟨t,e,h2,h3⟩:=skip_part l
   rw [h1] at e
   refine ⟨c :: t,by rw [List.cons_append,← e],by simp,fun y hy => ?_,fun c' y' hh => ?_⟩
   ·rw [List.cons_append,digits,if_pos hc,skip_nd y hy t h2]
   ·injection hh with hh _
    rw [← hh]
    exact hc
  ·cases h
theorem isC_true {c : UInt8} {l : Bs} (h : isC c l = true) : ∃ r,l = c :: r:=by
 cases l with
 | nil => cases h
 | cons d r =>
  simp only [isC,beq_iff_eq] at h
  exact ⟨r,by rw [h]⟩
theorem num1_part (l r : Bs) (u : Unit) (h : num1 l = .ok r u) : ∃ t,l = t ++ r ∧ (∀ y,nd y = true → num1 (t ++ y) = .ok y ()) ∧ ∃ c t',t = c :: t' ∧ isDig c = true:=by
 unfold num1 at h
 by_cases h0 : isC 48 l = true
 ·rw [if_pos h0] at h
  obtain ⟨r',rfl⟩:=isC_true h0
  injection h with h1 _
  simp only [List.drop_succ_cons,List.drop_zero] at h1
  subst h1
  exact ⟨[48],rfl,fun y hy => rfl,48,[],rfl,by decide⟩
 ·rw [if_neg h0] at h
  obtain ⟨t,e,h1,h2,h3⟩:=digits_part _ _ _ h
  obtain ⟨c,t',rfl⟩ : ∃ c t',t = c :: t':=by
   cases t with
   | nil => exact absurd rfl h1
   | cons c t' => exact ⟨c,t',rfl⟩
  refine ⟨c :: t',e,fun y hy => ?_,c,t',rfl,h3 _ _ rfl⟩
  have e2 : isC 48 (c :: t' ++ y) = isC 48 l:=by rw [e];rfl
  unfold num1
  rw [e2,if_neg h0]
  exact h2 y hy
theorem num2_part (l r : Bs) (u : Unit) (h : num2 l = .ok r u) : ∃ t,l = t ++ r ∧ (∀ y,nd y = true → isC 46 y = false → num2 (t ++ y) = .ok y ()) ∧ ∀ y,nd y = true → nd (t ++ y) = true:=by
 unfold num2 at h
 by_cases h0 : isC 46 l = true
 ·rw [if_pos h0] at h
  obtain ⟨r',rfl⟩:=isC_true h0
  simp only [List.drop_succ_cons,List.drop_zero] at h
  obtain ⟨t,e,h1,h2,h3⟩:=digits_part _ _ _ h
  refine ⟨46 :: t,by rw [e];rfl,fun y hy _ => ?_,fun y _ => rfl⟩
  unfold num2
  have e1 : isC 46 (46 :: t ++ y) = true:=rfl
  have e2 : (46 :: t ++ y).drop 1 = t ++ y:=rfl
  rw [e1,if_pos rfl,e2]
  exact h2 y hy
 ·rw [if_neg h0] at h
  injection h with h1 _
  subst h1
  refine ⟨[],rfl,fun y hy h46 => ?_,fun y hy => hy⟩
  unfold num2
  rw [List.nil_append,h46]
  rfl
theorem num3_part (l r : Bs) (u : Unit) (h : num3 l = .ok r u) : ∃ t,l = t ++ r ∧ num3 t = .ok [] () ∧ nd t = true ∧ isC 46 t = false:=by
 unfold num3 at h
 by_cases h0 : (isC 101 l || isC 69 l) = true
 ·rw [if_pos h0] at h
  obtain ⟨ce,l',rfl,hce⟩ : ∃ ce l',l = ce :: l' ∧ (ce = 101 ∨ ce = 69):=by
   simp only [Bool.or_eq_true] at h0
   rcases h0 with h0|h0
   ·obtain ⟨r',e⟩:=isC_true h0
    exact ⟨101,r',e,.inl rfl⟩
   ·obtain ⟨r',e⟩:=isC_true h0
    exact ⟨69,r',e,.inr rfl⟩
  simp only [List.drop_succ_cons,List.drop_zero] at h
  by_cases h1 : (isC 43 l' || isC 45 l') = true
  ·rw [if_pos h1] at h
   obtain ⟨cs,l2,rfl,hcs⟩ : ∃ cs l2,l' = cs :: l2 ∧ (cs = 43 ∨ cs = 45):=by
    simp only [Bool.or_eq_true] at h1
    rcases h1 with h1|h1
    ·obtain ⟨r',e⟩:=isC_true h1
     exact ⟨43,r',e,.inl rfl⟩
    ·obtain ⟨r',e⟩:=isC_true h1
     exact ⟨45,r',e,.inr rfl⟩
   simp only [List.drop_succ_cons,List.drop_zero] at h
   obtain ⟨t,e,h2,h3,h4⟩:=digits_part _ _ _ h
   have h5:=h3 [] rfl
   rw [List.append_nil] at h5
   refine ⟨ce :: cs :: t,by rw [e];rfl,?_,?_,?_⟩
   ·unfold num3
    have e1 : (isC 101 (ce :: cs :: t) || isC 69 (ce :: cs :: t)) = true:=by rcases hce with rfl|rfl <;> rfl
    have e2 : (isC 43 ((ce :: cs :: t).drop 1) || isC 45 ((ce :: cs :: t).drop 1)) = true:=by rcases hcs with rfl|rfl <;> rfl
    rw [e1,if_pos rfl,e2,if_pos rfl]
    exact h5
   ·rcases hce with rfl|rfl <;> rfl
   ·rcases hce with rfl|rfl <;> rfl
  ·rw [if_neg h1] at h
   obtain ⟨t,e,h2,h3,h4⟩:=digits_part _ _ _ h
   obtain ⟨ct,t',rfl⟩ : ∃ c t',t = c :: t':=by
    cases t with
    | nil => exact absurd rfl h2
    | cons c t' => exact ⟨c,t',rfl⟩
   have h5:=h3 [] rfl
   rw [List.append_nil] at h5
   have e3 : (isC 43 (ct :: t') || isC 45 (ct :: t')) = (isC 43 l' || isC 45 l'):=by rw [e];rfl
   refine ⟨ce :: ct :: t',by rw [e];rfl,?_,?_,?_⟩
   ·unfold num3
    have e1 : (isC 101 (ce :: ct :: t') || isC 69 (ce :: ct :: t')) = true:=by rcases hce with rfl|rfl <;> rfl
    have e2 : (isC 43 ((ce :: ct :: t').drop 1) || isC 45 ((ce :: ct :: t').drop 1)) = false:=by
     show (isC 43 (ct :: t') || isC 45 (ct :: t')) = false
     rw [e3]
     simpa using h1
    rw [e1,if_pos rfl,e2]
    exact h5
   ·rcases hce with rfl|rfl <;> rfl
   ·rcases hce with rfl|rfl <;> rfl
 ·rw [if_neg h0] at h
  injection h with h1 _
  subst h1
  exact ⟨[],rfl,rfl,rfl,rfl⟩
theorem num_part (l r : Bs) (u : Unit) (h : num l = .ok r u) : ∃ t,l = t ++ r ∧ num t = .ok [] ():=by
 unfold num at h
 have key : ∀ l',(match num1 l' with | .bad r e => (.bad r e : Rs Unit) | .ok l2 _ => match num2 l2 with | .bad r e => .bad r e | .ok l3 _ => num3 l3) = .ok r u → ∃ t,l' = t ++ r ∧ (match num1 t with | .bad r e => (.bad r e : Rs Unit) | .ok l2 _ => match num2 l2 with | .bad r e => .bad r e | .ok l3 _ => num3 l3) = .ok [] () ∧ ∃ c t',t = c :: t' ∧ isDig c = true:=by
  intro l' h
  cases h1 : num1 l' with
  | bad a b => rw [h1] at h;cases h
  | ok l2 u2 =>
   rw [h1] at h
   simp only at h
   cases h2 : num2 l2 with
   | bad a b => rw [h2] at h;cases h
   | ok l3 u3 =>
    rw [h2] at h
    simp only at h
    obtain ⟨t1,e1,p1,c,t',ec,hc⟩:=num1_part _ _ _ h1
    obtain ⟨t2,e2,p2,q2⟩:=num2_part _ _ _ h2
    obtain ⟨t3,e3,p3,q3,s3⟩:=num3_part _ _ _ h
    refine ⟨t1 ++ (t2 ++ t3),by rw [e1,e2,e3];simp,?_,c,t' ++ (t2 ++ t3),by rw [ec];rfl,hc⟩
    rw [p1 (t2 ++ t3) (q2 t3 q3)]
    simp only
    rw [p2 t3 q3 s3]
    exact p3
 by_cases h45 : isC 45 l = true
 ·rw [if_pos h45] at h
  obtain ⟨l',rfl⟩:=isC_true h45
  obtain ⟨t,e,ht,_⟩:=key _ h
  simp only [List.drop_succ_cons,List.drop_zero] at e
  refine ⟨45 :: t,by rw [e];rfl,?_⟩
  unfold num
  have e1 : isC 45 (45 :: t) = true:=rfl
  rw [e1,if_pos rfl]
  exact ht
 ·rw [if_neg h45] at h
  obtain ⟨t,e,ht,c,t',ec,hc⟩:=key _ h
  refine ⟨t,e,?_⟩
  unfold num
  have e1 : isC 45 t = false:=by
   rw [ec]
   simp only [isC,beq_eq_false_iff_ne,ne_eq]
   rintro rfl
   exact absurd hc (by decide)
  rw [e1,if_neg (by simp)]
  exact ht
theorem number_is (l r t : Bs) (h : number l = .ok r t) : isNum t = true ∧ l = t ++ r:=by
 unfold number at h
 cases hn : num l with
 | bad a b => rw [hn] at h;cases h
 | ok a u =>
  rw [hn] at h
  simp only at h
  injection h with h1 h2
  obtain ⟨t',e,ht⟩:=num_part _ _ _ hn
  subst h1
  have e2 : t = t':=by
   rw [← h2]
   conv => lhs;rw [e]
   simp
  subst e2
  refine ⟨?_,e⟩
  unfold isNum
  rw [ht]
end Go.Proofs.YtadfkeipcebmfaaDoor.Pure
namespace Go.Proofs.YtadfkeipcebmfaaDoor.Pure
open Go.Proofs.YtadfkeipcebmfaaDoor.X Go.RowKit Go.Proofs.YtadfkeipcebmfaaDoorW.PrintWords
set_option linter.unusedVariables false
set_option linter.unusedSimpArgs false
end Go.Proofs.YtadfkeipcebmfaaDoor.Pure
namespace Go.Proofs.YtadfkeipcebmfaaDoor.X
open Go.RowKit Go.Proofs.YtadfkeipcebmfaaDoorW.PrintWords
set_option linter.unusedVariables false
set_option linter.unusedSimpArgs false
set_option maxRecDepth 100000 in
theorem u8x : Go.Proofs.U8Extra Tryd.prog vren:=⟨by kernel_rfl,by kernel_rfl,by kernel_rfl,by kernel_rfl,by kernel_rfl,by kernel_rfl,by kernel_rfl⟩
theorem u8t : Go.Proofs.U8Types Tryd.prog vren:=Go.Proofs.U8Types.of196 vlays
theorem GlobU8.laid {W : World} {l : List (String × DataW Unit)} (hL : laidMet Tryd.prog l W) (h1 : ("unicode/utf8.first", Go.Lib.firstData) ∈ l) (h2 : ("unicode/utf8.acceptRanges", Go.Lib.acceptData) ∈ l) : GlobU8 W :=
 GlobU8.of (Go.Proofs.utf8Tabs_of_readsT u8t u8x (Go.Lib.laidMet.reads hL h1) (Go.Lib.laidMet.reads hL h2))
theorem GlobU8.laid2 {W : World} {l : List (String × DataW Unit)} (hL : laidMet Tryd.prog l W) {d1 d2 : DataW Unit} (h1 : ("unicode/utf8.first", d1) ∈ l) (e1 : d1 = Go.Lib.firstData) (h2 : ("unicode/utf8.acceptRanges", d2) ∈ l) (e2 : d2 = Go.Lib.acceptData) : GlobU8 W :=
 GlobU8.laid hL (e1 ▸ h1) (e2 ▸ h2)
end Go.Proofs.YtadfkeipcebmfaaDoor.X
namespace Go.Proofs.YtadfkeipcebmfaaDoor.X
open Go
set_option linter.unusedVariables false
section
variable {H : Type} {enc : TypeId × Value → H}
theorem handed_laid_shaped {a : Assume} {C : Checked} {os : Os} {f : FuncId} {fn : Func} {s : ChangeSpec} {conds : List PathCond} {apart fresh handsOn again : Bool} {X : World → Array Value → Prop}
  (hX : ∀ (w w' : World) (args : Array Value),w.heap = w'.heap → X w args → X w' args)
  (own : ownKnob C.prog.godebug = none) (started : os.Started) (noInit : C.prog.inits.idxOf? f = none) (hfn : C.prog.funcs[f]? = some fn)
  (witness : ∃ (w : World) (tape : Tape) (i : Input),w.os = os ∧ (w.forCall tape i).Shaped C.prog ∧ i.vars = [] ∧ Input.okWide C.prog (w.forCall tape i) .any w.heap.size f i ∧
   ((s.pre enc C.prog fn conds apart (w.forCall tape i).memory i.args ∧ X (w.forCall tape i).memory i.args) ∧ sizedMet enc C.prog fn (OpenSpec.ofChange s) apart (w.forCall tape i).memory i.args) ∧ a.holds C.prog (lone (Frame.enter C.prog f i.args .normal) [] (w.forCall tape i)))
  (contract : ∀ (W : World) (base : Nat) (args : Array Value) (ds gs : List (DataW H)) (before : List MemPlace),
   (∀ (j : Nat) t v,fn.params[j]? = some t → args[j]? = some v → Value.okWide C.prog W .any base t v) →
   DataW.Whole enc C.prog fn.params.toList s.vars apart W args.toList ds gs before →
   conds.all (PathCond.test C.prog ⟨fn.params.toList,ds,s.plain.varTypes C.prog,gs⟩) = true →
   (DataW.weightsEach C.prog (fn.params.toList ++ s.plain.varTypes C.prog) (ds ++ gs)).all (· ≤ reachBytes) = true → X W args → W.ShapedOpen C.prog →
   a.holds C.prog (lone (Frame.enter C.prog f args .normal) [] W) →
   Calls C.prog f args W fun e W' => ∃ v,e = .returned v ∧ s.post enc C.prog fn apart fresh handsOn again W args v W') :
  ReturnsInHanded a C os f .any (fun w args => (s.pre enc C.prog fn conds apart w args ∧ X w args) ∧ sizedMet enc C.prog fn (OpenSpec.ofChange s) apart w args) (s.post enc C.prog fn apart fresh handsOn again):=by
 refine returnsInHanded_of_calls own started noInit witness ?_
 intro w tape i _ hsh _ hok hpre hholds
 obtain ⟨_,_,_,fn',hfn',_,_,_,_,hval⟩:=hok
 have e : fn' = fn:=Option.some.inj (hfn'.symm.trans hfn)
 subst e
 obtain ⟨⟨⟨ds,gs,before,hw,hc⟩,hx⟩,hz⟩:=hpre
 have hw':=DataW.Whole.of_heap (w':=w.forCall tape i) (by rfl) hw
 refine (contract (w.forCall tape i) w.heap.size i.args ds gs before hval hw' hc (hz.weights hw) (hX _ _ _ (by rfl) hx) hsh hholds).mono fun e W' ⟨v,he,hp⟩ => ?_
 subst he
 exact ChangeSpec.post_blind hp
end
end Go.Proofs.YtadfkeipcebmfaaDoor.X
namespace Go.Proofs.YtadfkeipcebmfaaDoor.Pure
open Go.RowKit Go.Proofs.YtadfkeipcebmfaaDoor.X Go.Proofs.YtadfkeipcebmfaaDoorW.PrintWords
set_option linter.unusedVariables false
set_option maxRecDepth 100000 in
theorem works_true : racewaylaw25_works.f = some true:=by decide +kernel
end Go.Proofs.YtadfkeipcebmfaaDoor.Pure
namespace Go.Proofs.YtadfkeipcebmfaaDoor.Pure
open Go.Proofs.YtadfkeipcebmfaaDoor.X Go.RowKit Go.Proofs.YtadfkeipcebmfaaDoorW.PrintWords
set_option linter.unusedVariables false
set_option linter.unusedSimpArgs false
def E57 {α : Type} (x : Rs α) : Prop:=∀ r e,x = .bad r e → e = 5 ∨ e = 7
theorem E57.map {α β : Type} {f : α → β} {x : Rs α} (h : E57 x) : E57 (x.map f):=by
 intro r e h'
 cases x with
 | bad a b =>
  injection h' with _ h2
  exact h2 ▸ h a b rfl
 | ok a b => cases h'
theorem bad_inj {α : Type} {a c : Bs} {b d : Int} (h : (Rs.bad a b : Rs α) = Rs.bad c d) : a = c ∧ b = d:=by
 cases h
 exact ⟨rfl,rfl⟩
theorem e57_5 {α : Type} (l : Bs) : E57 (.bad l 5 : Rs α):=fun r e h => .inl (bad_inj h).2.symm
theorem e57_ok {α : Type} (l : Bs) (a : α) : E57 (.ok l a : Rs α):=fun r e h => by cases h
theorem digits_e (l : Bs) : E57 (digits l):=by
 unfold digits
 split
 ·split
  ·exact e57_ok _ _
  ·exact e57_5 _
 ·exact e57_5 _
theorem num_e (l : Bs) : E57 (num l):=by
 have h1 : ∀ l,E57 (num1 l):=fun l => by
  unfold num1
  split
  ·exact e57_ok _ _
  ·exact digits_e _
 have h2 : ∀ l,E57 (num2 l):=fun l => by
  unfold num2
  split
  ·exact digits_e _
  ·exact e57_ok _ _
 have h3 : ∀ l,E57 (num3 l):=fun l => by
  unfold num3
  split
  ·split <;> exact digits_e _
  ·exact e57_ok _ _
 unfold num
 split
 ·rename_i r e hh
  intro r' e' h'
  rw [← (bad_inj h').2]
  exact h1 _ _ _ hh
 ·split
  ·rename_i r e hh
   intro r' e' h'
   rw [← (bad_inj h').2]
   exact h2 _ _ _ hh
  ·exact h3 _
theorem word_e : ∀ (w l : Bs),E57 (word w l)
 | [],l => e57_ok _ _
 | c :: w,[] => e57_5 _
 | c :: w,d :: l => by
  simp only [word]
  split
  ·exact word_e w l
  ·exact e57_5 _
theorem uni_e (l r : Bs) : E57 (uni l r):=by
 unfold uni
 split
 ·exact e57_5 _
 ·split
  ·exact e57_5 _
  ·split
   ·exact e57_ok _ _
   ·split
    ·split
     ·split
      ·split
       ·exact e57_ok _ _
       ·exact e57_5 _
      ·exact e57_5 _
     ·exact e57_5 _
    ·exact e57_5 _
theorem escape_e (l : Bs) : E57 (escape l):=by
 unfold escape
 split
 ·split
  ·exact e57_ok _ _
  ·split
   ·exact uni_e _ _
   ·exact e57_5 _
 ·exact e57_5 _
theorem chars_e : ∀ (n : Nat) (l acc : Bs),E57 (chars n l acc)
 | 0,l,acc => e57_5 _
 | n + 1,[],acc => e57_5 _
 | n + 1,c :: l,acc => by
  simp only [chars]
  split
  ·exact e57_ok _ _
  ·split
   ·exact e57_5 _
   ·split
    ·split
     ·exact chars_e n _ _
     ·rename_i hh
      intro r' e' h'
      rw [← (bad_inj h').2]
      exact escape_e _ _ _ hh
    ·split
     ·exact e57_5 _
     ·exact chars_e n _ _
theorem text_e (l : Bs) : E57 (text l):=by
 unfold text
 split
 ·split
  ·exact chars_e _ _ _
  ·exact e57_5 _
 ·exact e57_5 _
theorem same_self (l : List (S46)) (hl : l.length ≤ 1099511627776) (k : Nat) (hk : l.length + 1 ≤ k) : racewayref25_Same.f k l l = some true:=by
 rw [racewayref25_Same.f,if_pos rfl]
 have : ∀ (n i k : Nat),i + n = l.length → n + 1 ≤ k → racewayref25_Same.l0 k l l (i : Int) = some true:=by
  intro n
  induction n with
  | zero =>
   intro i k hi hk
   obtain ⟨k,rfl⟩ : ∃ k',k = k' + 1:=⟨k - 1,by omega⟩
   rw [racewayref25_Same.l0,if_neg (by omega)]
  | succ n ih =>
   intro i k hi hk
   obtain ⟨k,rfl⟩ : ∃ k',k = k' + 1:=⟨k - 1,by omega⟩
   rw [racewayref25_Same.l0,if_pos (by omega),if_pos (by omega),if_pos (by omega),if_neg (by simp)]
   have e : wrap64 ((i : Int) + 1) = ((i + 1 : Nat) : Int):=by unfold wrap64;omega
   rw [e]
   exact ih (i + 1) k (by omega) (by omega)
 exact this l.length 0 k (by omega) hk
end Go.Proofs.YtadfkeipcebmfaaDoor.Pure
namespace Go.Proofs.YtadfkeipcebmfaaDoor.Pure
open Go.Proofs.YtadfkeipcebmfaaDoor.X Go.RowKit Go.Proofs.YtadfkeipcebmfaaDoorW.PrintWords
set_option linter.unusedVariables false
set_option linter.unusedSimpArgs false
end Go.Proofs.YtadfkeipcebmfaaDoor.Pure
namespace Go.Proofs.YtadfkeipcebmfaaDoor.Pure
open Go.Proofs.YtadfkeipcebmfaaDoor.X Go.RowKit Go.Proofs.YtadfkeipcebmfaaDoorW.PrintWords Go.Proofs.YtadfkeipcebmfaaDoorW.PrintMore
set_option linter.unusedVariables false
set_option linter.unusedSimpArgs false
set_option maxRecDepth 100000 in
theorem enc_eq (x : Nat) (h1 : x < 1114112) (h2 : x < 55296 ∨ 57343 < x) : enc x = if x < 128 then [UInt8.ofNat x] else if x < 2048 then [UInt8.ofNat (192 + x / 64),UInt8.ofNat (128 + x % 64)] else if x < 65536 then [UInt8.ofNat (224 + x / 4096),UInt8.ofNat (128 + x / 64 % 64),UInt8.ofNat (128 + x % 64)] else [UInt8.ofNat (240 + x / 262144),UInt8.ofNat (128 + x / 4096 % 64),UInt8.ofNat (128 + x / 64 % 64),UInt8.ofNat (128 + x % 64)]:=by
 have hv : Utf8.valid (x : Int) = true:=by
  unfold Utf8.valid
  simp
  omega
 rw [enc,Utf8.encode,if_pos hv,Int.toNat_natCast]
 simp only
 split
 ·rfl
 ·split
  ·rfl
  ·split <;> rfl
theorem tdivN (a b : Nat) : Int.tdiv (a : Int) (b : Int) = ((a / b : Nat) : Int):=by rw [Int.tdiv_eq_ediv_of_nonneg (by omega)];rfl
theorem tmodN (a b : Nat) : Int.tmod (a : Int) (b : Int) = ((a % b : Nat) : Int):=by rw [Int.tmod_eq_emod_of_nonneg (by omega)];rfl
theorem add256 (a n : Nat) (h : a + n < 256) : wrap64 ((a : Int) + wrap64 (n : Int)) % 256 = ((a + n : Nat) : Int):=by rw [w64v (x:=(n : Int)) (by omega) (by omega),w64v (by omega) (by omega)];omega
theorem add256' (a n : Nat) (h : a + n < 256) : wrap64 ((a : Int) + (n : Int)) % 256 = ((a + n : Nat) : Int):=by rw [w64v (by omega) (by omega)];omega
theorem sn1 (a : Nat) : strOfNums [(a : Int)] = str [UInt8.ofNat a]:=rfl
theorem sn2 (a b : Nat) : strOfNums [(a : Int),(b : Int)] = str [UInt8.ofNat a,UInt8.ofNat b]:=rfl
theorem sn3 (a b c : Nat) : strOfNums [(a : Int),(b : Int),(c : Int)] = str [UInt8.ofNat a,UInt8.ofNat b,UInt8.ofNat c]:=rfl
theorem sn4 (a b c d : Nat) : strOfNums [(a : Int),(b : Int),(c : Int),(d : Int)] = str [UInt8.ofNat a,UInt8.ofNat b,UInt8.ofNat c,UInt8.ofNat d]:=rfl
theorem encode_R (x : Nat) (h1 : x < 1114112) (h2 : x < 55296 ∨ 57343 < x) : racewayref25_encode.f (x : Int) = some (str (enc x)):=by
 rw [racewayref25_encode.f,enc_eq x h1 h2]
 have t64 : Int.tdiv (x : Int) 64 = ((x / 64 : Nat) : Int):=tdivN x 64
 have t4096 : Int.tdiv (x : Int) 4096 = ((x / 4096 : Nat) : Int):=tdivN x 4096
 have t262144 : Int.tdiv (x : Int) 262144 = ((x / 262144 : Nat) : Int):=tdivN x 262144
 have m64 : Int.tmod (x : Int) 64 = ((x % 64 : Nat) : Int):=tmodN x 64
 have w1 : wrap64 ((x / 64 : Nat) : Int) = ((x / 64 : Nat) : Int):=w64v (by omega) (by omega)
 have w2 : wrap64 ((x / 4096 : Nat) : Int) = ((x / 4096 : Nat) : Int):=w64v (by omega) (by omega)
 have n64 : Int.tmod ((x / 64 : Nat) : Int) 64 = ((x / 64 % 64 : Nat) : Int):=tmodN _ 64
 have n4096 : Int.tmod ((x / 4096 : Nat) : Int) 64 = ((x / 4096 % 64 : Nat) : Int):=tmodN _ 64
 rw [t64,t4096,t262144,m64,w1,w2,n64,n4096]
 by_cases c1 : x < 128
 ·rw [if_pos (by omega),if_pos c1]
  have : (x : Int) % 256 = ((x : Nat) : Int):=by omega
  rw [this,sn1]
 ·rw [if_neg (by omega),if_neg c1]
  by_cases c2 : x < 2048
  ·rw [if_pos (by omega),if_pos c2]
   have e1:=add256' 192 (x / 64) (by omega)
   have e2:=add256' 128 (x % 64) (by omega)
   rw [show ((192 : Int)) = ((192 : Nat) : Int) from rfl,show ((128 : Int)) = ((128 : Nat) : Int) from rfl,e1,e2,sn2]
  ·rw [if_neg (by omega),if_neg c2]
   by_cases c3 : x < 65536
   ·rw [if_pos (by omega),if_pos c3]
    have e1:=add256' 224 (x / 4096) (by omega)
    have e2:=add256' 128 (x / 64 % 64) (by omega)
    have e3:=add256' 128 (x % 64) (by omega)
    rw [show ((224 : Int)) = ((224 : Nat) : Int) from rfl,show ((128 : Int)) = ((128 : Nat) : Int) from rfl,e1,e2,e3,sn3]
   ·rw [if_neg (by omega),if_neg c3]
    have e1:=add256 240 (x / 262144) (by omega)
    have e2:=add256' 128 (x / 4096 % 64) (by omega)
    have e3:=add256' 128 (x / 64 % 64) (by omega)
    have e4:=add256' 128 (x % 64) (by omega)
    rw [show ((240 : Int)) = ((240 : Nat) : Int) from rfl,show ((128 : Int)) = ((128 : Nat) : Int) from rfl,e1,e2,e3,e4,sn4]
def tres (s : ByteArray) : Rs Bs → Option (Int × Int × List S46 × ByteArray)
 | .ok r t => okR s r [] (str t)
 | .bad r e => badR s r e
theorem four_room {l : Bs} {n : Nat} (h : four l = some n) : 4 ≤ l.length ∧ n < 65536:=by
 match l,h with
 | [],h => cases h
 | [_],h => cases h
 | [_,_],h => cases h
 | [_,_,_],h => cases h
 | a :: b :: c :: d :: r,h =>
  have e4 : four (a :: b :: c :: d :: r) = (hexv a).bind fun x => (hexv b).bind fun y => (hexv c).bind fun z => (hexv d).bind fun u => some (4096 * x + 256 * y + 16 * z + u):=rfl
  rw [e4] at h
  cases h0 : hexv a with
  | none => rw [h0] at h;cases h
  | some x =>
   cases h1 : hexv b with
   | none => rw [h0,h1] at h;cases h
   | some y =>
    cases h2 : hexv c with
    | none => rw [h0,h1,h2] at h;cases h
    | some z =>
     cases h3 : hexv d with
     | none => rw [h0,h1,h2,h3] at h;cases h
     | some u =>
      rw [h0,h1,h2,h3] at h
      simp only [Option.bind_some,Option.some.injEq] at h
      have:=hexv_lt h0
      have:=hexv_lt h1
      have:=hexv_lt h2
      have:=hexv_lt h3
      refine ⟨by simp,by omega⟩
theorem fail_T {s : ByteArray} {q : Nat} {l : Bs} (ha : At s q l) : ((racewayref25_fail.f (q : Int)).bind fun b => (some (b.1,b.2.1,b.2.2.1,b.2.2.2))) = tres s (.bad l 5):=fail_law' ha
theorem uni_R {s : ByteArray} {p : Nat} {b c : UInt8} {r : Bs} (ha : At s p (b :: c :: r)) (hs : s.size ≤ 100000000) (k : Nat) (hk : 60 ≤ k) : racewayref25_escape.j1 k s (p : Int) (fourI r) = tres s (uni (b :: c :: r) r):=by
 obtain ⟨k,rfl⟩ : ∃ k',k = k' + 10:=⟨k - 10,by omega⟩
 have hle:=ha.le
 have hr:=ha.next.next
 have hfail:=fail_T ha
 rw [racewayref25_escape.j1]
 unfold uni
 cases hf : four r with
 | none =>
  have e : fourI r = -1:=by unfold fourI;rw [hf]
  rw [e,if_pos (by decide),racewayref25_escape.j2,if_pos rfl]
  exact hfail
 | some x =>
  obtain ⟨f4,fx⟩:=four_room hf
  have e : fourI r = (x : Int):=by unfold fourI;rw [hf]
  rw [e,if_neg (by omega)]
  simp only
  have hlen:=hr.len
  by_cases c1 : 0xdc00 ≤ x ∧ x ≤ 0xdfff
  ·rw [if_pos c1,if_pos (by omega),decide_eq_true (by omega),racewayref25_escape.j2,if_pos rfl]
   exact hfail
  ·rw [if_neg c1]
   have ej : (if (x : Int) ≥ 56320 then racewayref25_escape.j2 (k + 9) s (p : Int) (x : Int) (decide ((x : Int) ≤ 57343)) else racewayref25_escape.j2 (k + 9) s (p : Int) (x : Int) false) = racewayref25_escape.j2 (k + 9) s (p : Int) (x : Int) false:=by
    by_cases h : (x : Int) ≥ 56320
    ·rw [if_pos h,decide_eq_false (by omega)]
    ·rw [if_neg h]
   rw [ej,racewayref25_escape.j2,if_neg (by decide)]
   have ej2 : (if (x : Int) < 55296 then racewayref25_escape.j3 (k + 8) s (p : Int) (x : Int) true else racewayref25_escape.j3 (k + 8) s (p : Int) (x : Int) (decide ((x : Int) > 57343))) = racewayref25_escape.j3 (k + 8) s (p : Int) (x : Int) (decide (x < 0xd800 ∨ 0xdfff < x)):=by
    by_cases h : x < 0xd800
    ·rw [if_pos (by omega),decide_eq_true (Or.inl h)]
    ·rw [if_neg (by omega)]
     congr 1
     by_cases h2 : 0xdfff < x
     ·rw [decide_eq_true (by omega),decide_eq_true (Or.inr h2)]
     ·rw [decide_eq_false (by omega),decide_eq_false (by omega)]
   rw [ej2,racewayref25_escape.j3]
   have hr4:=hr.add 4 f4
   by_cases c2 : x < 0xd800 ∨ 0xdfff < x
   ·rw [if_pos (decide_eq_true c2),if_pos c2,encode_R x (by omega) (by omega),Option.bind_some,w64v (by omega) (by omega)]
    have hp:=hr4.pos
    show _ = okR s (r.drop 4) [] (str (enc x))
    rw [okR,← hp]
    congr 1
   ·rw [if_neg (by rw [decide_eq_false c2];decide),if_neg c2,w64v (x:=(p : Int) + 6) (by omega) (by omega),w64v (x:=(p : Int) + 7) (by omega) (by omega),show ((p : Int) + 6) = ((p + 1 + 1 + 4 : Nat) : Int) by omega,is_law hr4 92 92 rfl,Option.bind_some]
    generalize hR : r.drop 4 = R at hr4
    have hbad : racewayref25_escape.j4 (k + 7) s (p : Int) (x : Int) (-1) false = tres s (.bad (b :: c :: r) 5):=by
     rw [racewayref25_escape.j4,if_neg (by decide),racewayref25_escape.j5,if_pos (by decide),racewayref25_escape.j6,if_pos rfl]
     exact hfail
    match R,hR,hr4 with
    | [],hR,hr4 =>
     rw [if_neg (by decide)]
     exact hbad
    | [c1],hR,hr4 =>
     by_cases d1 : isC 92 [c1] = true
     ·rw [if_pos d1,show ((p : Int) + 7) = ((p + 1 + 1 + 4 + 1 : Nat) : Int) by omega,is_law hr4.next 117 117 rfl,Option.bind_some]
      exact hbad
     ·rw [if_neg d1]
      exact hbad
    | c1 :: c2 :: r2,hR,hr4 =>
     simp only
     by_cases d1 : c1 = 92
     ·have d1' : isC 92 (c1 :: c2 :: r2) = true:=by simp [isC,d1]
      rw [if_pos d1',show ((p : Int) + 7) = ((p + 1 + 1 + 4 + 1 : Nat) : Int) by omega,is_law hr4.next 117 117 rfl,Option.bind_some]
      by_cases d2 : c2 = 117
      ·have d2' : isC 117 (c2 :: r2) = true:=by simp [isC,d2]
       have h8:=hr4.next.next
       rw [d2',racewayref25_escape.j4,if_pos rfl,w64v (x:=(p : Int) + 8) (by omega) (by omega),show ((p : Int) + 8) = ((p + 1 + 1 + 4 + 1 + 1 : Nat) : Int) by omega,four_R h8 hs _ (by omega),Option.bind_some,if_pos ⟨d1,d2⟩,racewayref25_escape.j5]
       cases hf2 : four r2 with
       | none =>
        have e2 : fourI r2 = -1:=by unfold fourI;rw [hf2]
        rw [e2,if_pos (by decide),racewayref25_escape.j6,if_pos rfl]
        exact hfail
       | some y =>
        have e2 : fourI r2 = (y : Int):=by unfold fourI;rw [hf2]
        obtain ⟨g4,gy⟩:=four_room hf2
        rw [e2]
        simp only
        by_cases d3 : 0xdc00 ≤ y ∧ y ≤ 0xdfff
        ·rw [if_pos d3,if_neg (by omega),decide_eq_false (by omega),racewayref25_escape.j6,if_neg (by decide)]
         have h12:=h8.add 4 g4
         have hp12:=h12.pos
         have hle12:=h12.le
         have ev : wrap64 (wrap64 (wrap64 (65536 + wrap64 (wrap64 ((x : Int) - 55296) * 1024)) + (y : Int)) - 56320) = ((0x10000 + (x - 0xd800) * 1024 + (y - 0xdc00) : Nat) : Int):=by
          rw [w64v (x:=(x : Int) - 55296) (by omega) (by omega),w64v (x:=((x : Int) - 55296) * 1024) (by omega) (by omega),w64v (x:=65536 + ((x : Int) - 55296) * 1024) (by omega) (by omega),w64v (x:=65536 + ((x : Int) - 55296) * 1024 + (y : Int)) (by omega) (by omega),w64v (by omega) (by omega)]
          omega
         rw [ev,encode_R _ (by omega) (by omega),Option.bind_some,w64v (by omega) (by omega)]
         show _ = okR s (r2.drop 4) [] (str _)
         rw [okR,← hp12]
         congr 1
        ·have ej : (if (y : Int) < 56320 then racewayref25_escape.j6 (k + 5) (p : Int) (x : Int) (y : Int) true else racewayref25_escape.j6 (k + 5) (p : Int) (x : Int) (y : Int) (decide ((y : Int) > 57343))) = racewayref25_escape.j6 (k + 5) (p : Int) (x : Int) (y : Int) true:=by
          by_cases h : (y : Int) < 56320
          ·rw [if_pos h]
          ·rw [if_neg h,decide_eq_true (by omega)]
         rw [if_neg d3,ej,racewayref25_escape.j6,if_pos rfl]
         exact hfail
      ·have d2' : isC 117 (c2 :: r2) = false:=by simp [isC,d2]
       rw [d2',if_neg (fun h => d2 h.2)]
       exact hbad
     ·have d1' : ¬ isC 92 (c1 :: c2 :: r2) = true:=by simp [isC,d1]
      rw [if_neg d1',if_neg (fun h => d1 h.1)]
      exact hbad
theorem uni_small {l r r' t : Bs} (h : uni l r = .ok r' t) : t.length ≤ 4:=by
 have he : ∀ x,x < 1114112 → (x < 55296 ∨ 57343 < x) → (enc x).length ≤ 4:=by
  intro x h1 h2
  rw [enc_eq x h1 h2]
  split
  ·simp
  ·split
   ·simp
   ·split <;> simp
 unfold uni at h
 split at h
 ·cases h
 ·rename_i x hf
  have fx:=(four_room hf).2
  split at h
  ·cases h
  ·split at h
   ·rename_i c1 c2
    injection h with _ h
    rw [← h]
    exact he _ (by omega) (by omega)
   ·split at h
    ·split at h
     ·split at h
      ·rename_i y hf2
       split at h
       ·rename_i c3
        injection h with _ h
        rw [← h]
        have:=(four_room hf2).2
        exact he _ (by omega) (by omega)
       ·cases h
      ·cases h
     ·cases h
    ·cases h
theorem escape_small {l r t : Bs} (h : escape l = .ok r t) : t.length ≤ 4 ∧ r.length < l.length:=by
 unfold escape at h
 split at h
 ·rename_i b c r0
  split at h
  ·injection h with h1 h2
   rw [← h1,← h2]
   simp
   omega
  ·split at h
   ·have h1:=uni_small h
    have h2:=uni_shorter _ _ _ _ h
    simp only [List.length_cons]
    omega
   ·cases h
 ·cases h
theorem uni_drop {l r r' t : Bs} (h : uni l r = .ok r' t) : ∃ j,r.drop j = r':=by
 unfold uni at h
 split at h
 ·cases h
 ·split at h
  ·cases h
  ·split at h
   ·injection h with h _
    exact ⟨4,h⟩
   ·split at h
    ·rename_i c1 c2 r2 hd
     split at h
     ·split at h
      ·split at h
       ·injection h with h _
        refine ⟨10,?_⟩
        rw [← h,show r.drop 10 = (r.drop 4).drop 6 by rw [List.drop_drop],hd]
        rfl
       ·cases h
      ·cases h
     ·cases h
    ·cases h
theorem escape_drop {l r' t : Bs} (h : escape l = .ok r' t) : ∃ j,l.drop j = r' ∧ j ≤ l.length:=by
 have key : ∃ j,l.drop j = r':=by
  unfold escape at h
  split at h
  ·rename_i b c r0
   split at h
   ·injection h with h _
    exact ⟨2,h⟩
   ·split at h
    ·obtain ⟨j,hj⟩:=uni_drop h
     exact ⟨j + 2,hj⟩
    ·cases h
  ·cases h
 obtain ⟨j,hj⟩:=key
 by_cases hle : j ≤ l.length
 ·exact ⟨j,hj,hle⟩
 ·exact ⟨l.length,by rw [← hj,List.drop_length,List.drop_eq_nil_of_le (by omega)],Nat.le_refl _⟩
theorem escape_five {l l' : Bs} {e : Int} (h : escape l = .bad l' e) : e = 5:=by
 unfold escape at h
 split at h
 ·split at h
  ·cases h
  ·split at h
   ·unfold uni at h
    split at h
    ·injection h with _ h;exact h.symm
    ·split at h
     ·injection h with _ h;exact h.symm
     ·split at h
      ·cases h
      ·split at h
       ·split at h
        ·split at h
         ·split at h
          ·cases h
          ·injection h with _ h;exact h.symm
         ·injection h with _ h;exact h.symm
        ·injection h with _ h;exact h.symm
       ·injection h with _ h;exact h.symm
   ·injection h with _ h;exact h.symm
 ·injection h with _ h;exact h.symm
theorem mark_round {s : ByteArray} {p : Nat} {b c : UInt8} {r : Bs} (ha : At s p (b :: c :: r)) (hs : s.size ≤ 100000000) (k j : Nat) (m v : UInt8) (hj : j < 8) (hm : bt (⟨#[34,92,47,98,102,110,114,116]⟩ : ByteArray) (j : Int) = (m.toNat : Int))
  (hv : (⟨#[34,92,47,8,12,10,13,9]⟩ : ByteArray).extract (j : Int).toNat (wrap64 ((j : Int) + 1) : Int).toNat = str [v]) :
  racewayref25_escape.l0 (k + 1) s (p : Int) (j : Int) = if c = m then tres s (.ok r [v]) else racewayref25_escape.l0 k s (p : Int) ((j + 1 : Nat) : Int):=by
 have h1:=ha.next
 have hlt:=h1.lt
 have hp2:=h1.next.pos
 have hle:=h1.next.le
 have hwj : wrap64 ((j : Int) + 1) = ((j + 1 : Nat) : Int):=by rw [w64v (by omega) (by omega)];omega
 rw [racewayref25_escape.l0,if_pos (by omega),w64v (x:=(p : Int) + 1) (by omega) (by omega),show ((p : Int) + 1) = ((p + 1 : Nat) : Int) by omega,if_pos (by omega),if_pos (by omega),if_pos (by omega),h1.bt,hm]
 by_cases hc : c = m
 ·rw [if_pos hc,if_pos (by rw [hc]),hv,hwj,if_pos (by omega),if_pos (by omega),w64v (x:=(p : Int) + 2) (by omega) (by omega)]
  show _ = okR s r [] (str [v])
  rw [okR,← hp2]
  congr 1
 ·rw [if_neg hc,if_neg (fun h => hc (UInt8.toNat_inj.mp (by omega))),hwj]
theorem escape_R {s : ByteArray} {p : Nat} {b : UInt8} {r : Bs} (ha : At s p (b :: r)) (hs : s.size ≤ 100000000) (k : Nat) (hk : 100 ≤ k) : racewayref25_escape.f k s (p : Int) = tres s (escape (b :: r)):=by
 obtain ⟨k,rfl⟩ : ∃ k',k = k' + 9:=⟨k - 9,by omega⟩
 have hle:=ha.le
 have hlen:=ha.len
 rw [racewayref25_escape.f,w64v (x:=(p : Int) + 1) (by omega) (by omega)]
 match r,ha,hlen with
 | [],ha,hlen =>
  rw [if_pos (by simp at hlen;omega)]
  exact fail_T ha
 | c :: r,ha,hlen =>
  simp only [List.length_cons] at hlen
  rw [if_neg (by omega),show (0 : Int) = ((0 : Nat) : Int) from rfl]
  rw [mark_round ha hs (k + 8) 0 34 34 (by decide) rfl (by decide +kernel),mark_round ha hs (k + 7) 1 92 92 (by decide) rfl (by decide +kernel),mark_round ha hs (k + 6) 2 47 47 (by decide) rfl (by decide +kernel),mark_round ha hs (k + 5) 3 98 8 (by decide) rfl (by decide +kernel),
   mark_round ha hs (k + 4) 4 102 12 (by decide) rfl (by decide +kernel),mark_round ha hs (k + 3) 5 110 10 (by decide) rfl (by decide +kernel),mark_round ha hs (k + 2) 6 114 13 (by decide) rfl (by decide +kernel),mark_round ha hs (k + 1) 7 116 9 (by decide) rfl (by decide +kernel)]
  have e : escape (b :: c :: r) = match unmark c with|some m => .ok r [m]|none => if c = 117 then uni (b :: c :: r) r else .bad (b :: c :: r) 5:=rfl
  rw [e]
  unfold unmark
  by_cases c1 : c = 34
  ·rw [if_pos c1,if_pos c1]
  ·rw [if_neg c1,if_neg c1]
   by_cases c2 : c = 92
   ·rw [if_pos c2,if_pos c2]
   ·rw [if_neg c2,if_neg c2]
    by_cases c3 : c = 47
    ·rw [if_pos c3,if_pos c3]
    ·rw [if_neg c3,if_neg c3]
     by_cases c4 : c = 98
     ·rw [if_pos c4,if_pos c4]
     ·rw [if_neg c4,if_neg c4]
      by_cases c5 : c = 102
      ·rw [if_pos c5,if_pos c5]
      ·rw [if_neg c5,if_neg c5]
       by_cases c6 : c = 110
       ·rw [if_pos c6,if_pos c6]
       ·rw [if_neg c6,if_neg c6]
        by_cases c7 : c = 114
        ·rw [if_pos c7,if_pos c7]
        ·rw [if_neg c7,if_neg c7]
         by_cases c8 : c = 116
         ·rw [if_pos c8,if_pos c8]
         ·rw [if_neg c8,if_neg c8]
          simp only
          have h1:=ha.next
          rw [racewayref25_escape.l0,if_neg (by decide),w64v (x:=(p : Int) + 1) (by omega) (by omega),show ((p : Int) + 1) = ((p + 1 : Nat) : Int) by omega,if_pos (by omega),if_pos h1.lti,h1.bt]
          by_cases c9 : c = 117
          ·rw [if_pos c9,if_pos (by rw [c9];rfl),w64v (x:=(p : Int) + 2) (by omega) (by omega),show ((p : Int) + 2) = ((p + 1 + 1 : Nat) : Int) by omega,four_R h1.next hs k (by omega),Option.bind_some]
           exact uni_R ha hs k (by omega)
          ·rw [if_neg c9,if_neg (fun h => c9 (UInt8.toNat_inj.mp (by show c.toNat = 117;omega)))]
           obtain ⟨k,rfl⟩ : ∃ k',k = k' + 2:=⟨k - 2,by omega⟩
           rw [racewayref25_escape.j1,if_pos (by decide),racewayref25_escape.j2,if_pos rfl]
           exact fail_T ha
theorem str_app (a b : Bs) : str a ++ str b = str (a ++ b):=by
 unfold str
 apply ByteArray.ext
 simp
theorem ext_take {s : ByteArray} {p n : Nat} {l : Bs} (ha : At s p l) (hn : n ≤ l.length) : s.extract p (p + n) = str (l.take n):=by
 unfold str
 apply ByteArray.ext
 apply Array.ext'
 simp only [ByteArray.data_extract,Array.toList_extract,List.extract_eq_take_drop]
 rw [ha.drop]
 congr 1
 omega
theorem chars_R (s : ByteArray) (hs : s.size ≤ 1000000) : ∀ (n : Nat) (l acc : Bs) (p k : Nat),l.length < n → At s p l → acc.length ≤ 4 * p → 3 * l.length + 200 ≤ k → racewayref25_text.l0 k s (p : Int) (str acc) = tres s (chars n l acc)
 | 0,l,acc,p,k,hn,ha,hacc,hk => by omega
 | n + 1,l,acc,p,k,hn,ha,hacc,hk => by
  obtain ⟨k,rfl⟩ : ∃ k',k = k' + 2:=⟨k - 2,by omega⟩
  have hle:=ha.le
  rw [racewayref25_text.l0]
  match l,ha,hn,hk with
  | [],ha,hn,hk =>
   have hz : At s s.size []:=by rw [← ha.nil];exact ha
   rw [if_neg ha.ge,racewayref25_text.j1,if_neg (by decide),if_pos (by have:=ha.nil;omega)]
   exact fail_T hz
  | c :: r,ha,hn,hk =>
   simp only [List.length_cons] at hn hk
   have hlt:=ha.lt
   have hch : chars (n + 1) (c :: r) acc = if c = 34 then .ok r acc else if c.toNat < 32 then .bad (c :: r) 5 else if c = 92 then (match escape (c :: r) with | .ok r' t => chars n r' (acc ++ t) | .bad l' e => .bad l' e) else if sgn (c :: r) = 0 then .bad (c :: r) 5 else chars n ((c :: r).drop (sgn (c :: r))) (acc ++ (c :: r).take (sgn (c :: r))):=rfl
   rw [if_pos ha.lti,if_pos (by omega),ha.bt,racewayref25_text.j1,hch]
   by_cases c1 : c = 34
   ·have hb : ((c.toNat : Int) != 34) = false:=by rw [c1];rfl
    have hp:=ha.next.pos
    rw [if_pos c1,hb,if_neg (by decide),if_neg (by omega),w64v (by omega) (by omega)]
    show _ = okR s r [] (str acc)
    rw [okR,← hp]
    congr 1
   ·have hne : ¬ (c.toNat : Int) = 34:=fun h => c1 (UInt8.toNat_inj.mp (by show c.toNat = 34;omega))
    have hb : ((c.toNat : Int) != 34) = true:=bne_iff_ne.mpr hne
    rw [if_neg c1,hb,if_pos rfl,if_pos (by omega),if_pos ha.lti,ha.bt]
    by_cases c2 : c.toNat < 32
    ·rw [if_pos c2,if_pos (by omega)]
     exact fail_T ha
    ·rw [if_neg c2,if_neg (by omega)]
     by_cases c3 : c = 92
     ·rw [if_pos c3,if_pos (by rw [c3];rfl),escape_R ha (by omega) k (by omega)]
      cases he : escape (c :: r) with
      | ok r' t =>
       obtain ⟨s1,s2⟩:=escape_small he
       simp only [List.length_cons] at s2
       have hlen:=ha.len
       simp only [List.length_cons] at hlen
       have ha' : At s (s.size - r'.length) r':=by
        obtain ⟨j,hj⟩ : ∃ j,(c :: r).drop j = r' ∧ j ≤ (c :: r).length:=by
         exact escape_drop he
        have:=ha.add j hj.2
        rw [hj.1] at this
        rw [← this.pos]
        exact this
       show (if (0 : Int) = 0 then (if (str acc).size + (str t).size ≤ 9223372036854775807 then racewayref25_text.l0 k s ((s.size - r'.length : Nat) : Int) (str acc ++ str t) else none) else some (((s.size - r'.length : Nat) : Int),0,[],str t)) = tres s (chars n r' (acc ++ t))
       rw [if_pos rfl,str_size,str_size,if_pos (by omega),str_app]
       exact chars_R s hs n r' (acc ++ t) _ k (by omega) ha' (by simp only [List.length_append];omega) (by omega)
      | bad l' e =>
       have h5 : e = 5:=escape_five he
       subst h5
       rfl
     ·rw [if_neg c3,if_neg (fun h => c3 (UInt8.toNat_inj.mp (by show c.toNat = 92;omega))),sign_is s p (c :: r) ha (by simp) (by omega) k (by omega),Option.bind_some]
      by_cases c4 : sgn (c :: r) = 0
      ·rw [if_pos c4,if_pos (by omega)]
       exact fail_T ha
      ·have hsl:=sgn_le (c :: r)
       have hlen:=ha.len
       have had:=ha.add _ hsl
       have hdl:=had.le
       simp only [List.length_cons] at hlen hsl
       rw [if_neg c4,if_neg (by omega),w64v (by omega) (by omega),show ((p : Int) + ((sgn (c :: r) : Nat) : Int)) = ((p + sgn (c :: r) : Nat) : Int) by omega,if_pos (by omega),if_pos (by omega),Int.toNat_natCast,Int.toNat_natCast,ext_take ha (by simpa using hsl),str_size,str_size,if_pos (by rw [List.length_take];omega),str_app]
       have hdr : ((c :: r).drop (sgn (c :: r))).length < r.length + 1:=by rw [List.length_drop];simp;omega
       exact chars_R s hs n _ _ _ k (by omega) had (by simp only [List.length_append,List.length_take];omega) (by omega)
theorem text_R {s : ByteArray} {p : Nat} {l : Bs} (ha : At s p l) (hs : s.size ≤ 1000000) (k : Nat) (hk : 3 * l.length + 300 ≤ k) : racewayref25_text.f k s (p : Int) = tres s (text l):=by
 rw [racewayref25_text.f,is_law ha 34 34 rfl,Option.bind_some]
 cases l with
 | nil =>
  rw [isC,if_neg (by decide)]
  exact fail_T ha
 | cons c r =>
  simp only [List.length_cons] at hk
  by_cases h : c = 34
  ·have h2 : isC 34 (c :: r) = true:=by simp [isC,h]
   rw [if_pos h2,p1 (by omega) ha,text,if_pos h]
   exact chars_R s hs (r.length + 1) r [] (p + 1) k (by omega) ha.next (by simp) (by omega)
  ·have h2 : ¬ isC 34 (c :: r) = true:=by simp [isC,h]
   rw [if_neg h2,text,if_neg h]
   exact fail_T ha
end Go.Proofs.YtadfkeipcebmfaaDoor.Pure
