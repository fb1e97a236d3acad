/-
  What the claim's law rests on, part 8 of 8: printed walks, externals, plain lemmas; conditions: none of its own.
-/
import Derived.ChangeSame
import Derived.Deep.Slices
import Derived.SliceStrings
import Derived.Test.YtadfkeipcebmfaaDoorCt7
namespace Go.Proofs.YtadfkeipcebmfaaDoor.Pure
open Go.Proofs.YtadfkeipcebmfaaDoor.X Go.RowKit Go.Proofs.YtadfkeipcebmfaaDoorW.PrintWords Go.Proofs.YtadfkeipcebmfaaDoorW.PrintMore
set_option linter.unusedVariables false
set_option linter.unusedSimpArgs false
theorem qstr_app (a b : Bs) : str a ++ str b = str (a ++ b):=by
 unfold str
 apply ByteArray.ext
 simp
theorem q_tdiv (a b : Nat) : Int.tdiv (a : Int) (b : Int) = ((a / b : Nat) : Int):=by rw [Int.tdiv_eq_ediv_of_nonneg (by omega)];rfl
theorem q_tmod (a b : Nat) : Int.tmod (a : Int) (b : Int) = ((a % b : Nat) : Int):=by rw [Int.tmod_eq_emod_of_nonneg (by omega)];rfl
theorem q_take1 {s : ByteArray} {p : Nat} {c : UInt8} {r : Bs} (ha : At s p (c :: r)) : s.extract p (p + 1) = str [c]:=by
 unfold str
 apply ByteArray.ext
 apply Array.ext'
 simp only [ByteArray.data_extract,Array.toList_extract,List.extract_eq_take_drop]
 rw [ha.drop]
 simp
theorem qhex : ∀ n : Nat,n < 16 → (⟨#[48,49,50,51,52,53,54,55,56,57,97,98,99,100,101,102]⟩ : ByteArray).extract n (n + 1) = str [hexd n]:=by decide +kernel
theorem qmark (s : ByteArray) (out : Bs) (i j k : Nat) (c m v : UInt8) (done : Bool) (hj : j < 8) (ho : out.length ≤ 100000000) (hm : bt (⟨#[34,92,47,8,12,10,13,9]⟩ : ByteArray) (j : Int) = (m.toNat : Int))
  (hv : (⟨#[34,92,47,98,102,110,114,116]⟩ : ByteArray).extract (j : Int).toNat (wrap64 ((j : Int) + 1) : Int).toNat = str [v]) :
  racewayref25_quote.l1 (k + 1) s (str out) (i : Int) (c.toNat : Int) done (j : Int) = if c = m then (if c = 47 then racewayref25_quote.l1 k s (str out) (i : Int) (c.toNat : Int) done ((j + 1 : Nat) : Int) else racewayref25_quote.l1 k s (str (out ++ [92,v])) (i : Int) (c.toNat : Int) true ((j + 1 : Nat) : Int)) else racewayref25_quote.l1 k s (str out) (i : Int) (c.toNat : Int) done ((j + 1 : Nat) : Int):=by
 have hwj : wrap64 ((j : Int) + 1) = ((j + 1 : Nat) : Int):=by rw [w64v (by omega) (by omega)];omega
 have ic (n : UInt8) : ((c.toNat : Int) = (n.toNat : Int)) ↔ c = n:=⟨fun h => UInt8.toNat_inj.mp (by omega),fun h => by rw [h]⟩
 have i47 : ((c.toNat : Int) = 47) ↔ c = 47:=ic 47
 rw [racewayref25_quote.l1,if_pos (by omega),if_pos (by omega),hm,hv,hwj]
 by_cases h : c = m
 ·rw [if_pos h,if_pos ((ic m).mpr h)]
  by_cases h7 : c = 47
  ·rw [if_pos h7,if_pos (i47.mpr h7)]
  ·have e : (str out ++ (⟨#[92]⟩ : ByteArray)) ++ str [v] = str (out ++ [92,v]):=by
    show (str out ++ str [92]) ++ str [v] = _
    rw [qstr_app,qstr_app,List.append_assoc]
    rfl
   rw [if_neg h7,if_neg (fun h => h7 (i47.mp h)),e,str_size,str_size,if_pos (by omega),if_pos (by omega),if_pos (by omega),if_pos (by simp only [List.length_cons,List.length_nil];omega)]
 ·rw [if_neg h,if_neg (fun hh => h ((ic m).mp hh))]
def qdone (s : ByteArray) (k : Nat) (out : Bs) (i : Nat) (c : UInt8) : Option ByteArray:=match X.mark c with
 | some m => racewayref25_quote.l1 k s (str (out ++ [92,m])) (i : Int) (c.toNat : Int) true 8
 | none => racewayref25_quote.l1 k s (str out) (i : Int) (c.toNat : Int) false 8
theorem qmarks (s : ByteArray) (out : Bs) (i k : Nat) (c : UInt8) (ho : out.length ≤ 90000000) : racewayref25_quote.l1 (k + 8) s (str out) (i : Int) (c.toNat : Int) false 0 = qdone s k out i c:=by
 show racewayref25_quote.l1 (k + 7 + 1) s (str out) (i : Int) (c.toNat : Int) false ((0 : Nat) : Int) = _
 by_cases c0 : c = 34
 ·have em : X.mark c = some 34:=by rw [c0];rfl
  rw [(qmark s out i 0 (k + 7) c 34 34 false (by decide) (by first|omega|(simp only [List.length_append,List.length_cons,List.length_nil];omega)) rfl (by decide +kernel)),if_pos c0,if_neg (by rw [c0];decide),(qmark s (out ++ [92,34]) i 1 (k + 6) c 92 92 true (by decide) (by first|omega|(simp only [List.length_append,List.length_cons,List.length_nil];omega)) rfl (by decide +kernel)),if_neg (by rw [c0];decide),(qmark s (out ++ [92,34]) i 2 (k + 5) c 47 47 true (by decide) (by first|omega|(simp only [List.length_append,List.length_cons,List.length_nil];omega)) rfl (by decide +kernel)),if_neg (by rw [c0];decide),(qmark s (out ++ [92,34]) i 3 (k + 4) c 8 98 true (by decide) (by first|omega|(simp only [List.length_append,List.length_cons,List.length_nil];omega)) rfl (by decide +kernel)),if_neg (by rw [c0];decide),(qmark s (out ++ [92,34]) i 4 (k + 3) c 12 102 true (by decide) (by first|omega|(simp only [List.length_append,List.length_cons,List.length_nil];omega)) rfl (by decide +kernel)),if_neg (by rw [c0];decide),(qmark s (out ++ [92,34]) i 5 (k + 2) c 10 110 true (by decide) (by first|omega|(simp only [List.length_append,List.length_cons,List.length_nil];omega)) rfl (by decide +kernel)),if_neg (by rw [c0];decide),(qmark s (out ++ [92,34]) i 6 (k + 1) c 13 114 true (by decide) (by first|omega|(simp only [List.length_append,List.length_cons,List.length_nil];omega)) rfl (by decide +kernel)),if_neg (by rw [c0];decide),(qmark s (out ++ [92,34]) i 7 (k + 0) c 9 116 true (by decide) (by first|omega|(simp only [List.length_append,List.length_cons,List.length_nil];omega)) rfl (by decide +kernel)),if_neg (by rw [c0];decide),qdone,em]
  rfl
 ·by_cases c1 : c = 92
  ·have em : X.mark c = some 92:=by rw [c1];rfl
   rw [(qmark s out i 0 (k + 7) c 34 34 false (by decide) (by first|omega|(simp only [List.length_append,List.length_cons,List.length_nil];omega)) rfl (by decide +kernel)),if_neg c0,(qmark s out i 1 (k + 6) c 92 92 false (by decide) (by first|omega|(simp only [List.length_append,List.length_cons,List.length_nil];omega)) rfl (by decide +kernel)),if_pos c1,if_neg (by rw [c1];decide),(qmark s (out ++ [92,92]) i 2 (k + 5) c 47 47 true (by decide) (by first|omega|(simp only [List.length_append,List.length_cons,List.length_nil];omega)) rfl (by decide +kernel)),if_neg (by rw [c1];decide),(qmark s (out ++ [92,92]) i 3 (k + 4) c 8 98 true (by decide) (by first|omega|(simp only [List.length_append,List.length_cons,List.length_nil];omega)) rfl (by decide +kernel)),if_neg (by rw [c1];decide),(qmark s (out ++ [92,92]) i 4 (k + 3) c 12 102 true (by decide) (by first|omega|(simp only [List.length_append,List.length_cons,List.length_nil];omega)) rfl (by decide +kernel)),if_neg (by rw [c1];decide),(qmark s (out ++ [92,92]) i 5 (k + 2) c 10 110 true (by decide) (by first|omega|(simp only [List.length_append,List.length_cons,List.length_nil];omega)) rfl (by decide +kernel)),if_neg (by rw [c1];decide),(qmark s (out ++ [92,92]) i 6 (k + 1) c 13 114 true (by decide) (by first|omega|(simp only [List.length_append,List.length_cons,List.length_nil];omega)) rfl (by decide +kernel)),if_neg (by rw [c1];decide),(qmark s (out ++ [92,92]) i 7 (k + 0) c 9 116 true (by decide) (by first|omega|(simp only [List.length_append,List.length_cons,List.length_nil];omega)) rfl (by decide +kernel)),if_neg (by rw [c1];decide),qdone,em]
   rfl
  ·by_cases c2 : c = 47
   ·have em : X.mark c = none:=by rw [c2];rfl
    rw [(qmark s out i 0 (k + 7) c 34 34 false (by decide) (by first|omega|(simp only [List.length_append,List.length_cons,List.length_nil];omega)) rfl (by decide +kernel)),if_neg c0,(qmark s out i 1 (k + 6) c 92 92 false (by decide) (by first|omega|(simp only [List.length_append,List.length_cons,List.length_nil];omega)) rfl (by decide +kernel)),if_neg c1,(qmark s out i 2 (k + 5) c 47 47 false (by decide) (by first|omega|(simp only [List.length_append,List.length_cons,List.length_nil];omega)) rfl (by decide +kernel)),if_pos c2,if_pos c2,(qmark s out i 3 (k + 4) c 8 98 false (by decide) (by first|omega|(simp only [List.length_append,List.length_cons,List.length_nil];omega)) rfl (by decide +kernel)),if_neg (by rw [c2];decide),(qmark s out i 4 (k + 3) c 12 102 false (by decide) (by first|omega|(simp only [List.length_append,List.length_cons,List.length_nil];omega)) rfl (by decide +kernel)),if_neg (by rw [c2];decide),(qmark s out i 5 (k + 2) c 10 110 false (by decide) (by first|omega|(simp only [List.length_append,List.length_cons,List.length_nil];omega)) rfl (by decide +kernel)),if_neg (by rw [c2];decide),(qmark s out i 6 (k + 1) c 13 114 false (by decide) (by first|omega|(simp only [List.length_append,List.length_cons,List.length_nil];omega)) rfl (by decide +kernel)),if_neg (by rw [c2];decide),(qmark s out i 7 (k + 0) c 9 116 false (by decide) (by first|omega|(simp only [List.length_append,List.length_cons,List.length_nil];omega)) rfl (by decide +kernel)),if_neg (by rw [c2];decide),qdone,em]
    rfl
   ·by_cases c3 : c = 8
    ·have em : X.mark c = some 98:=by rw [c3];rfl
     rw [(qmark s out i 0 (k + 7) c 34 34 false (by decide) (by first|omega|(simp only [List.length_append,List.length_cons,List.length_nil];omega)) rfl (by decide +kernel)),if_neg c0,(qmark s out i 1 (k + 6) c 92 92 false (by decide) (by first|omega|(simp only [List.length_append,List.length_cons,List.length_nil];omega)) rfl (by decide +kernel)),if_neg c1,(qmark s out i 2 (k + 5) c 47 47 false (by decide) (by first|omega|(simp only [List.length_append,List.length_cons,List.length_nil];omega)) rfl (by decide +kernel)),if_neg c2,(qmark s out i 3 (k + 4) c 8 98 false (by decide) (by first|omega|(simp only [List.length_append,List.length_cons,List.length_nil];omega)) rfl (by decide +kernel)),if_pos c3,if_neg (by rw [c3];decide),(qmark s (out ++ [92,98]) i 4 (k + 3) c 12 102 true (by decide) (by first|omega|(simp only [List.length_append,List.length_cons,List.length_nil];omega)) rfl (by decide +kernel)),if_neg (by rw [c3];decide),(qmark s (out ++ [92,98]) i 5 (k + 2) c 10 110 true (by decide) (by first|omega|(simp only [List.length_append,List.length_cons,List.length_nil];omega)) rfl (by decide +kernel)),if_neg (by rw [c3];decide),(qmark s (out ++ [92,98]) i 6 (k + 1) c 13 114 true (by decide) (by first|omega|(simp only [List.length_append,List.length_cons,List.length_nil];omega)) rfl (by decide +kernel)),if_neg (by rw [c3];decide),(qmark s (out ++ [92,98]) i 7 (k + 0) c 9 116 true (by decide) (by first|omega|(simp only [List.length_append,List.length_cons,List.length_nil];omega)) rfl (by decide +kernel)),if_neg (by rw [c3];decide),qdone,em]
     rfl
    ·by_cases c4 : c = 12
     ·have em : X.mark c = some 102:=by rw [c4];rfl
      rw [(qmark s out i 0 (k + 7) c 34 34 false (by decide) (by first|omega|(simp only [List.length_append,List.length_cons,List.length_nil];omega)) rfl (by decide +kernel)),if_neg c0,(qmark s out i 1 (k + 6) c 92 92 false (by decide) (by first|omega|(simp only [List.length_append,List.length_cons,List.length_nil];omega)) rfl (by decide +kernel)),if_neg c1,(qmark s out i 2 (k + 5) c 47 47 false (by decide) (by first|omega|(simp only [List.length_append,List.length_cons,List.length_nil];omega)) rfl (by decide +kernel)),if_neg c2,(qmark s out i 3 (k + 4) c 8 98 false (by decide) (by first|omega|(simp only [List.length_append,List.length_cons,List.length_nil];omega)) rfl (by decide +kernel)),if_neg c3,(qmark s out i 4 (k + 3) c 12 102 false (by decide) (by first|omega|(simp only [List.length_append,List.length_cons,List.length_nil];omega)) rfl (by decide +kernel)),if_pos c4,if_neg (by rw [c4];decide),(qmark s (out ++ [92,102]) i 5 (k + 2) c 10 110 true (by decide) (by first|omega|(simp only [List.length_append,List.length_cons,List.length_nil];omega)) rfl (by decide +kernel)),if_neg (by rw [c4];decide),(qmark s (out ++ [92,102]) i 6 (k + 1) c 13 114 true (by decide) (by first|omega|(simp only [List.length_append,List.length_cons,List.length_nil];omega)) rfl (by decide +kernel)),if_neg (by rw [c4];decide),(qmark s (out ++ [92,102]) i 7 (k + 0) c 9 116 true (by decide) (by first|omega|(simp only [List.length_append,List.length_cons,List.length_nil];omega)) rfl (by decide +kernel)),if_neg (by rw [c4];decide),qdone,em]
      rfl
     ·by_cases c5 : c = 10
      ·have em : X.mark c = some 110:=by rw [c5];rfl
       rw [(qmark s out i 0 (k + 7) c 34 34 false (by decide) (by first|omega|(simp only [List.length_append,List.length_cons,List.length_nil];omega)) rfl (by decide +kernel)),if_neg c0,(qmark s out i 1 (k + 6) c 92 92 false (by decide) (by first|omega|(simp only [List.length_append,List.length_cons,List.length_nil];omega)) rfl (by decide +kernel)),if_neg c1,(qmark s out i 2 (k + 5) c 47 47 false (by decide) (by first|omega|(simp only [List.length_append,List.length_cons,List.length_nil];omega)) rfl (by decide +kernel)),if_neg c2,(qmark s out i 3 (k + 4) c 8 98 false (by decide) (by first|omega|(simp only [List.length_append,List.length_cons,List.length_nil];omega)) rfl (by decide +kernel)),if_neg c3,(qmark s out i 4 (k + 3) c 12 102 false (by decide) (by first|omega|(simp only [List.length_append,List.length_cons,List.length_nil];omega)) rfl (by decide +kernel)),if_neg c4,(qmark s out i 5 (k + 2) c 10 110 false (by decide) (by first|omega|(simp only [List.length_append,List.length_cons,List.length_nil];omega)) rfl (by decide +kernel)),if_pos c5,if_neg (by rw [c5];decide),(qmark s (out ++ [92,110]) i 6 (k + 1) c 13 114 true (by decide) (by first|omega|(simp only [List.length_append,List.length_cons,List.length_nil];omega)) rfl (by decide +kernel)),if_neg (by rw [c5];decide),(qmark s (out ++ [92,110]) i 7 (k + 0) c 9 116 true (by decide) (by first|omega|(simp only [List.length_append,List.length_cons,List.length_nil];omega)) rfl (by decide +kernel)),if_neg (by rw [c5];decide),qdone,em]
       rfl
      ·by_cases c6 : c = 13
       ·have em : X.mark c = some 114:=by rw [c6];rfl
        rw [(qmark s out i 0 (k + 7) c 34 34 false (by decide) (by first|omega|(simp only [List.length_append,List.length_cons,List.length_nil];omega)) rfl (by decide +kernel)),if_neg c0,(qmark s out i 1 (k + 6) c 92 92 false (by decide) (by first|omega|(simp only [List.length_append,List.length_cons,List.length_nil];omega)) rfl (by decide +kernel)),if_neg c1,(qmark s out i 2 (k + 5) c 47 47 false (by decide) (by first|omega|(simp only [List.length_append,List.length_cons,List.length_nil];omega)) rfl (by decide +kernel)),if_neg c2,(qmark s out i 3 (k + 4) c 8 98 false (by decide) (by first|omega|(simp only [List.length_append,List.length_cons,List.length_nil];omega)) rfl (by decide +kernel)),if_neg c3,(qmark s out i 4 (k + 3) c 12 102 false (by decide) (by first|omega|(simp only [List.length_append,List.length_cons,List.length_nil];omega)) rfl (by decide +kernel)),if_neg c4,(qmark s out i 5 (k + 2) c 10 110 false (by decide) (by first|omega|(simp only [List.length_append,List.length_cons,List.length_nil];omega)) rfl (by decide +kernel)),if_neg c5,(qmark s out i 6 (k + 1) c 13 114 false (by decide) (by first|omega|(simp only [List.length_append,List.length_cons,List.length_nil];omega)) rfl (by decide +kernel)),if_pos c6,if_neg (by rw [c6];decide),(qmark s (out ++ [92,114]) i 7 (k + 0) c 9 116 true (by decide) (by first|omega|(simp only [List.length_append,List.length_cons,List.length_nil];omega)) rfl (by decide +kernel)),if_neg (by rw [c6];decide),qdone,em]
        rfl
       ·by_cases c7 : c = 9
        ·have em : X.mark c = some 116:=by rw [c7];rfl
         rw [(qmark s out i 0 (k + 7) c 34 34 false (by decide) (by first|omega|(simp only [List.length_append,List.length_cons,List.length_nil];omega)) rfl (by decide +kernel)),if_neg c0,(qmark s out i 1 (k + 6) c 92 92 false (by decide) (by first|omega|(simp only [List.length_append,List.length_cons,List.length_nil];omega)) rfl (by decide +kernel)),if_neg c1,(qmark s out i 2 (k + 5) c 47 47 false (by decide) (by first|omega|(simp only [List.length_append,List.length_cons,List.length_nil];omega)) rfl (by decide +kernel)),if_neg c2,(qmark s out i 3 (k + 4) c 8 98 false (by decide) (by first|omega|(simp only [List.length_append,List.length_cons,List.length_nil];omega)) rfl (by decide +kernel)),if_neg c3,(qmark s out i 4 (k + 3) c 12 102 false (by decide) (by first|omega|(simp only [List.length_append,List.length_cons,List.length_nil];omega)) rfl (by decide +kernel)),if_neg c4,(qmark s out i 5 (k + 2) c 10 110 false (by decide) (by first|omega|(simp only [List.length_append,List.length_cons,List.length_nil];omega)) rfl (by decide +kernel)),if_neg c5,(qmark s out i 6 (k + 1) c 13 114 false (by decide) (by first|omega|(simp only [List.length_append,List.length_cons,List.length_nil];omega)) rfl (by decide +kernel)),if_neg c6,(qmark s out i 7 (k + 0) c 9 116 false (by decide) (by first|omega|(simp only [List.length_append,List.length_cons,List.length_nil];omega)) rfl (by decide +kernel)),if_pos c7,if_neg (by rw [c7];decide),qdone,em]
         rfl
        ·have em : X.mark c = none:=by unfold X.mark;rw [if_neg c0,if_neg c1,if_neg c3,if_neg c4,if_neg c5,if_neg c6,if_neg c7]
         rw [(qmark s out i 0 (k + 7) c 34 34 false (by decide) (by first|omega|(simp only [List.length_append,List.length_cons,List.length_nil];omega)) rfl (by decide +kernel)),if_neg c0,(qmark s out i 1 (k + 6) c 92 92 false (by decide) (by first|omega|(simp only [List.length_append,List.length_cons,List.length_nil];omega)) rfl (by decide +kernel)),if_neg c1,(qmark s out i 2 (k + 5) c 47 47 false (by decide) (by first|omega|(simp only [List.length_append,List.length_cons,List.length_nil];omega)) rfl (by decide +kernel)),if_neg c2,(qmark s out i 3 (k + 4) c 8 98 false (by decide) (by first|omega|(simp only [List.length_append,List.length_cons,List.length_nil];omega)) rfl (by decide +kernel)),if_neg c3,(qmark s out i 4 (k + 3) c 12 102 false (by decide) (by first|omega|(simp only [List.length_append,List.length_cons,List.length_nil];omega)) rfl (by decide +kernel)),if_neg c4,(qmark s out i 5 (k + 2) c 10 110 false (by decide) (by first|omega|(simp only [List.length_append,List.length_cons,List.length_nil];omega)) rfl (by decide +kernel)),if_neg c5,(qmark s out i 6 (k + 1) c 13 114 false (by decide) (by first|omega|(simp only [List.length_append,List.length_cons,List.length_nil];omega)) rfl (by decide +kernel)),if_neg c6,(qmark s out i 7 (k + 0) c 9 116 false (by decide) (by first|omega|(simp only [List.length_append,List.length_cons,List.length_nil];omega)) rfl (by decide +kernel)),if_neg c7,qdone,em]
         rfl
theorem quote_l0 (s : ByteArray) (hs : s.size ≤ 1000000) : ∀ (l : Bs) (p k : Nat) (out : Bs),At s p l → 12 * l.length + 20 ≤ k → out.length + 6 * l.length ≤ 80000000 → racewayref25_quote.l0 k s (str out) (p : Int) = some (str (out ++ (l.flatMap esc1 ++ [34])))
 | [],p,k,out,ha,hk,ho => by
  obtain ⟨k,rfl⟩ : ∃ k',k = k' + 1:=⟨k - 1,by omega⟩
  rw [racewayref25_quote.l0,if_neg ha.ge,str_size,if_pos (by omega)]
  show some (str out ++ str [34]) = _
  rw [qstr_app]
  rfl
 | c :: r,p,k,out,ha,hk,ho => by
  obtain ⟨k,rfl⟩ : ∃ k',k = k' + 10:=⟨k - 10,by simp only [List.length_cons] at hk;omega⟩
  simp only [List.length_cons] at hk ho
  have hlt:=ha.lt
  have q:=UInt8.toNat_lt c
  have hw : wrap64 ((p : Int) + 1) = ((p + 1 : Nat) : Int):=p1 (by omega) ha
  rw [racewayref25_quote.l0,if_pos ha.lti,if_pos (by omega),ha.bt,qmarks s out p (k + 1) c (by omega),qdone]
  have hsp : (c :: r).flatMap esc1 = esc1 c ++ r.flatMap esc1:=by simp
  rw [hsp]
  cases hm : X.mark c with
  | some m =>
   simp only
   have he : esc1 c = [92,m]:=by unfold esc1;rw [hm]
   rw [racewayref25_quote.l1,if_neg (by decide),if_pos rfl,hw,quote_l0 s hs r (p + 1) k (out ++ [92,m]) ha.next (by omega) (by simp only [List.length_append,List.length_cons,List.length_nil];omega),he]
   simp
  | none =>
   simp only
   rw [racewayref25_quote.l1,if_neg (by decide),if_neg (by decide),hw]
   by_cases h32 : c.toNat < 32
   ·have he : esc1 c = [92,117,48,48,hexd (c.toNat / 16),hexd (c.toNat % 16)]:=by unfold esc1;rw [hm];simp only;rw [if_pos h32]
    have e1 : Int.tdiv (c.toNat : Int) 16 = ((c.toNat / 16 : Nat) : Int):=q_tdiv _ 16
    have e2 : Int.tmod (c.toNat : Int) 16 = ((c.toNat % 16 : Nat) : Int):=q_tmod _ 16
    have e3 : ((c.toNat / 16 : Nat) : Int) % 256 = ((c.toNat / 16 : Nat) : Int):=by omega
    have e4 : (((c.toNat / 16 : Nat) : Int) + 1) % 256 = ((c.toNat / 16 + 1 : Nat) : Int):=by omega
    have e5 : (((c.toNat % 16 : Nat) : Int) + 1) % 256 = ((c.toNat % 16 + 1 : Nat) : Int):=by omega
    rw [if_pos (by omega),e1,e2,e3,e4,e5,Int.toNat_natCast,Int.toNat_natCast,Int.toNat_natCast,Int.toNat_natCast,qhex _ (by omega),qhex _ (by omega)]
    have e6 : ((str out ++ (⟨#[92,117,48,48]⟩ : ByteArray)) ++ str [hexd (c.toNat / 16)]) ++ str [hexd (c.toNat % 16)] = str (out ++ [92,117,48,48,hexd (c.toNat / 16),hexd (c.toNat % 16)]):=by
     show ((str out ++ str [92,117,48,48]) ++ str [hexd (c.toNat / 16)]) ++ str [hexd (c.toNat % 16)] = _
     rw [qstr_app,qstr_app,qstr_app]
     simp
    rw [e6,str_size,str_size,str_size,if_pos (by omega),if_pos (by omega),if_pos (by omega),if_pos (by omega),if_pos (by simp only [List.length_cons,List.length_nil];omega),if_pos (by omega),if_pos (by omega),if_pos (by omega),if_pos (by simp only [List.length_cons,List.length_nil];omega),
     quote_l0 s hs r (p + 1) k (out ++ [92,117,48,48,hexd (c.toNat / 16),hexd (c.toNat % 16)]) ha.next (by omega) (by simp only [List.length_append,List.length_cons,List.length_nil];omega),he]
    simp
   ·have he : esc1 c = [c]:=by unfold esc1;rw [hm];simp only;rw [if_neg h32]
    rw [if_neg (by omega),Int.toNat_natCast,Int.toNat_natCast,q_take1 ha,qstr_app,str_size,str_size,if_pos (by omega),if_pos (by omega),if_pos (by omega),if_pos (by simp only [List.length_cons,List.length_nil];omega),quote_l0 s hs r (p + 1) k (out ++ [c]) ha.next (by omega) (by simp only [List.length_append,List.length_cons,List.length_nil];omega),he]
    simp
theorem quote_R (s : ByteArray) (hs : s.size ≤ 1000000) (k : Nat) (hk : 12 * s.size + 20 ≤ k) : racewayref25_quote.f k s = some (str (quote s.data.toList)):=by
 rw [racewayref25_quote.f]
 exact quote_l0 s hs _ 0 k [34] (At.start s) (by simpa using hk) (by simp;omega)
end Go.Proofs.YtadfkeipcebmfaaDoor.Pure
namespace Go.Proofs.YtadfkeipcebmfaaDoor.Pure
open Go.Proofs.YtadfkeipcebmfaaDoor.X Go.RowKit Go.Proofs.YtadfkeipcebmfaaDoorW.PrintWords Go.Proofs.YtadfkeipcebmfaaDoorW.PrintMore
set_option linter.unusedVariables false
set_option linter.unusedSimpArgs false
theorem valid_step (c : UInt8) (r : Bs) : Lib.validD (c :: r) = if sgn (c :: r) = 0 then false else Lib.validD ((c :: r).drop (sgn (c :: r))):=by
 by_cases hc : c.toNat < 128
 ·have e : sgn (c :: r) = 1:=by simp only [sgn];rw [if_pos hc]
  rw [Lib.validD_cons c r hc,e,if_neg (by decide)]
  rfl
 ·have hN : (Lib.decodeL (c :: r)).2 = 1 → (Lib.decodeL (c :: r)).1 = 65533:=by
   rw [Lib.decodeL_N]
   exact decN_one _ _ _ _ _ (by simpa using hc)
  rw [Lib.validD_step _ (by simp)]
  by_cases h1 : (Lib.decodeL (c :: r)).2 = 1
  ·have e : sgn (c :: r) = 0:=by simp only [sgn];rw [if_neg hc,if_pos h1]
   rw [if_pos ⟨hN h1,h1⟩,if_pos e]
  ·have e : sgn (c :: r) = (Lib.decodeL (c :: r)).2:=by simp only [sgn];rw [if_neg hc,if_neg h1]
   have hw:=Lib.decodeL_width (c :: r)
   rw [if_neg (fun h => h1 h.2),e,if_neg (by omega)]
theorem valid_l0 (s : ByteArray) (hs : s.size ≤ 1000000) : ∀ (n : Nat) (l : Bs) (p k : Nat),l.length ≤ n → At s p l → n + 30 ≤ k → racewayref25_Valid.l0 k s (p : Int) = some (Lib.validD l)
 | n,[],p,0,hn,ha,hk => by omega
 | n,[],p,k + 1,hn,ha,hk => by
  rw [racewayref25_Valid.l0,if_neg ha.ge]
  rfl
 | n,c :: r,p,0,hn,ha,hk => by omega
 | 0,c :: r,p,k + 1,hn,ha,hk => by simp at hn
 | n + 1,c :: r,p,k + 1,hn,ha,hk => by
  rw [racewayref25_Valid.l0,if_pos ha.lti,sign_is s p (c :: r) ha (by simp) (by omega) k (by omega),Option.bind_some,valid_step]
  by_cases h : sgn (c :: r) = 0
  ·rw [if_pos h,if_pos (by omega)]
  ·have hsl:=sgn_le (c :: r)
   have had:=ha.add _ hsl
   have hdl:=had.le
   rw [if_neg h,if_neg (by omega),w64v (by omega) (by omega),show ((p : Int) + ((sgn (c :: r) : Nat) : Int)) = ((p + sgn (c :: r) : Nat) : Int) by omega]
   exact valid_l0 s hs n _ _ k (by rw [List.length_drop];simp only [List.length_cons] at hn ⊢;omega) had (by omega)
theorem valid_is (s : ByteArray) (hs : s.size ≤ 1000000) (k : Nat) (hk : s.size + 30 ≤ k) : racewayref25_Valid.f k s = some (Lib.validD s.data.toList):=by
 rw [racewayref25_Valid.f]
 exact valid_l0 s hs s.size _ 0 k (by simp) (At.start s) hk
theorem number_is0 (s : ByteArray) (hs : s.size ≤ 1000000) (k : Nat) (hk : 3 * s.size + 20 ≤ k) : ∃ (a e : Int) (T : List S46) (S : ByteArray),racewayref25_number.f k s 0 = some (a,e,T,S) ∧ (isNum s.data.toList = true ↔ e = 0 ∧ a = (s.size : Int)):=by
 have hl : s.data.toList.length = s.size:=by simp
 have h : racewayref25_number.f k s 0 = nres s 0 (num s.data.toList):=number_R (At.start s) (by omega) k (by omega)
 rw [h]
 cases hn : num s.data.toList with
 | bad r e =>
  have h5:=num_five _ _ _ hn
  refine ⟨_,_,_,_,rfl,?_⟩
  rw [isNum,hn]
  simp only
  constructor
  ·intro h;cases h
  ·intro h;omega
 | ok r u =>
  have hlt:=num_len _ _ _ hn
  refine ⟨_,_,_,_,rfl,?_⟩
  rw [isNum,hn]
  cases r with
  | nil =>
   simp only [List.length_nil,Nat.sub_zero,true_iff]
   exact ⟨trivial,trivial⟩
  | cons c r =>
   simp only [List.length_cons] at hlt ⊢
   constructor
   ·intro h;cases h
   ·intro h;omega
def okHead (x : S46) (keyed : Bool) : Bool:=decide (1 ≤ x.f0) && decide (x.f0 ≤ 7) && decide (0 ≤ x.f2) && (decide (x.f2 ≤ 0) || decide (6 ≤ x.f0)) && (x.f3.data.toList.isEmpty || keyed) && Lib.validD x.f3.data.toList
def okTail (x : S46) : Bool:=if x.f0 = 4 then decide (x.f4.size ≤ 65536) && isNum x.f4.data.toList else if x.f0 = 5 then Lib.validD x.f4.data.toList else x.f4.data.toList.isEmpty
theorem ok_two (x : S46) (keyed : Bool) : okN x keyed = (okHead x keyed && okTail x):=rfl
theorem may_head (l : List S46) (p en k : Nat) (keyed : Bool) (deep : Int) (x : S46) (hx : rd_T46 l (p : Int) = x) (hp : p < en) (hl : p < l.length) (h3 : x.f3.size ≤ 1000000) (hk : x.f3.size + 30 ≤ k) :
  racewayref25_may.f (k + 1) l (p : Int) (en : Int) keyed deep = racewayref25_may.j0 k l (p : Int) (en : Int) deep (!(okHead x keyed && decide (deep < 32))) x.f0 x.f1 x.f2 x.f3 x.f4:=by
 rw [racewayref25_may.f,if_pos (by omega),if_pos (by omega),if_neg (by omega),hx,valid_is x.f3 h3 k hk,tl]
 simp only [Option.bind_some]
 unfold okHead
 generalize Lib.validD x.f3.data.toList = V
 by_cases a1 : x.f0 < 1
 ·rw [if_pos a1,decide_eq_false (by omega)];rfl
 ·rw [if_neg a1,decide_eq_true (show 1 ≤ x.f0 by omega)]
  by_cases a2 : x.f0 > 7
  ·rw [if_pos a2,decide_eq_false (show ¬ x.f0 ≤ 7 by omega)];rfl
  ·rw [if_neg a2,decide_eq_true (show x.f0 ≤ 7 by omega)]
   by_cases a4 : x.f2 < 0
   ·rw [if_pos a4,decide_eq_false (show ¬ 0 ≤ x.f2 by omega)];rfl
   ·rw [if_neg a4,decide_eq_true (show 0 ≤ x.f2 by omega)]
    by_cases a5 : deep ≥ 32
    ·rw [if_pos a5,decide_eq_false (show ¬ deep < 32 by omega),Bool.and_false];rfl
    ·rw [if_neg a5,decide_eq_true (show deep < 32 by omega),Bool.and_true]
     by_cases a6 : x.f2 > 0
     ·rw [if_pos a6,decide_eq_false (show ¬ x.f2 ≤ 0 by omega)]
      by_cases a7 : x.f0 < 6
      ·rw [if_pos a7,decide_eq_false (show ¬ 6 ≤ x.f0 by omega)];rfl
      ·rw [if_neg a7,decide_eq_true (show 6 ≤ x.f0 by omega)]
       cases hk2 : x.f3.data.toList with
       | nil => rw [if_pos rfl];simp
       | cons c r =>
        rw [if_neg (by simp)]
        cases keyed with
        | true => rw [if_pos rfl];simp
        | false => rw [if_neg (by decide)];simp
     ·rw [if_neg a6,decide_eq_true (show x.f2 ≤ 0 by omega)]
      cases hk2 : x.f3.data.toList with
      | nil => rw [if_pos rfl];simp
      | cons c r =>
       rw [if_neg (by simp)]
       cases keyed with
       | true => rw [if_pos rfl];simp
       | false => rw [if_neg (by decide)];simp
theorem may_tail (l : List S46) (p en k : Nat) (deep : Int) (x : S46) (h4 : x.f4.size ≤ 1000000) (hk : 3 * x.f4.size + 30 ≤ k) :
  racewayref25_may.j0 (k + 3) l (p : Int) (en : Int) deep false x.f0 x.f1 x.f2 x.f3 x.f4 = if okTail x then racewayref25_may.l0 k l (p : Int) (en : Int) deep (wrap64 ((p : Int) + 1)) 0 x.f0 x.f1 x.f2 x.f3 x.f4 else some (-1):=by
 obtain ⟨f0,f1,f2,f3,f4⟩:=x
 simp only at h4 hk ⊢
 unfold okTail
 simp only
 have j2f : racewayref25_may.j2 (k + 1) l (p : Int) (en : Int) deep false f0 f1 f2 f3 f4 = racewayref25_may.l0 k l (p : Int) (en : Int) deep (wrap64 ((p : Int) + 1)) 0 f0 f1 f2 f3 f4:=by rw [racewayref25_may.j2,if_neg (by decide)]
 have j2t : racewayref25_may.j2 (k + 1) l (p : Int) (en : Int) deep true f0 f1 f2 f3 f4 = some (-1):=by rw [racewayref25_may.j2,if_pos rfl]
 rw [racewayref25_may.j0,if_neg (by decide)]
 by_cases c4 : f0 = 4
 ·rw [if_pos c4,if_pos c4]
  by_cases c5 : (f4.size : Int) > 65536
  ·rw [if_pos c5,decide_eq_false (show ¬ f4.size ≤ 65536 by omega)]
   rfl
  ·rw [if_neg c5,decide_eq_true (show f4.size ≤ 65536 by omega),Bool.true_and]
   obtain ⟨a,e,T,S,hn,hiff⟩:=number_is0 f4 h4 (k + 2) (by omega)
   rw [hn,Option.bind_some]
   simp only
   by_cases hN : isNum f4.data.toList = true
   ·obtain ⟨e0,ea⟩:=hiff.mp hN
    rw [if_pos e0,if_pos ea,if_pos hN,racewayref25_may.j1,if_neg (by omega),if_pos c4,j2f]
   ·rw [if_neg hN]
    by_cases e0 : e = 0
    ·rw [if_pos e0,if_neg (fun ea => hN (hiff.mpr ⟨e0,ea⟩))]
    ·rw [if_neg e0]
 ·rw [if_neg c4,if_neg c4,racewayref25_may.j1,valid_is f4 h4 (k + 1) (by omega),Option.bind_some,tl]
  by_cases c5 : f0 = 5
  ·rw [if_pos c5,if_pos c5]
   cases Lib.validD f4.data.toList with
   | true => rw [if_pos rfl,if_neg c4,j2f];rfl
   | false => rw [if_neg (by decide),j2t];rfl
  ·rw [if_neg c5,if_neg c5,if_neg c4]
   cases f4.data.toList with
   | nil => exact j2f
   | cons c r => exact j2t
def mayA (o : Option (F × List S46)) (p en : Nat) : Int:=match o with
 | some (t,_) => if p + t.flat.length ≤ en then ((p + t.flat.length : Nat) : Int) else -1
 | none => -1
def MayOk (l : List S46) (d : Nat) : Prop:=∀ (deep : Nat) (keyed : Bool) (p en k : Nat),d + deep = 32 → p < en → en ≤ l.length → 10 * (l.length - p) + 4000000 ≤ k → racewayref25_may.f k l (p : Int) (en : Int) keyed (deep : Int) = some (mayA (dec d keyed (l.drop p)) p en)
def mayB (o : Option (F × List S46)) (at_ : Nat) (f1 : Int) (p en : Nat) : Int:=match o with
 | some (t,_) => if p + t.flat.length ≤ en then (if f1 = ((p + t.flat.length - at_ : Nat) : Int) then ((p + t.flat.length : Nat) : Int) else -1) else -1
 | none => -1
theorem may_loop (l : List S46) (hl : l.length ≤ 1000000) (d : Nat) (hd : MayOk l d) (deep : Nat) (hdd : d + 1 + deep = 32) (f0 f1 f2 : Int) (f3 f4 : ByteArray) (at_ en : Nat) (hen : en ≤ l.length) (hN : f2 ≤ 9223372036854775807) :
  ∀ (n p : Nat) (i : Int) (k : Nat),0 ≤ i → i + n = f2 → at_ ≤ p → p ≤ en → 10 * (l.length - p) + 4000005 ≤ k →
   racewayref25_may.l0 k l (at_ : Int) (en : Int) (deep : Int) (p : Int) i f0 f1 f2 f3 f4 = some (mayB (kids (dec d (f0 == 7)) n (l.drop p)) at_ f1 p en)
 | 0,p,i,k,h0,hi,hap,hp,hk => by
  obtain ⟨k,rfl⟩ : ∃ k',k = k' + 1:=⟨k - 1,by omega⟩
  rw [racewayref25_may.l0,if_neg (by omega),w64v (by omega) (by omega)]
  have e : mayB (kids (dec d (f0 == 7)) 0 (l.drop p)) at_ f1 p en = if p ≤ en then (if f1 = ((p - at_ : Nat) : Int) then (p : Int) else -1) else -1:=rfl
  rw [e,if_pos hp,show (p : Int) - (at_ : Int) = ((p - at_ : Nat) : Int) by omega]
  split <;> rfl
 | n + 1,p,i,k,h0,hi,hap,hp,hk => by
  obtain ⟨k,rfl⟩ : ∃ k',k = k' + 1:=⟨k - 1,by omega⟩
  rw [racewayref25_may.l0,if_pos (by omega)]
  by_cases hpe : (p : Int) ≥ (en : Int)
  ·rw [if_pos hpe]
   congr 1
   simp only [kids,mayB]
   cases h1 : dec d (f0 == 7) (l.drop p) with
   | none => rfl
   | some x =>
    obtain ⟨t,r⟩:=x
    obtain ⟨a1,a2,a3⟩:=dec_ok _ _ _ _ _ h1
    have:=one_pos a2
    simp only
    cases h2 : kids (dec d (f0 == 7)) n r with
    | none => rfl
    | some y =>
     simp only [F.flat_app,List.length_append]
     rw [if_neg (by omega)]
  ·rw [if_neg hpe,w64v (x:=(deep : Int) + 1) (by omega) (by omega)]
   have hc:=hd (deep + 1) (f0 == 7) p en k (by omega) (by omega) hen (by omega)
   rw [show ((deep : Int) + 1) = ((deep + 1 : Nat) : Int) by omega,hc]
   simp only [Option.bind_some,kids,mayA]
   cases h1 : dec d (f0 == 7) (l.drop p) with
   | none => rfl
   | some x =>
    obtain ⟨t,r⟩:=x
    obtain ⟨a1,a2,a3⟩:=dec_ok _ _ _ _ _ h1
    have hpos:=one_pos a2
    simp only
    by_cases hle : p + t.flat.length ≤ en
    ·rw [if_pos hle,if_neg (by omega),w64v (x:=i + 1) (by omega) (by omega)]
     have hr : r = l.drop (p + t.flat.length):=by
      rw [← List.drop_drop,a1]
      simp
     have:=may_loop l hl d hd deep hdd f0 f1 f2 f3 f4 at_ en hen hN n (p + t.flat.length) (i + 1) k (by omega) (by omega) (by omega) hle (by omega)
     rw [this,← hr]
     simp only [mayB]
     cases h2 : kids (dec d (f0 == 7)) n r with
     | none => rfl
     | some y =>
      simp only [F.flat_app,List.length_append,Nat.add_assoc]
    ·rw [if_neg hle,if_pos (by decide)]
     congr 1
     simp only [mayB]
     cases h2 : kids (dec d (f0 == 7)) n r with
     | none => rfl
     | some y =>
      simp only [F.flat_app,List.length_append]
      rw [if_neg (by omega)]
theorem may_law (l : List S46) (hl : fit l = true) (hlen : l.length ≤ 1000000) : ∀ d,MayOk l d
 | d,deep,keyed,p,en,k,hdd,hp,hen,hk => by
  obtain ⟨k,rfl⟩ : ∃ k',k = k' + 4:=⟨k - 4,by omega⟩
  obtain ⟨x,r,hx⟩ : ∃ x r,l.drop p = x :: r:=⟨_,_,List.drop_eq_getElem_cons (show p < l.length by omega)⟩
  obtain ⟨e1,e2,e3,e4⟩:=rd_cast l p x r hx
  obtain ⟨s3,s4,hn2,hs0,hs1⟩:=fit_at hl e4
  rw [may_head l p en (k + 3) keyed deep x e1 hp e2 s3 (by omega)]
  match d,hdd with
  | 0,hdd =>
   rw [decide_eq_false (show ¬ (deep : Int) < 32 by omega),Bool.and_false,racewayref25_may.j0,if_pos (by decide)]
   rfl
  | d + 1,hdd =>
   have hdec : dec (d + 1) keyed (x :: r) = if okN x keyed then match kids (dec d (x.f0 == 7)) x.f2.toNat r with
    | none => none
    | some (ks,r') => if x.f1 = ((r.length - r'.length + 1 : Nat) : Int) then some (if x.f0 < 6 then .leaf x.f3.data.toList x.f0 x.f4.data.toList .nil else .node x.f3.data.toList x.f0 ks .nil,r') else none
    else none:=rfl
   rw [hx,decide_eq_true (show (deep : Int) < 32 by omega),Bool.and_true,hdec,ok_two]
   by_cases hh : okHead x keyed = true
   ·rw [hh,Bool.true_and]
    show racewayref25_may.j0 (k + 3) l (p : Int) (en : Int) (deep : Int) false x.f0 x.f1 x.f2 x.f3 x.f4 = _
    rw [may_tail l p en k deep x s4 (by omega)]
    by_cases ht : okTail x = true
    ·rw [if_pos ht,if_pos ht,w64v (by omega) (by omega),show ((p : Int) + 1) = ((p + 1 : Nat) : Int) by omega]
     have h0 : 0 ≤ x.f2:=by
      simp only [okHead,Bool.and_eq_true,decide_eq_true_eq] at hh
      omega
     rw [may_loop l hlen d (may_law l hl hlen d) deep hdd x.f0 x.f1 x.f2 x.f3 x.f4 p en hen hn2 x.f2.toNat (p + 1) 0 k (by omega) (by omega) (by omega) (by omega) (by omega),e3]
     congr 1
     cases hk2 : kids (dec d (x.f0 == 7)) x.f2.toNat r with
     | none => rfl
     | some y =>
      obtain ⟨ks,r'⟩:=y
      have h6:=(kids_ok (dec_ok d (x.f0 == 7)) _ _ _ _ hk2).1
      have h7:=congrArg List.length h6
      simp only [List.length_append] at h7
      simp only [mayB]
      by_cases hsz : x.f1 = ((r.length - r'.length + 1 : Nat) : Int)
      ·rw [if_pos hsz]
       have hfl:=(dec_ok (d + 1) keyed (x :: r) _ r' (by rw [hdec,ok_two,hh,ht,if_pos (by rfl),hk2];simp only;rw [if_pos hsz])).1
       have h8:=congrArg List.length hfl
       simp only [List.length_append,List.length_cons] at h8
       simp only [mayA]
       rw [if_pos (show x.f1 = ((p + 1 + ks.flat.length - p : Nat) : Int) by omega)]
       by_cases hle : p + 1 + ks.flat.length ≤ en
       ·rw [if_pos hle,if_pos (by omega)]
        congr 1
        omega
       ·rw [if_neg hle,if_neg (by omega)]
      ·rw [if_neg hsz,if_neg (show ¬ x.f1 = ((p + 1 + ks.flat.length - p : Nat) : Int) by omega)]
       split <;> rfl
    ·rw [if_neg ht,if_neg ht]
     rfl
   ·have hf : okHead x keyed = false:=by simpa using hh
    rw [hf,racewayref25_may.j0,if_pos (by decide)]
    rfl
theorem rCheck_law (l : List S46) (hl : fit l = true) (hlen : l.length ≤ 1000000) (k : Nat) (hk : 10 * l.length + 4000000 ≤ k) : racewayref25_Check.f k l = some (if (tree? l).isSome then 0 else 2):=by
 rw [racewayref25_Check.f]
 cases l with
 | nil => rfl
 | cons x r =>
  rw [if_neg (by simp only [List.length_cons];omega)]
  have hc : racewayref25_may.f k (x :: r) 0 (((x :: r).length : Nat) : Int) false 0 = some (mayA (dec 32 false ((x :: r).drop 0)) 0 (x :: r).length):=may_law (x :: r) hl hlen 32 0 false 0 (x :: r).length k rfl (by simp) (Nat.le_refl _) (by omega)
  rw [hc,List.drop_zero,Option.bind_some]
  cases hd : dec 32 false (x :: r) with
  | none =>
   have ht : tree? (x :: r) = none:=by unfold tree?;rw [hd]
   have e : mayA none 0 (x :: r).length = -1:=rfl
   rw [ht,e,if_neg (by omega)]
   rfl
  | some y =>
   obtain ⟨t,r'⟩:=y
   have hf:=congrArg List.length (dec_ok _ _ _ _ _ hd).1
   simp only [List.length_append] at hf
   have e : mayA (some (t,r')) 0 (x :: r).length = ((t.flat.length : Nat) : Int):=by
    show (if 0 + t.flat.length ≤ (x :: r).length then ((0 + t.flat.length : Nat) : Int) else -1) = _
    rw [if_pos (by omega),Nat.zero_add]
   rw [e]
   cases r' with
   | nil =>
    have ht : tree? (x :: r) = some t:=by unfold tree?;rw [hd]
    rw [ht,if_pos (by simp only [List.length_nil] at hf;omega)]
    rfl
   | cons a b =>
    have ht : tree? (x :: r) = none:=by unfold tree?;rw [hd]
    rw [ht,if_neg (by simp only [List.length_cons] at hf ⊢;omega)]
    rfl
end Go.Proofs.YtadfkeipcebmfaaDoor.Pure
namespace Go.Proofs.YtadfkeipcebmfaaDoor.Pure
open Go.Proofs.YtadfkeipcebmfaaDoor.X Go.RowKit Go.Proofs.YtadfkeipcebmfaaDoorW.PrintWords Go.Proofs.YtadfkeipcebmfaaDoorW.PrintMore
set_option linter.unusedVariables false
set_option linter.unusedSimpArgs false
theorem sub_at : ∀ (f : F) (i : Nat),i < f.flat.length → ∃ (u : F) (r : List Nd),u.one ∧ f.flat.drop i = u.flat ++ r
 | .nil,i,h => by simp [F.flat] at h
 | .leaf k d t r,0,h => ⟨.leaf k d t .nil,r.flat,trivial,by simp [F.flat]⟩
 | .leaf k d t r,i + 1,h => by
  obtain ⟨u,r',h1,h2⟩:=sub_at r i (by simp [F.flat] at h;omega)
  exact ⟨u,r',h1,by simpa [F.flat] using h2⟩
 | .node k d ks r,0,h => ⟨.node k d ks .nil,r.flat,trivial,by simp [F.flat]⟩
 | .node k d ks r,i + 1,h => by
  simp only [F.flat,List.length_cons,List.length_append] at h
  simp only [F.flat,List.drop_succ_cons]
  by_cases hi : i < ks.flat.length
  ·obtain ⟨u,r',h1,h2⟩:=sub_at ks i hi
   exact ⟨u,r' ++ r.flat,h1,by rw [List.drop_append_of_le_length (by omega),h2,List.append_assoc]⟩
  ·obtain ⟨u,r',h1,h2⟩:=sub_at r (i - ks.flat.length) (by omega)
   exact ⟨u,r',h1,by rw [List.drop_append,List.drop_eq_nil_of_le (by omega),List.nil_append,h2]⟩
def starts : Nat → F → List Int
 | p,.nil => []
 | p,.leaf _ _ _ r => (p : Int) :: starts (p + 1) r
 | p,.node _ _ ks r => (p : Int) :: starts (p + (ks.flat.length + 1)) r
theorem first_of (l : List Nd) (p : Nat) (f : F) (r : List Nd) (h : l.drop p = f.flat ++ r) (hc : f.count ≠ 0) :
  ∃ (sz : Nat) (g : F),(rd_T46 l (p : Int)).f1 = (sz : Int) ∧ 1 ≤ sz ∧ l.drop (p + sz) = g.flat ++ r ∧ f.count = g.count + 1 ∧ starts p f = (p : Int) :: starts (p + sz) g ∧ p + sz + g.flat.length + r.length = l.length ∧ f.flat.length = sz + g.flat.length:=by
 have hlen:=congrArg List.length h
 simp only [List.length_drop,List.length_append] at hlen
 match f,hc with
 | .nil,hc => exact absurd rfl hc
 | .leaf k d t g,hc =>
  simp only [F.flat,List.cons_append] at h
  obtain ⟨e1,e2,e3,e4⟩:=rd_cast l p _ _ h
  refine ⟨1,g,by rw [e1];rfl,Nat.le_refl _,e3,rfl,rfl,?_,?_⟩
  ·simp only [F.flat,List.length_cons] at hlen
   omega
  ·simp only [F.flat,List.length_cons]
   omega
 | .node k d ks g,hc =>
  simp only [F.flat,List.cons_append] at h
  obtain ⟨e1,e2,e3,e4⟩:=rd_cast l p _ _ h
  refine ⟨ks.flat.length + 1,g,by rw [e1],by omega,?_,rfl,rfl,?_,?_⟩
  ·rw [show p + (ks.flat.length + 1) = (p + 1) + ks.flat.length by omega,← List.drop_drop,e3]
   simp
  ·simp only [F.flat,List.length_cons,List.length_append] at hlen
   omega
  ·simp only [F.flat,List.length_cons,List.length_append]
   omega
theorem starts_in : ∀ (f : F) (p : Nat),∀ q ∈ starts p f,(p : Int) ≤ q ∧ q < ((p + f.flat.length : Nat) : Int)
 | .nil,p,q,h => by simp [starts] at h
 | .leaf k d t r,p,q,h => by
  simp only [starts,List.mem_cons] at h
  simp only [F.flat,List.length_cons]
  rcases h with rfl|h
  ·omega
  ·have:=starts_in r (p + 1) q h
   omega
 | .node k d ks r,p,q,h => by
  simp only [starts,List.mem_cons] at h
  simp only [F.flat,List.length_cons,List.length_append]
  rcases h with rfl|h
  ·omega
  ·have:=starts_in r (p + (ks.flat.length + 1)) q h
   omega
theorem starts_len : ∀ (f : F) (p : Nat),(starts p f).length = f.count
 | .nil,p => rfl
 | .leaf k d t r,p => by simp [starts,F.count,starts_len r]
 | .node k d ks r,p => by simp [starts,F.count,starts_len r]
def _root_.Go.Proofs.YtadfkeipcebmfaaDoor.X.F.sub : F → F
 | .node _ _ ks _ => ks
 | _ => .nil
theorem one_sub {u : F} (h : u.one) : ∃ x,u.flat = x :: u.sub.flat ∧ x.f1 = (u.flat.length : Nat) ∧ x.f2 = (u.sub.count : Nat):=by
 match u,h with
 | .leaf k d t .nil,_ => exact ⟨_,rfl,rfl,rfl⟩
 | .node k d ks .nil,_ => exact ⟨⟨d,(ks.flat.length + 1 : Nat),(ks.count : Nat),str k,str []⟩,by simp [F.flat,F.sub],by simp [F.flat],rfl⟩
theorem at_place (l : List Nd) (t : F) (h : l = t.flat) (i : Nat) (hi : i < l.length) : ∃ (u : F) (r : List Nd),u.one ∧ l.drop i = u.flat ++ r ∧ l.drop (i + 1) = u.sub.flat ++ r ∧ (rd_T46 l (i : Int)).f1 = (u.flat.length : Nat) ∧ (rd_T46 l (i : Int)).f2 = (u.sub.count : Nat) ∧ i + u.flat.length + r.length = l.length ∧ u.flat.length = u.sub.flat.length + 1 ∧ rd_T46 l (i : Int) ∈ l:=by
 obtain ⟨u,r,h1,h2⟩:=sub_at t i (by rw [← h];exact hi)
 rw [← h] at h2
 obtain ⟨x,e1,e2,e3⟩:=one_sub h1
 have h3:=h2
 rw [e1,List.cons_append] at h3
 obtain ⟨c1,c2,c3,c4⟩:=rd_cast l i _ _ h3
 have hlen:=congrArg List.length h2
 simp only [List.length_drop,List.length_append] at hlen
 refine ⟨u,r,h1,h2,c3,by rw [c1,e2],by rw [c1,e3],by omega,by rw [e1];simp,by rw [c1];exact c4⟩
end Go.Proofs.YtadfkeipcebmfaaDoor.Pure
namespace Go.Proofs.YtadfkeipcebmfaaDoor.Pure
open Go.Proofs.YtadfkeipcebmfaaDoor.X Go.RowKit Go.Proofs.YtadfkeipcebmfaaDoorW.PrintWords Go.Proofs.YtadfkeipcebmfaaDoorW.PrintMore
set_option linter.unusedVariables false
set_option linter.unusedSimpArgs false
def LoopOk (l : List S46) (f : F) : Prop:=∀ (rest : List S46) (acc : Bs) (next i k : Nat) (f0 f1 f2 : Int) (f3 f4 : ByteArray),l.drop next = f.flat ++ rest → ((i + f.count : Nat) : Int) = f2 → i + f.count ≤ 2000000 → 4 * (l.length - next) + 13000003 ≤ k → acc.length + (f.out (decide (f0 = 7)) (decide (i = 0))).length ≤ 100000000000000 →
 racewayref25_written.l0 k l (str acc) (next : Int) (i : Int) f0 f1 f2 f3 f4 = some (str (if f0 = 7 then 123 :: (acc ++ f.out (decide (f0 = 7)) (decide (i = 0)) ++ [125]) else 91 :: (acc ++ f.out (decide (f0 = 7)) (decide (i = 0)) ++ [93])))
def OneOkW (l : List S46) (u : F) : Prop:=∀ (rest : List S46) (p k : Nat),l.drop p = u.flat ++ rest → 4 * (l.length - p) + 13000000 ≤ k → (u.out false true).length ≤ 100000000000000 → racewayref25_written.f k l (p : Int) = some (str (u.out false true))
theorem writ_leaf (l : List S46) (hl : fit l = true) (hlen : l.length ≤ 1000000) (kb : Bs) (d : Int) (t : Bs) (hd : 1 ≤ d ∧ d ≤ 5) : OneOkW l (.leaf kb d t .nil):=by
 intro rest p k h hk hout
 obtain ⟨k,rfl⟩ : ∃ k',k = k' + 1:=⟨k - 1,by omega⟩
 simp only [F.flat,List.cons_append] at h
 obtain ⟨e1,e2,e3,e4⟩:=rd_cast l p _ _ h
 obtain ⟨s3,s4,_⟩:=fit_at hl e4
 simp only at s4
 rw [racewayref25_written.f,if_pos (by omega),if_pos (by omega),e1]
 have ho : (F.leaf kb d t .nil).out false true = ltx d t:=by simp [F.out]
 rw [ho]
 simp only
 unfold ltx
 by_cases d1 : d = 1
 ·rw [if_pos d1,if_pos d1];rfl
 ·rw [if_neg d1,if_neg d1]
  by_cases d2 : d = 2
  ·rw [if_pos d2,if_pos d2];rfl
  ·rw [if_neg d2,if_neg d2]
   by_cases d3 : d = 3
   ·rw [if_pos d3,if_pos d3];rfl
   ·rw [if_neg d3,if_neg d3]
    by_cases d4 : d = 4
    ·rw [if_pos d4,if_pos d4]
    ·rw [if_neg d4,if_neg d4,if_pos (by omega),quote_R (str t) s4 k (by omega)]
     rfl
theorem writ_node (l : List S46) (hl : fit l = true) (hlen : l.length ≤ 1000000) (kb : Bs) (d : Int) (ks : F) (hd : d = 6 ∨ d = 7) (H : LoopOk l ks) : OneOkW l (.node kb d ks .nil):=by
 intro rest p k h hk hout
 obtain ⟨k,rfl⟩ : ∃ k',k = k' + 1:=⟨k - 1,by omega⟩
 have ho : (F.node kb d ks .nil).out false true = if d = 7 then 123 :: (ks.out true true ++ [125]) else 91 :: (ks.out false true ++ [93]):=by simp [F.out]
 simp only [F.flat,List.append_nil,List.cons_append] at h
 obtain ⟨e1,e2,e3,e4⟩:=rd_cast l p _ _ h
 rw [racewayref25_written.f,if_pos (by omega),if_pos (by omega),e1]
 simp only
 rw [if_neg (by omega),if_neg (by omega),if_neg (by omega),if_neg (by omega),if_neg (by omega),w64v (by omega) (by omega),show ((p : Int) + 1) = ((p + 1 : Nat) : Int) by omega]
 have hb : (ks.out (decide (d = 7)) true).length ≤ 100000000000000:=by
  rw [ho] at hout
  by_cases h7 : d = 7
  ·rw [if_pos h7] at hout
   rw [decide_eq_true h7]
   simp only [List.length_cons,List.length_append] at hout
   omega
  ·rw [if_neg h7] at hout
   rw [decide_eq_false h7]
   simp only [List.length_cons,List.length_append] at hout
   omega
 have:=H rest [] (p + 1) 0 k d ((ks.flat.length + 1 : Nat) : Int) ((ks.count : Nat) : Int) (str kb) (str []) e3 (by omega) (by have:=F.cnt_le ks;have h9:=congrArg List.length e3;simp only [List.length_drop,List.length_append] at h9;omega) (by omega) (by simpa using (by omega : (ks.out (decide (d = 7)) true).length ≤ 100000000000000))
 show racewayref25_written.l0 k l (str []) ((p + 1 : Nat) : Int) ((0 : Nat) : Int) d ((ks.flat.length + 1 : Nat) : Int) ((ks.count : Nat) : Int) (str kb) (str []) = _
 rw [this,ho]
 by_cases h7 : d = 7
 ·rw [if_pos h7,if_pos h7,decide_eq_true h7]
  simp
 ·rw [if_neg h7,if_neg h7,decide_eq_false h7]
  simp
theorem writ_nil (l : List S46) : LoopOk l .nil:=by
 intro rest acc next i k f0 f1 f2 f3 f4 h hi hi2 hk ho
 obtain ⟨k,rfl⟩ : ∃ k',k = k' + 1:=⟨k - 1,by omega⟩
 rw [racewayref25_written.l0,if_neg (by simp only [F.count] at hi;omega)]
 simp only [F.out,List.length_nil,List.append_nil] at ho ⊢
 rw [str_size]
 by_cases h7 : f0 = 7
 ·rw [if_pos h7,if_pos h7,if_pos (by omega),if_pos (by omega)]
  show some ((str [123] ++ str acc) ++ str [125]) = _
  rw [qstr_app,qstr_app]
  rfl
 ·rw [if_neg h7,if_neg h7,if_pos (by omega),if_pos (by omega)]
  show some ((str [91] ++ str acc) ++ str [93]) = _
  rw [qstr_app,qstr_app]
  rfl
theorem writ_cons (l : List S46) (hl : fit l = true) (hlen : l.length ≤ 1000000) (t g : F) (ht : t.one) (H1 : OneOkW l t) (H2 : LoopOk l g) : LoopOk l (t.app g):=by
 intro rest acc next i k f0 f1 f2 f3 f4 h hi hi2 hk ho
 obtain ⟨k,rfl⟩ : ∃ k',k = k' + 2:=⟨k - 2,by omega⟩
 have hcnt:=F.count_app t g
 have hc1:=F.one_count ht
 have hfl:=F.flat_app t g
 have hpos:=one_pos ht
 rw [hfl,List.append_assoc] at h
 have hlen2:=congrArg List.length h
 simp only [List.length_drop,List.length_append] at hlen2
 obtain ⟨x,xs,hx⟩ : ∃ x xs,t.flat = x :: xs:=by
  cases hf : t.flat with
  | nil => rw [hf] at hpos;simp at hpos
  | cons a b => exact ⟨a,b,rfl⟩
 have h2:=h
 rw [hx,List.cons_append] at h2
 obtain ⟨e1,e2,e3,e4⟩:=rd_cast l next x _ h2
 obtain ⟨s3,s4,_⟩:=fit_at hl e4
 have hxk : x.f3 = str (key t) ∧ x.f1 = ((t.flat.length : Nat) : Int):=by
  match t,ht,hx with
  | .leaf k1 d1 t1 .nil,_,hx =>
   simp only [F.flat,List.cons.injEq] at hx
   rw [← hx.1]
   exact ⟨rfl,rfl⟩
  | .node k1 d1 ks1 .nil,_,hx =>
   simp only [F.flat,List.append_nil,List.cons.injEq] at hx
   rw [← hx.1]
   exact ⟨rfl,by simp [F.flat]⟩
 obtain ⟨hx3,hx1⟩:=hxk
 have hout : (t.app g).out (decide (f0 = 7)) (decide (i = 0)) = (if decide (i = 0) = true then [] else [44]) ++ (if decide (f0 = 7) = true then quote (key t) ++ [58] else []) ++ t.out false true ++ g.out (decide (f0 = 7)) false:=by
  rw [out_app ht,out_one ht]
 rw [hout] at ho ⊢
 have hk3 : (str (key t)).size ≤ 1000000:=by rw [← hx3];exact s3
 rw [racewayref25_written.l0,if_pos (by omega)]
 have body : ∀ acc' : Bs,acc' = acc ++ (if decide (i = 0) = true then [] else [44]) → racewayref25_written.j1 (k + 1) l (str acc') (next : Int) (i : Int) f0 f1 f2 f3 f4 = some (str (if f0 = 7 then 123 :: (acc ++ ((if decide (i = 0) = true then [] else [44]) ++ (if decide (f0 = 7) = true then quote (key t) ++ [58] else []) ++ t.out false true ++ g.out (decide (f0 = 7)) false) ++ [125]) else 91 :: (acc ++ ((if decide (i = 0) = true then [] else [44]) ++ (if decide (f0 = 7) = true then quote (key t) ++ [58] else []) ++ t.out false true ++ g.out (decide (f0 = 7)) false) ++ [93]))):=by
  intro acc' hacc
  rw [← List.append_assoc,← List.append_assoc,← List.append_assoc,← hacc]
  have hacl:=congrArg List.length hacc
  simp only [List.length_append] at hacl ho
  have hone:=H1 (g.flat ++ rest) next k h (by omega) (by omega)
  have hdrop : l.drop (next + t.flat.length) = g.flat ++ rest:=by
   rw [← List.drop_drop,h]
   simp
  rw [racewayref25_written.j1]
  by_cases h7 : f0 = 7
  ·rw [decide_eq_true h7] at ho hout ⊢
   simp only [if_true,List.length_append,List.length_cons,List.length_nil] at ho
   rw [if_pos h7,if_pos (by omega),if_pos (by omega),e1,hx3,quote_R (str (key t)) hk3 k (by omega),Option.bind_some,hone,Option.bind_some]
   have e5 : (str (key t)).data.toList = key t:=rfl
   rw [e5]
   have e6 : ((str acc' ++ str (quote (key t))) ++ (⟨#[58]⟩ : ByteArray)) ++ str (t.out false true) = str (acc' ++ (quote (key t) ++ [58]) ++ t.out false true):=by
    show ((str acc' ++ str (quote (key t))) ++ str [58]) ++ str (t.out false true) = _
    rw [qstr_app,qstr_app,qstr_app]
    simp
   rw [e6,str_size,str_size,str_size,if_pos (by omega),if_pos (by omega),if_pos (by omega),hx1,w64v (by omega) (by omega),w64v (by omega) (by omega),show ((next : Int) + ((t.flat.length : Nat) : Int)) = ((next + t.flat.length : Nat) : Int) by omega,show ((i : Int) + 1) = ((i + 1 : Nat) : Int) by omega]
   have:=H2 rest (acc' ++ (quote (key t) ++ [58]) ++ t.out false true) (next + t.flat.length) (i + 1) k f0 f1 f2 f3 f4 hdrop (by omega) (by omega) (by omega) (by
    rw [decide_eq_true h7,decide_eq_false (show ¬ i + 1 = 0 by omega)]
    simp only [List.length_append,List.length_cons,List.length_nil]
    omega)
   rw [this,decide_eq_true h7,decide_eq_false (show ¬ i + 1 = 0 by omega),if_pos h7,if_pos h7]
   simp
  ·rw [decide_eq_false h7] at ho hout ⊢
   simp only [Bool.false_eq_true,if_false,List.length_nil,Nat.add_zero] at ho
   rw [if_neg h7,hone,Option.bind_some,qstr_app,str_size,str_size,if_pos (by omega),if_pos (by omega),if_pos (by omega),e1,hx1,w64v (by omega) (by omega),w64v (by omega) (by omega),show ((next : Int) + ((t.flat.length : Nat) : Int)) = ((next + t.flat.length : Nat) : Int) by omega,show ((i : Int) + 1) = ((i + 1 : Nat) : Int) by omega]
   have:=H2 rest (acc' ++ t.out false true) (next + t.flat.length) (i + 1) k f0 f1 f2 f3 f4 hdrop (by omega) (by omega) (by omega) (by
    rw [decide_eq_false h7,decide_eq_false (show ¬ i + 1 = 0 by omega)]
    simp only [List.length_append]
    omega)
   rw [this,decide_eq_false h7,decide_eq_false (show ¬ i + 1 = 0 by omega),if_neg h7,if_neg h7]
   simp
 by_cases h0 : i = 0
 ·rw [if_neg (by omega)]
  exact body acc (by rw [decide_eq_true h0];simp)
 ·rw [if_pos (by omega),str_size,if_pos (by omega)]
  show racewayref25_written.j1 (k + 1) l (str acc ++ str [44]) (next : Int) (i : Int) f0 f1 f2 f3 f4 = _
  rw [qstr_app]
  exact body (acc ++ [44]) (by rw [decide_eq_false h0];simp)
theorem writ_all (l : List S46) (hl : fit l = true) (hlen : l.length ≤ 1000000) : ∀ f : F,f.kinds = true → LoopOk l f
 | .nil,h => writ_nil l
 | .leaf k d t r,h => by
  simp only [F.kinds,Bool.and_eq_true,decide_eq_true_eq] at h
  exact writ_cons l hl hlen (.leaf k d t .nil) r trivial (writ_leaf l hl hlen k d t h.1) (writ_all l hl hlen r h.2)
 | .node k d ks r,h => by
  simp only [F.kinds,Bool.and_eq_true,Bool.or_eq_true,beq_iff_eq] at h
  exact writ_cons l hl hlen (.node k d ks .nil) r trivial (writ_node l hl hlen k d ks h.1.1 (writ_all l hl hlen ks h.1.2)) (writ_all l hl hlen r h.2)
theorem writ_tree (l : List S46) (hl : fit l = true) (hlen : l.length ≤ 1000000) {t : F} (ht : t.one) (hk : t.kinds = true) : OneOkW l t:=by
 match t,ht,hk with
 | .leaf k d t .nil,_,hk =>
  simp only [F.kinds,Bool.and_eq_true,decide_eq_true_eq] at hk
  exact writ_leaf l hl hlen k d t hk.1
 | .node k d ks .nil,_,hk =>
  simp only [F.kinds,Bool.and_eq_true,Bool.or_eq_true,beq_iff_eq] at hk
  exact writ_node l hl hlen k d ks hk.1.1 (writ_all l hl hlen ks hk.1.2)
end Go.Proofs.YtadfkeipcebmfaaDoor.Pure
namespace Go.Proofs.YtadfkeipcebmfaaDoor.Pure
open Go.Proofs.YtadfkeipcebmfaaDoor.X Go.RowKit Go.Proofs.YtadfkeipcebmfaaDoorW.PrintWords Go.Proofs.YtadfkeipcebmfaaDoorW.PrintMore
set_option linter.unusedVariables false
set_option linter.unusedSimpArgs false
theorem count_nil {f : F} (h : f.count = 0) : f = .nil:=by
 match f,h with
 | .nil,_ => rfl
theorem kids_l0 (l : List S46) (hlen : l.length ≤ 1000000) (N : Int) : ∀ (n : Nat) (f : F) (rest : List S46) (out : List Int) (next cnt k : Nat),f.count = n → l.drop next = f.flat ++ rest → ((cnt + n : Nat) : Int) = N → n + 1 ≤ k → out.length + n ≤ 10000000 → cnt + n ≤ 10000000 →
  jsontext_Kids.l0 k l out (next : Int) N (cnt : Int) = some (out ++ starts next f)
 | n,f,rest,out,next,cnt,0,hf,h,hN,hk,ho,hc => by omega
 | 0,f,rest,out,next,cnt,k + 1,hf,h,hN,hk,ho,hc => by
  rw [jsontext_Kids.l0,if_neg (by omega),count_nil hf]
  simp [starts]
 | n + 1,f,rest,out,next,cnt,k + 1,hf,h,hN,hk,ho,hc => by
  obtain ⟨sz,g,e1,e2,e3,e4,e5,e6,e7⟩:=first_of l next f rest h (by omega)
  rw [jsontext_Kids.l0,if_pos (by omega),if_pos (by omega),if_pos (by omega),if_pos (by omega),e1,w64v (by omega) (by omega),w64v (by omega) (by omega),show ((next : Int) + (sz : Int)) = ((next + sz : Nat) : Int) by omega,show ((cnt : Int) + 1) = ((cnt + 1 : Nat) : Int) by omega,
   kids_l0 l hlen N n g rest (out ++ [(next : Int)]) (next + sz) (cnt + 1) k (by omega) e3 (by omega) (by omega) (by simp only [List.length_append,List.length_cons,List.length_nil];omega) (by omega),e5]
  simp
theorem rkids_l0 (l : List S46) (hlen : l.length ≤ 1000000) (i : Nat) (hi : i < l.length) : ∀ (n : Nat) (f : F) (rest : List S46) (out : List Int) (next cnt k : Nat),f.count = n → l.drop next = f.flat ++ rest → ((cnt + n : Nat) : Int) = (rd_T46 l (i : Int)).f2 → n + 1 ≤ k → out.length + n ≤ 10000000 → cnt + n ≤ 10000000 →
  racewayref25_Kids.l0 k l (i : Int) out (next : Int) (cnt : Int) = some (out ++ starts next f)
 | n,f,rest,out,next,cnt,0,hf,h,hN,hk,ho,hc => by omega
 | 0,f,rest,out,next,cnt,k + 1,hf,h,hN,hk,ho,hc => by
  rw [racewayref25_Kids.l0,if_pos (by omega),if_pos (by omega),if_neg (by omega),count_nil hf]
  simp [starts]
 | n + 1,f,rest,out,next,cnt,k + 1,hf,h,hN,hk,ho,hc => by
  obtain ⟨sz,g,e1,e2,e3,e4,e5,e6,e7⟩:=first_of l next f rest h (by omega)
  rw [racewayref25_Kids.l0,if_pos (by omega),if_pos (by omega),if_pos (by omega),if_pos (by omega),if_pos (by omega),if_pos (by omega),e1,w64v (by omega) (by omega),w64v (by omega) (by omega),show ((next : Int) + (sz : Int)) = ((next + sz : Nat) : Int) by omega,show ((cnt : Int) + 1) = ((cnt + 1 : Nat) : Int) by omega,
   rkids_l0 l hlen i hi n g rest (out ++ [(next : Int)]) (next + sz) (cnt + 1) k (by omega) e3 (by omega) (by omega) (by simp only [List.length_append,List.length_cons,List.length_nil];omega) (by omega),e5]
  simp
def kidsS (l : List S46) (i : Int) : List Int → Prop:=fun L => (∀ q ∈ L,0 ≤ q ∧ q < (l.length : Int)) ∧ L.length ≤ 1000000 ∧ (L ≠ [] → 0 ≤ i ∧ i < (l.length : Int))
theorem kids_both (l : List S46) (hl : fit l = true) (hlen : l.length ≤ 1000000) (i : Int) (k : Nat) (hk : 10 * l.length + 4000000 ≤ k) : ∃ L,kidsS l i L ∧ jsontext_Kids.f k l i = some L ∧ racewayref25_Kids.f k l i = some L:=by
 obtain ⟨k,rfl⟩ : ∃ k',k = k' + 1:=⟨k - 1,by omega⟩
 have hC:=Check_law l hl (k + 1) (by omega)
 have hR:=rCheck_law l hl hlen (k + 1) hk
 have hnil : kidsS l i []:=⟨by simp,by simp,by simp⟩
 cases ht : tree? l with
 | none =>
  rw [ht] at hC hR
  have hC2 : jsontext_Check.f (k + 1) l = some 2:=hC
  have hR2 : racewayref25_Check.f (k + 1) l = some 2:=hR
  refine ⟨[],hnil,?_,?_⟩
  ·rw [jsontext_Kids.f,hC2,Option.bind_some,if_neg (by decide),jsontext_Kids.j0,if_pos rfl]
  ·rw [racewayref25_Kids.f,hR2,Option.bind_some,if_neg (by decide),racewayref25_Kids.j0,if_pos rfl]
 | some t =>
  rw [ht] at hC hR
  have hC2 : jsontext_Check.f (k + 1) l = some 0:=hC
  have hR2 : racewayref25_Check.f (k + 1) l = some 0:=hR
  obtain ⟨h1,h2,h3⟩:=tree_flat ht
  rw [jsontext_Kids.f,racewayref25_Kids.f,hC2,hR2,Option.bind_some,Option.bind_some,if_pos (show (0 : Int) = 0 from rfl),if_pos (show (0 : Int) = 0 from rfl)]
  by_cases c1 : i < 0
  ·refine ⟨[],hnil,?_,?_⟩
   ·rw [if_pos c1,jsontext_Kids.j0,if_pos rfl]
   ·rw [if_pos c1,racewayref25_Kids.j0,if_pos rfl]
  ·rw [if_neg c1,if_neg c1]
   by_cases c2 : i ≥ (l.length : Int)
   ·refine ⟨[],hnil,?_,?_⟩
    ·rw [jsontext_Kids.j0,if_pos (decide_eq_true c2)]
    ·rw [racewayref25_Kids.j0,if_pos (decide_eq_true c2)]
   ·obtain ⟨n,rfl⟩ : ∃ n : Nat,i = (n : Int):=⟨i.toNat,by omega⟩
    obtain ⟨u,r,p1,p2,p3,p4,p5,p6,p7,p8⟩:=at_place l t h1 n (by omega)
    have hcl:=F.cnt_le u.sub
    refine ⟨starts (n + 1) u.sub,⟨fun q hq => ?_,by rw [starts_len];omega,fun _ => ⟨by omega,by omega⟩⟩,?_,?_⟩
    ·have:=starts_in u.sub (n + 1) q hq
     omega
    ·rw [jsontext_Kids.j0,if_neg (by simp;omega),if_pos (by omega),if_pos (by omega),w64v (by omega) (by omega),p5]
     exact kids_l0 l hlen _ u.sub.count u.sub r [] (n + 1) 0 k rfl p3 (by omega) (by omega) (by simp;omega) (by omega)
    ·rw [racewayref25_Kids.j0,if_neg (by simp;omega),w64v (by omega) (by omega)]
     exact rkids_l0 l hlen n (by omega) u.sub.count u.sub r [] (n + 1) 0 k rfl p3 (by rw [p5];omega) (by omega) (by simp;omega) (by omega)
def getS (l : List S46) (kind : Int) (key : ByteArray) : List Int → Int
 | [] => -1
 | q :: r => if kind = 7 then (if (rd_T46 l q).f3.toList = key.toList then q else getS l kind key r) else getS l kind key r
theorem rd_at (L : List Int) (j : Nat) (q : Int) (r : List Int) (h : L.drop j = q :: r) : rd L (j : Int) = q ∧ j < L.length ∧ L.drop (j + 1) = r ∧ q ∈ L:=by
 have hj : j < L.length:=by
  have:=congrArg List.length h
  simp at this
  omega
 rw [List.drop_eq_getElem_cons hj] at h
 injection h with h1 h2
 refine ⟨?_,hj,h2,?_⟩
 ·unfold rd
  rw [Int.toNat_natCast,List.getD_eq_getElem?_getD,List.getElem?_eq_getElem hj]
  exact h1
 ·rw [← h1]
  exact List.getElem_mem hj
theorem get_l0 (l : List S46) (i : Int) (key : ByteArray) (L : List Int) (hL : kidsS l i L) : ∀ (M : List Int) (j k : Nat),L.drop j = M → M.length + 1 ≤ k →
  jsontext_Get.l0 k l i key L (L.length : Int) (j : Int) = some (getS l (rd_T46 l i).f0 key M) ∧ racewayref25_Get.l0 k l i key L (j : Int) = some (getS l (rd_T46 l i).f0 key M)
 | M,j,0,h,hk => by omega
 | [],j,k + 1,h,hk => by
  have hj : ¬ j < L.length:=by
   have:=congrArg List.length h
   simp at this
   omega
  rw [jsontext_Get.l0,racewayref25_Get.l0,if_neg (by omega),if_neg (by omega)]
  exact ⟨rfl,rfl⟩
 | q :: r,j,k + 1,h,hk => by
  obtain ⟨e1,e2,e3,e4⟩:=rd_at L j q r h
  obtain ⟨hq,hlen,hi⟩:=hL
  obtain ⟨q1,q2⟩:=hq q e4
  obtain ⟨i1,i2⟩:=hi (by rintro rfl;simp at e4)
  have ih:=get_l0 l i key L ⟨hq,hlen,hi⟩ r (j + 1) k e3 (by simp at hk;omega)
  have hw : wrap64 ((j : Int) + 1) = ((j + 1 : Nat) : Int):=by rw [w64v (by omega) (by omega)];omega
  have g1 : (j : Int) < (L.length : Int):=by omega
  have g2 : (0 : Int) ≤ (j : Int):=by omega
  refine ⟨?_,?_⟩
  ·rw [jsontext_Get.l0,if_pos g1,if_pos g2,if_pos g1,if_pos i1,if_pos i2,e1,getS,hw]
   by_cases c7 : (rd_T46 l i).f0 = 7
   ·rw [if_pos c7,if_pos c7,if_pos q1,if_pos q2]
    by_cases ck : (rd_T46 l q).f3.toList = key.toList
    ·rw [if_pos ck,if_pos ck]
    ·rw [if_neg ck,if_neg ck]
     exact ih.1
   ·rw [if_neg c7,if_neg c7]
    exact ih.1
  ·rw [racewayref25_Get.l0,if_pos g1,if_pos i1,if_pos i2,e1,getS,hw]
   by_cases c7 : (rd_T46 l i).f0 = 7
   ·rw [if_pos c7,if_pos c7,if_pos g2,if_pos q1,if_pos q2]
    by_cases ck : (rd_T46 l q).f3.toList = key.toList
    ·rw [if_pos ck,if_pos ck]
    ·rw [if_neg ck,if_neg ck]
     exact ih.2
   ·rw [if_neg c7,if_neg c7]
    exact ih.2
theorem get_both (l : List S46) (hl : fit l = true) (hlen : l.length ≤ 1000000) (i : Int) (key : ByteArray) (k : Nat) (hk : 10 * l.length + 4000000 ≤ k) : ∃ n,jsontext_Get.f k l i key = some n ∧ racewayref25_Get.f k l i key = some n:=by
 obtain ⟨L,h1,h2,h3⟩:=kids_both l hl hlen i k hk
 have:=get_l0 l i key L h1 L 0 k rfl (by have:=h1.2.1;omega)
 rw [jsontext_Get.f,racewayref25_Get.f,h2,h3,Option.bind_some,Option.bind_some]
 exact ⟨_,this.1,this.2⟩
theorem sub_both (l : List S46) (hl : fit l = true) (hlen : l.length ≤ 100000) (i : Int) (k : Nat) (hk : 10 * l.length + 4000000 ≤ k) : ∃ L : List S46,L.length ≤ 100000 ∧ jsontext_Sub.f k l i = some L ∧ racewayref25_Sub.f k l i = some L:=by
 have hC:=Check_law l hl k (by omega)
 have hR:=rCheck_law l hl (by omega) k hk
 cases ht : tree? l with
 | none =>
  rw [ht] at hC hR
  have hC2 : jsontext_Check.f k l = some 2:=hC
  have hR2 : racewayref25_Check.f k l = some 2:=hR
  exact ⟨[],by simp,by rw [jsontext_Sub.f,hC2,Option.bind_some,if_neg (by decide)],by rw [racewayref25_Sub.f,hR2,Option.bind_some,if_neg (by decide)]⟩
 | some t =>
  rw [ht] at hC hR
  have hC2 : jsontext_Check.f k l = some 0:=hC
  have hR2 : racewayref25_Check.f k l = some 0:=hR
  obtain ⟨h1,h2,h3⟩:=tree_flat ht
  by_cases c1 : i < 0
  ·exact ⟨[],by simp,by rw [jsontext_Sub.f,hC2,Option.bind_some,if_pos rfl,if_pos c1],by rw [racewayref25_Sub.f,hR2,Option.bind_some,if_pos rfl,if_pos c1]⟩
  ·by_cases c2 : i ≥ (l.length : Int)
   ·exact ⟨[],by simp,by rw [jsontext_Sub.f,hC2,Option.bind_some,if_pos rfl,if_neg c1,if_pos c2],by rw [racewayref25_Sub.f,hR2,Option.bind_some,if_pos rfl,if_neg c1,if_pos c2]⟩
   ·obtain ⟨n,rfl⟩ : ∃ n : Nat,i = (n : Int):=⟨i.toNat,by omega⟩
    obtain ⟨u,r,p1,p2,p3,p4,p5,p6,p7,p8⟩:=at_place l t h1 n (by omega)
    have hw : wrap64 ((n : Int) + (rd_T46 l (n : Int)).f1) = ((n + u.flat.length : Nat) : Int):=by rw [p4,w64v (by omega) (by omega)];omega
    have g1 : (0 : Int) ≤ (n : Int):=by omega
    have g2 : (n : Int) < (l.length : Int):=by omega
    have g3 : (n : Int) ≤ ((n + u.flat.length : Nat) : Int):=by omega
    have g4 : ((n + u.flat.length : Nat) : Int) ≤ (l.length : Int):=by omega
    obtain ⟨M,hM⟩ : ∃ M,M = (l.take (((n + u.flat.length : Nat) : Int)).toNat).drop ((n : Int)).toNat:=⟨_,rfl⟩
    have hMl : M.length ≤ l.length:=by rw [hM,List.length_drop,List.length_take];omega
    have hMp : 1 ≤ M.length:=by rw [hM,List.length_drop,List.length_take,Int.toNat_natCast,Int.toNat_natCast];omega
    have g5 : (0 : Int) < (M.length : Int):=by omega
    have g6 : ([] : List S46).length + M.length < 2513169434916:=by simp only [List.length_nil];omega
    refine ⟨M.set (0 : Int).toNat (⟨(rd_T46 M 0).f0,(rd_T46 M 0).f1,(rd_T46 M 0).f2,(⟨#[]⟩ : ByteArray),(rd_T46 M 0).f4⟩ : S46),by rw [List.length_set];omega,?_,?_⟩
    ·rw [jsontext_Sub.f,hC2,Option.bind_some,if_pos rfl,if_neg c1,if_neg c2,if_pos g1,if_pos g2,hw,if_pos g3,if_pos g4,← hM,api_Jnode.f,if_pos (by omega),Option.bind_some,if_pos g5]
    ·rw [racewayref25_Sub.f,hR2,Option.bind_some,if_pos rfl,if_neg c1,if_neg c2,Option.bind_some,if_pos g1,if_pos g2,hw,if_pos g3,if_pos g4,← hM,Option.bind_some,if_pos g6,Option.bind_some,List.nil_append,if_pos g5]
theorem same_nums (L : List Int) (hl : L.length ≤ 1000000) (k : Nat) (hk : L.length + 1 ≤ k) : racewayref01_SameNums.f k L L = some true:=by
 rw [racewayref01_SameNums.f,if_pos rfl]
 have : ∀ (n i k : Nat),i + n = L.length → n + 1 ≤ k → racewayref01_SameNums.l0 k L L (i : Int) = some true:=by
  intro n
  induction n with
  | zero =>
   intro i k hi hk
   obtain ⟨k,rfl⟩ : ∃ k',k = k' + 1:=⟨k - 1,by omega⟩
   rw [racewayref01_SameNums.l0,if_neg (by omega)]
  | succ n ih =>
   intro i k hi hk
   obtain ⟨k,rfl⟩ : ∃ k',k = k' + 1:=⟨k - 1,by omega⟩
   rw [racewayref01_SameNums.l0,if_pos (by omega),if_pos (by omega),if_pos (by omega),if_pos rfl,w64v (by omega) (by omega),show ((i : Int) + 1) = ((i + 1 : Nat) : Int) by omega]
   exact ih (i + 1) k (by omega) (by omega)
 exact this L.length 0 k (by omega) hk
end Go.Proofs.YtadfkeipcebmfaaDoor.Pure
namespace Go.Proofs.YtadfkeipcebmfaaDoor.X
open Go.RowKit Go.Proofs.YtadfkeipcebmfaaDoorW.PrintWords Go.Proofs.YtadfkeipcebmfaaDoorW.PrintLast Go.Proofs.YtadfkeipcebmfaaDoorW.PrintMore
attribute [local go_sem] max2_int min2_int max_two min_two max_three min_three max_four min_four
set_option linter.unusedVariables false
set_option linter.unusedSimpArgs false
def racewaylaw25_JsontextBack.T1 : Bool × List (List Nat × List Nat):=(true,[([],[]),([],[]),([1],[1]),([2],[2]),([0,3],[0,3]),([],[]),([5],[5]),([4,6,0,1,2,3,4],[0,1,4]),([6,7,0,1,2,3,4,5,6,7],[5,6])])
def racewaylaw25_JsontextBack.B1 : List Nat:=[0,0,2,6,15,0,32,127,255]
theorem racewaylaw25_JsontextBack.tab1 : rtab .any (opsOf Tryd.f4 1) = racewaylaw25_JsontextBack.T1:=by kernel_rfl
theorem racewaylaw25_JsontextBack.bits1 : waitsOk racewaylaw25_JsontextBack.T1.2 racewaylaw25_JsontextBack.B1 = true:=by kernel_rfl
end Go.Proofs.YtadfkeipcebmfaaDoor.X
namespace Go.Proofs.YtadfkeipcebmfaaDoor.Pure
open Go.RowKit Go.Proofs.YtadfkeipcebmfaaDoor.X Go.Proofs.YtadfkeipcebmfaaDoorW.PrintWords Go.Proofs.YtadfkeipcebmfaaDoorW.PrintMore
set_option linter.unusedVariables false
set_option linter.unusedSimpArgs false
theorem w64q {x : Int} (h0 : -9223372036854775808 ≤ x) (h1 : x ≤ 9223372036854775807) : wrap64 x = x:=by unfold wrap64;omega
theorem mn_lim (a b : Int) (ha : 0 ≤ a) (hb : 0 ≤ b) : 0 ≤ mn a b ∧ mn a b ≤ a ∧ mn a b ≤ b:=by
 unfold mn
 split <;> omega
def Few (l : List (S46)) : Prop:=l.length ≤ 120 ∧ ∀ x ∈ l,(x.f3.size ≤ 200 ∧ x.f4.size ≤ 200) ∧ x.f2 ≤ 9223372036854775807 ∧ -9223372036854775808 ≤ x.f1 ∧ x.f1 ≤ 9223372036854775807
theorem few_is (l : List (S46)) (hl : ∀ x ∈ l,(Lit.int .i64 x.f0).wf = true ∧ (Lit.int .i64 x.f1).wf = true ∧ (Lit.int .i64 x.f2).wf = true) (k : Nat) (hk : 200 ≤ k) : ∃ l',racewaylaw25_few.f k l = some l' ∧ Few l':=by
 have hr : ∀ n : Int,(Lit.int .i64 n).wf = true → -9223372036854775808 ≤ n ∧ n ≤ 9223372036854775807:=by
  intro n h
  simp [Lit.wf] at h
  simp [IntKind.min,IntKind.max,IntKind.signed,IntKind.bits] at h
  omega
 have : ∀ (d i k : Nat) (acc : List (S46)),i + d = 121 → d + 1 ≤ k → acc.length = i → Few acc → ∃ l',racewaylaw25_few.l0 k l acc (i : Int) = some l' ∧ Few l':=by
  intro d
  induction d with
  | zero =>
   intro i k acc hi hk ha hf
   have:=hf.1
   omega
  | succ d ih =>
   intro i k acc hi hk ha hf
   obtain ⟨k,rfl⟩ : ∃ k',k = k' + 1:=⟨k - 1,by omega⟩
   rw [racewaylaw25_few.l0]
   by_cases h1 : (i : Int) < (l.length : Int)
   ·rw [if_pos h1]
    by_cases h2 : (i : Int) < 120
    ·rw [if_pos h2,if_pos (by omega)]
     obtain ⟨x,r,hx⟩ : ∃ x r,l.drop i = x :: r:=⟨_,_,List.drop_eq_getElem_cons (show i < l.length by omega)⟩
     obtain ⟨e1,e2,e3,e4⟩:=rd_cast l i x r hx
     obtain ⟨w0,w1,w2⟩:=hl x e4
     obtain ⟨a1,a2,a3⟩:=mn_lim (x.f3.size : Int) 200 (by omega) (by omega)
     obtain ⟨b1,b2,b3⟩:=mn_lim (x.f4.size : Int) 200 (by omega) (by omega)
     rw [e1,if_pos a1,if_pos a2,if_pos b1,if_pos b2,if_pos (by omega),w64q (by omega) (by omega),show ((i : Int) + 1) = ((i + 1 : Nat) : Int) by omega]
     refine ih (i + 1) k _ (by omega) (by omega) (by simp [ha]) ⟨by simp;omega,fun y hy => ?_⟩
     simp only [List.mem_append,List.mem_singleton] at hy
     rcases hy with hy|rfl
     ·exact hf.2 y hy
     ·have:=hr _ w1
      have:=hr _ w2
      refine ⟨⟨?_,?_⟩,by simp only;omega,by simp only;omega,by simp only;omega⟩
      ·show (x.f3.extract 0 _).size ≤ 200
       rw [ByteArray.size_extract]
       omega
      ·show (x.f4.extract 0 _).size ≤ 200
       rw [ByteArray.size_extract]
       omega
    ·rw [if_neg h2]
     exact ⟨_,rfl,hf⟩
   ·rw [if_neg h1]
    exact ⟨_,rfl,hf⟩
 exact this 121 0 k [] (by omega) (by omega) rfl ⟨by simp,by simp⟩
theorem few_fit {l : List (S46)} (h : Few l) : fit l = true:=by
 unfold fit
 simp only [Bool.and_eq_true,decide_eq_true_eq,List.all_eq_true]
 refine ⟨by have:=h.1;omega,fun x hx => ?_⟩
 obtain ⟨⟨a,b⟩,c,d,e⟩:=h.2 x hx
 exact ⟨⟨⟨⟨by omega,by omega⟩,c⟩,d⟩,e⟩
theorem out_bound : ∀ (f : F) (ob first : Bool),(∀ x ∈ f.flat,x.f3.size ≤ 200 ∧ x.f4.size ≤ 200) → (f.out ob first).length ≤ 3000 * f.flat.length
 | .nil,ob,first,h => by simp [F.out]
 | .leaf k kd t r,ob,first,h => by
  have ih:=out_bound r ob false (fun x hx => h x (by simp [F.flat,hx]))
  have h1:=h ⟨kd,1,0,str k,str t⟩ (by simp [F.flat])
  simp only [str_size] at h1
  have hk:=quote_len k
  have ht:=quote_len t
  have hlt : (ltx kd t).length ≤ 6 * t.length + 7:=by
   unfold ltx
   repeat' split
   all_goals try simp only [List.length_cons,List.length_nil]
   all_goals omega
  have hc : (if first then ([] : Bs) else [44]).length ≤ 1:=by split <;> simp
  have hq : (if ob then quote k ++ [58] else ([] : Bs)).length ≤ 6 * k.length + 3:=by
   split
   ·simp only [List.length_append,List.length_cons,List.length_nil]
    omega
   ·simp
  simp only [F.out,F.flat,List.length_append,List.length_cons]
  omega
 | .node k kd ks r,ob,first,h => by
  have ih:=out_bound r ob false (fun x hx => h x (by simp [F.flat,hx]))
  have ihk : ∀ b,(ks.out b true).length ≤ 3000 * ks.flat.length:=fun b => out_bound ks b true (fun x hx => h x (by simp [F.flat,hx]))
  have h1:=h ⟨kd,(ks.flat.length + 1 : Nat),(ks.count : Nat),str k,str []⟩ (by simp [F.flat])
  simp only [str_size] at h1
  have hk:=quote_len k
  have hc : (if first then ([] : Bs) else [44]).length ≤ 1:=by split <;> simp
  have hq : (if ob then quote k ++ [58] else ([] : Bs)).length ≤ 6 * k.length + 3:=by
   split
   ·simp only [List.length_append,List.length_cons,List.length_nil]
    omega
   ·simp
  have hn : (if kd = 7 then 123 :: (ks.out true true ++ [125]) else 91 :: (ks.out false true ++ [93])).length ≤ 3000 * ks.flat.length + 2:=by
   have a:=ihk true
   have b:=ihk false
   split
   ·simp only [List.length_append,List.length_cons,List.length_nil]
    omega
   ·simp only [List.length_append,List.length_cons,List.length_nil]
    omega
  simp only [F.out,F.flat,List.length_append,List.length_cons]
  omega
end Go.Proofs.YtadfkeipcebmfaaDoor.Pure
namespace Go.Proofs.YtadfkeipcebmfaaDoor.Pure
open Go.RowKit Go.Proofs.YtadfkeipcebmfaaDoor.X Go.Proofs.YtadfkeipcebmfaaDoorW.PrintWords Go.Proofs.YtadfkeipcebmfaaDoorW.PrintMore
set_option linter.unusedVariables false
set_option linter.unusedSimpArgs false
theorem few_same (l : List (S46)) (h : Few l) (k : Nat) (hk : 200 ≤ k) : racewaylaw25_few.f k l = some l:=by
 obtain ⟨hlen,hx⟩:=h
 have mi : ∀ a : Int,0 ≤ a → a ≤ 200 → mn a 200 = a:=by
  intro a h0 h1
  unfold mn
  split <;> omega
 have : ∀ (d i k : Nat),i + d = l.length → d + 1 ≤ k → racewaylaw25_few.l0 k l (l.take i) (i : Int) = some l:=by
  intro d
  induction d with
  | zero =>
   intro i k hi hk
   obtain ⟨k,rfl⟩ : ∃ k',k = k' + 1:=⟨k - 1,by omega⟩
   rw [racewaylaw25_few.l0,if_neg (by omega),List.take_of_length_le (by omega)]
  | succ d ih =>
   intro i k hi hk
   obtain ⟨k,rfl⟩ : ∃ k',k = k' + 1:=⟨k - 1,by omega⟩
   obtain ⟨x,r,hd⟩ : ∃ x r,l.drop i = x :: r:=⟨_,_,List.drop_eq_getElem_cons (show i < l.length by omega)⟩
   obtain ⟨e1,e2,e3,e4⟩:=rd_cast l i x r hd
   obtain ⟨⟨s3,s4⟩,_⟩:=hx x e4
   have m3:=mi (x.f3.size : Int) (by omega) (by omega)
   have m4:=mi (x.f4.size : Int) (by omega) (by omega)
   have t1 : l.take i ++ [x] = l.take (i + 1):=by
    rw [List.take_add_one,List.getElem?_eq_getElem (show i < l.length by omega)]
    have : l[i]'(by omega) = x:=by
     rw [List.drop_eq_getElem_cons (show i < l.length by omega)] at hd
     injection hd
    rw [this]
    rfl
   have ex : ∀ b : ByteArray,b.extract 0 ((b.size : Int)).toNat = b:=by
    intro b
    rw [Int.toNat_natCast]
    simp
   rw [racewaylaw25_few.l0,if_pos (by omega),if_pos (by omega),if_pos (by omega),e1,m3,m4,if_pos (by omega),if_pos (by omega),if_pos (by omega),if_pos (by omega),if_pos (by rw [List.length_take];omega),ex,ex]
   have eta : (⟨x.f0,x.f1,x.f2,x.f3,x.f4⟩ : S46) = x:=rfl
   rw [eta,t1,w64v (by omega) (by omega),show ((i : Int) + 1) = ((i + 1 : Nat) : Int) by omega]
   exact ih (i + 1) k (by omega) (by omega)
 exact this l.length 0 k (by omega) (by omega)
theorem JsontextTrees (l0 : List (S46)) (a1 : Int) (a2 : ByteArray) (hm : l0.length ≤ maxLen ∧ ∀ x ∈ l0,(Lit.int .i64 x.f0).wf = true ∧ (Lit.int .i64 x.f1).wf = true ∧ (Lit.int .i64 x.f2).wf = true) (w1 : (Lit.int .i64 a1).wf = true) : ∃ k,racewaylaw25_JsontextTrees.f k l0 a1 a2 = some true:=by
 refine ⟨14000000,?_⟩
 obtain ⟨m0,m1,m2⟩:=mn_lim (a2.size : Int) 100 (by omega) (by omega)
 obtain ⟨l,hl,hfew⟩:=few_is l0 hm.2 14000000 (by omega)
 have hfit:=few_fit hfew
 have hlen:=hfew.1
 unfold racewaylaw25_JsontextTrees.f
 rw [hl,Option.bind_some,if_pos m0,if_pos m1,few_same l hfew 14000000 (by omega),Option.bind_some]
 generalize hK : a2.extract 0 ((mn (a2.size : Int) 100) : Int).toNat = key
 have hC:=Check_law l hfit 14000000 (by omega)
 have hR:=rCheck_law l hfit (by omega) 14000000 (by omega)
 obtain ⟨L,g1,g2,g3⟩:=kids_both l hfit (by omega) a1 14000000 (by omega)
 obtain ⟨n,g4,g5⟩:=get_both l hfit (by omega) a1 key 14000000 (by omega)
 obtain ⟨S,g6,g7,g8⟩:=sub_both l hfit (by omega) a1 14000000 (by omega)
 have hPr : ∃ t e,jsontext_Print.f l = some (t,e) ∧ racewayref25_Print.f 14000000 l = some (t,e):=by
  unfold jsontext_Print.f
  rw [if_pos hfit,racewayref25_Print.f,hR]
  cases ht : tree? l with
  | none => exact ⟨⟨#[]⟩,2,rfl,rfl⟩
  | some t =>
   obtain ⟨e1,e2,e3⟩:=tree_flat ht
   have hb:=out_bound t false true (fun x hx => (hfew.2 x (e1 ▸ hx)).1)
   have hlen2:=hlen
   rw [e1] at hlen2
   have hb2 : t.txt.length ≤ 3000 * t.flat.length:=hb
   have hw:=writ_tree l hfit (by omega) e2 e3 [] 0 14000000 (by rw [List.drop_zero,List.append_nil];exact e1) (by omega) (by omega)
   refine ⟨str t.txt,0,?_,?_⟩
   ·simp only
    rw [if_pos (by omega)]
   ·have hw2 : racewayref25_written.f 14000000 l 0 = some (str t.txt):=hw
    show ((some (0 : Int)).bind fun t382 => (if t382 = 0 then ((racewayref25_written.f 14000000 l 0).bind fun t383 => (some (t383,(0 : Int)))) else (some ((⟨#[]⟩ : ByteArray),t382)))) = _
    rw [Option.bind_some,if_pos rfl,hw2]
    rfl
 obtain ⟨t,e,p1,p2⟩:=hPr
 have sn:=same_nums L g1.2.1 14000000 (by have:=g1.2.1;omega)
 have ss:=same_self S (by omega) 14000000 (by omega)
 have sl:=same_self l (by omega) 14000000 (by omega)
 rw [p1,Option.bind_some,p2,Option.bind_some,hC,Option.bind_some,hR,Option.bind_some,if_pos rfl,if_pos rfl,if_pos rfl,g2,Option.bind_some,g3,Option.bind_some,sn,Option.bind_some,if_pos rfl,g4,Option.bind_some,g5,Option.bind_some,if_pos rfl,g7,Option.bind_some,g8,Option.bind_some,ss,Option.bind_some,if_pos rfl,sl,Option.bind_some,if_pos rfl,works_true]
 rfl
end Go.Proofs.YtadfkeipcebmfaaDoor.Pure
namespace Go.Proofs.YtadfkeipcebmfaaDoor.X
open Go.RowKit Go.Proofs.YtadfkeipcebmfaaDoorW.PrintWords Go.Proofs.YtadfkeipcebmfaaDoorW.PrintLast Go.Proofs.YtadfkeipcebmfaaDoorW.PrintMore
open Go.Deep Go.ChangeShapes Go.WideShapes
set_option linter.unusedVariables false
set_option linter.unusedSimpArgs false
theorem cells9 : Tryd.prog.cellsOf 9 = 1:=by kernel_rfl
theorem cells46 : Tryd.prog.cellsOf 46 = 5:=by kernel_rfl
theorem cells3 : Tryd.prog.cellsOf 3 = 1:=by kernel_rfl
instance : Inhabited (S46):=⟨z46⟩
set_option maxRecDepth 100000 in
theorem open_nodes {H : Type} {enc : TypeId × Value → H} {W : World} {A : Option Addr} {len cap : Nat} {d : DataW H} {p : List MemPlace} (h : DataW.Trod enc Tryd.prog W 0 (fun _ => true) true 22 (.slice A len cap) d p) :
  ∃ l : List (S46),l.length = len ∧ Kd.C k46 W A l.length l ∧ l.length ≤ cap ∧ (l.length ≤ maxLen ∧ ∀ x ∈ l,(Lit.int .i64 x.f0).wf = true ∧ (Lit.int .i64 x.f1).wf = true ∧ (Lit.int .i64 x.f2).wf = true):=by
 obtain ⟨fuel,hf⟩:=h
 rcases open_slice Tryd.underlying22 hf with ⟨hcs,_⟩|⟨a,l,c,m,n,D,Pl,hcs,_,hl,hm,hmm,_,hx⟩
 ·simp [Value.cells] at hcs
  obtain ⟨rfl,rfl,rfl⟩:=hcs
  exact ⟨[],rfl,⟨rfl,by simp,fun h => absurd h (by simp)⟩,Nat.le_refl _,Nat.zero_le _,by simp⟩
 ·simp [Value.cells] at hcs
  obtain ⟨rfl,rfl,rfl⟩:=hcs
  simp only [if_true] at hmm
  have each : ∀ i,i < len → ∃ x : S46,(W.cell? (a.add (i * 5)) = some (.int .i64 x.f0) ∧ W.cell? (a.add (i * 5 + 1)) = some (.int .i64 x.f1) ∧ W.cell? (a.add (i * 5 + 2)) = some (.int .i64 x.f2) ∧ W.cell? (a.add (i * 5 + 3)) = some (.string x.f3) ∧ W.cell? (a.add (i * 5 + 4)) = some (.string x.f4)) ∧ ((Lit.int .i64 x.f0).wf = true ∧ (Lit.int .i64 x.f1).wf = true ∧ (Lit.int .i64 x.f2).wf = true):=by
   intro i hi
   obtain ⟨cs',h1,h2⟩:=hx i (by omega)
   rw [cells46] at h1
   obtain ⟨_,hlen,hcell⟩:=World.cells?_some h1
   obtain ⟨xs,k,hk,hxy,_,hxl,hf⟩:=DataW.trod_struct Tryd.underlying46 h2
   match xs,hxl,cs',hlen with
   | [y0,y1,y2,y3,y4],_,[v0,v1,v2,v3,v4],_ =>
    have g0:=hf 0 _ rfl
    have g1:=hf 1 _ rfl
    have g2:=hf 2 _ rfl
    have g3:=hf 3 _ rfl
    have g4:=hf 4 _ rfl
    simp [cells9,cells3] at g0 g1 g2 g3 g4
    obtain ⟨n0,e0,_,w0⟩:=DataW.trod_int Tryd.underlying3 g0
    obtain ⟨n1,e1,_,w1⟩:=DataW.trod_int Tryd.underlying3 g1
    obtain ⟨n2,e2,_,w2⟩:=DataW.trod_int Tryd.underlying3 g2
    obtain ⟨s3,e3,_,_⟩:=DataW.trod_string Tryd.underlying9 g3
    obtain ⟨s4,e4,_,_⟩:=DataW.trod_string Tryd.underlying9 g4
    have c0:=hcell 0 (by omega)
    have c1:=hcell 1 (by omega)
    have c2:=hcell 2 (by omega)
    have c3:=hcell 3 (by omega)
    have c4:=hcell 4 (by omega)
    rw [Go.Deep.add_add] at c0 c1 c2 c3 c4
    simp at e0 e1 e2 e3 e4 c0 c1 c2 c3 c4
    subst e0 e1 e2 e3 e4
    exact ⟨⟨n0,n1,n2,s3,s4⟩,⟨c0,c1,c2,c3,c4⟩,w0,w1,w2⟩
  obtain ⟨q,hq⟩:=choose_lt each
  have hlen : ((List.range len).map q).length = len:=by simp
  refine ⟨(List.range len).map q,hlen,⟨rfl,?_,fun _ => ⟨a,rfl,fun j x hj => ?_⟩⟩,by omega,by omega,fun x hx2 => ?_⟩
  ·rw [hlen];have : cap ≤ maxLen:=hm;unfold maxLen at this;omega
  ·have hjl : j < len:=by
    have:=(List.getElem?_eq_some_iff.1 hj).1
    simpa using this
   have hx : q j = x:=by
    rw [List.getElem?_map,List.getElem?_range hjl] at hj
    simpa using hj
   subst hx
   obtain ⟨⟨c0,c1,c2,c3,c4⟩,_⟩:=hq j hjl
   refine ⟨[.int .i64 (q j).f0,.int .i64 (q j).f1,.int .i64 (q j).f2,.string (q j).f3,.string (q j).f4],rfl,k46_mk W (q j),fun i u hu => ?_⟩
   match i,hu with
   | 0,hu => simp at hu;subst hu;exact c0
   | 1,hu => simp at hu;subst hu;exact c1
   | 2,hu => simp at hu;subst hu;exact c2
   | 3,hu => simp at hu;subst hu;exact c3
   | 4,hu => simp at hu;subst hu;exact c4
  ·simp only [List.mem_map,List.mem_range] at hx2
   obtain ⟨j,hj,rfl⟩:=hx2
   exact (hq j hj).2
end Go.Proofs.YtadfkeipcebmfaaDoor.X
