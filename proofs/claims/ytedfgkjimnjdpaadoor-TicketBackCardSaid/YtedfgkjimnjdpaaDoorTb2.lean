/-
  What the claim's law rests on, part 2 of 6: printed walks, externals, plain lemmas; conditions: none of its own.
-/
import Derived.ArgAppend
import Derived.Below
import Derived.BigQuiet
import Derived.Deep.AppendLies
import Derived.Deep.CutBlock
import Derived.Deep.DeepCutAuto
import Derived.Deep.Draws
import Derived.Deep.LoopGhost
import Derived.Deep.OwnRows
import Derived.Deep.QuietTactic
import Derived.Deep.RegionHeld3
import Derived.IntWalk
import Derived.KernelRfl
import Derived.Laws.BitsLemmas
import Derived.Laws.BytesArg
import Derived.Laws.IdiomCopy
import Derived.Laws.MakeOwn
import Derived.Laws.OwnMore
import Derived.Laws.Rows
import Derived.Laws.Slices
import Derived.Lib.AppendStr
import Derived.Lib.AppendZeros
import Derived.Lib.ConvBytes
import Derived.Lib.Hide
import Derived.Lib.ItoaLen
import Derived.Lib.ItoaNum
import Derived.Lib.SliceRun
import Derived.LoopIn
import Derived.LoopNIn
import Derived.Maps.AppendAt
import Derived.OrdersHeld
import Derived.OwnWalk
import Derived.OwnWalkIn
import Derived.RangeFuncBound
import Derived.RangeFuncCalls
import Derived.RangeFuncLeaves
import Derived.RangeFuncNested
import Derived.RowKit
import Derived.RowKit3
import Derived.Shelf.Abstract
import Derived.Shelf.Bits.Mul64
import Derived.Shelf.LaysM
import Derived.Shelf.RegionOpen
import Derived.Shelf.Small.Strs
import Derived.Shelf.Small.Utf8
import Derived.Shelf.Small.Wraps
import Derived.Shelf.Strings.AsciiSet
import Derived.Shelf.Strings.Builder1
import Derived.Shelf.Strings.Builder2
import Derived.Shelf.Strings.Builder2Cap
import Derived.Shelf.Strings.BuilderCap
import Derived.Shelf.Strings.BuilderF
import Derived.Shelf.Strings.BuilderK
import Derived.Shelf.Strings.Count
import Derived.Shelf.Strings.Explode
import Derived.Shelf.Strings.OnBuilder
import Derived.Shelf.Strings.Prefix
import Derived.Shelf.Strings.Repeat
import Derived.Shelf.Strings.RuneCount
import Derived.Shelf.Strings.Runes
import Derived.Shelf.Strings.Search1
import Derived.Shelf.Strings.Search2
import Derived.Shelf.Strings.Search3
import Derived.Shelf.Strings.Shaped
import Derived.Shelf.Strings.Split
import Derived.Shelf.Strings.SplitShaped
import Derived.Shelf.Strings.Trim
import Derived.Shelf.Unicode.Decode
import Derived.Shelf.Utf8.RuneCount
import Derived.Tactics
import Derived.TacticsInMore
import Derived.Test.YtedfgkjimnjdpaaDoorProg
import Derived.WalkKit
import Derived.WalkLawsBesides
import Derived.WalkSpells
import Derived.WideLaws
import Derived.Test.YtedfgkjimnjdpaaDoorTb1
namespace Go.Proofs.YtedfgkjimnjdpaaDoor.X
open Go.RowKit Go.Proofs.YtedfgkjimnjdpaaDoorW.PrintWords Go.Proofs.YtedfgkjimnjdpaaDoorW.PrintLast Go.Proofs.YtedfgkjimnjdpaaDoorW.PrintMore
attribute [local go_sem] max2_int min2_int max_two min_two max_three min_three max_four min_four
set_option linter.unusedVariables false
set_option linter.unusedSimpArgs false
def errW : Option Int → Value
 | none => .nilIface
 | some c => .iface 0 (.int .i64 c)
theorem errW_none : errW none = .nilIface:=rfl
theorem errW_some (c : Int) : errW (some c) = .iface 0 (.int .i64 c):=rfl
theorem info5 : (Tryd.prog.info? 5).map (fun i => (i.zero,i.size,i.bytes)) = some (some (.int .u8 0),1,1):=by kernel_rfl
end Go.Proofs.YtedfgkjimnjdpaaDoor.X
namespace Go.Proofs.YtedfgkjimnjdpaaDoor.X
open Go.RowKit Go.Proofs.YtedfgkjimnjdpaaDoorW.PrintWords Go.Proofs.YtedfgkjimnjdpaaDoorW.PrintLast Go.Proofs.YtedfgkjimnjdpaaDoorW.PrintMore
attribute [local go_sem] max2_int min2_int max_two min_two max_three min_three max_four min_four
set_option linter.unusedVariables false
set_option linter.unusedSimpArgs false
def rd_L3 (xs : List (List Int)) (i : Int) : (List Int):=xs.getD i.toNat ([] : List Int)
theorem at_L3 {w : World} {A : Option Addr} {n : Nat} {xs : List (List Int)} (h : Kd.C (Kd.slice 5 (Kd.int .u8)) w A n xs) (i : Int) (h0 : 0 ≤ i) (h1 : i < n) : ∃ ad A0 c0,A = some ad ∧ w.cell? (ad.add i.toNat) = some (.slice A0 (rd_L3 xs i).length c0) ∧ (rd_L3 xs i).length ≤ c0 ∧ (Kd.int .u8).C w A0 (rd_L3 xs i).length (rd_L3 xs i):=by
 obtain ⟨ad,c,e,_,hK,hc0⟩:=Kd.C_get h ([] : List Int) i h0 h1
 have hc : ∀ j u,c[j]? = some u → w.cell? (ad.add (i.toNat * 1 + j)) = some u:=hc0
 obtain ⟨A0,c0,rfl,l0,g0⟩:=hK
 exact ⟨ad,A0,c0,e,by have hq:=hc 0 _ rfl;rwa [Nat.mul_one,Nat.add_zero] at hq,l0,g0⟩
end Go.Proofs.YtedfgkjimnjdpaaDoor.X
namespace Go.Proofs.YtedfgkjimnjdpaaDoor.X
open Go.RowKit Go.Proofs.YtedfgkjimnjdpaaDoorW.PrintWords Go.Proofs.YtedfgkjimnjdpaaDoorW.PrintLast Go.Proofs.YtedfgkjimnjdpaaDoorW.PrintMore
attribute [local go_sem] max2_int min2_int max_two min_two max_three min_three max_four min_four
set_option linter.unusedVariables false
set_option linter.unusedSimpArgs false
theorem eqA39 (d : Nat) (w : World) (x0 y0 : Int) (x1 y1 : ByteArray) (x2 y2 : Int) (x3 y3 : Int) :
  (Op.equalIn (d + 2) 39 (.agg #[.int .i64 x0,.string x1,.int .i64 x2,.int .i64 x3]) (.agg #[.int .i64 y0,.string y1,.int .i64 y2,.int .i64 y3])).run Tryd.prog w = .ok (x0 == y0 && (x1.toList == y1.toList && (x2 == y2 && (x3 == y3)))) w:=by
 refine eqA_of Tryd.underlying39 (by kernel_rfl) ?_
 refine eqf_cons (by rfl) (by go_simp;rfl) (by go_simp;rfl) (by go_simp) ?_
 refine eqf_cons (by rfl) (by go_simp;rfl) (by go_simp;rfl) (by go_simp) ?_
 refine eqf_cons (by rfl) (by go_simp;rfl) (by go_simp;rfl) (by go_simp) ?_
 exact eqf_last (by rfl) (by go_simp;rfl) (by go_simp;rfl) (by go_simp)
end Go.Proofs.YtedfgkjimnjdpaaDoor.X
namespace Go.Proofs.YtedfgkjimnjdpaaDoor.X
open Go.RowKit Go.Proofs.YtedfgkjimnjdpaaDoorW.PrintWords
set_option linter.unusedVariables false
set_option linter.unusedSimpArgs false
structure ItoaInv (u k v : Nat) (d : List Int) : Prop where
 len : d.length = 20
 le : k ≤ 20
 pos : 2 ≤ k
 rest : v = u / 10 ^ (20 - k)
 more : k = 20 ∨ v ≠ 0
 small : v < 10 ^ (k - 1)
 done : ∀ t,k ≤ t → t < 20 → d.getD t 0 = ((Lib.dg u (19 - t)).toNat : Int)
theorem ItoaInv.start {u : Nat} (h : u < 10 ^ 19) (d : List Int) (hd : d.length = 20) : ItoaInv u 20 u d :=
 ⟨hd,Nat.le_refl _,by omega,by simp,.inl rfl,h,fun t h1 h2 => by omega⟩
theorem itoa_digit (v : Nat) : ((UInt8.ofNat (48 + v % 10)).toNat : Int) = 48 + (v : Int) % 10:=by
 rw [UInt8.toNat_ofNat']
 omega
theorem getD_set_same {d : List Int} {i : Nat} {x : Int} (h : i < d.length) : (d.set i x).getD i 0 = x:=by
 simp [List.getD_eq_getElem?_getD,h]
theorem getD_set_other {d : List Int} {i j : Nat} {x : Int} (h : j ≠ i) : (d.set i x).getD j 0 = d.getD j 0:=by
 simp [List.getD_eq_getElem?_getD,Ne.symm h]
theorem ItoaInv.digit {u k v : Nat} {d : List Int} (h : ItoaInv u k v d) : ∀ t,k - 1 ≤ t → t < 20 → (d.set (k - 1) (48 + (v : Int) % 10)).getD t 0 = ((Lib.dg u (19 - t)).toNat : Int):=by
 intro t h1 h2
 have hp:=h.pos
 have hl:=h.le
 by_cases e : t = k - 1
 ·subst e
  rw [getD_set_same (by rw [h.len];omega)]
  unfold Lib.dg
  rw [show 19 - (k - 1) = 20 - k by omega,← h.rest,itoa_digit]
 ·rw [getD_set_other e]
  exact h.done t (by omega) h2
theorem ItoaInv.next {u k v : Nat} {d : List Int} (h : ItoaInv u k v d) (hv : v / 10 ≠ 0) : ItoaInv u (k - 1) (v / 10) (d.set (k - 1) (48 + (v : Int) % 10)):=by
 have hp:=h.pos
 have hl:=h.le
 have hs:=h.small
 have hk3 : 3 ≤ k:=by
  rcases Nat.lt_or_ge k 3 with h3|h3
  ·have : k = 2:=by omega
   subst this
   have : v < 10:=by simpa using hs
   omega
  ·exact h3
 refine ⟨by simp [h.len],by omega,by omega,?_,.inr hv,?_,h.digit⟩
 ·rw [h.rest,Nat.div_div_eq_div_mul,show 20 - (k - 1) = 20 - k + 1 by omega,Nat.pow_succ]
 ·rw [show k - 1 = k - 1 - 1 + 1 by omega,Nat.pow_succ,Nat.mul_comm] at hs
  exact Nat.div_lt_of_lt_mul hs
theorem ItoaInv.digits {u k v : Nat} {d : List Int} (h : ItoaInv u k v d) (hv : v / 10 = 0) : Lib.nDigits u = 21 - k:=by
 have hp:=h.pos
 have hl:=h.le
 have h1 : u < 10 ^ (21 - k):=by
  have hr:=h.rest
  rw [hr,Nat.div_div_eq_div_mul,← Nat.pow_succ,show (20 - k).succ = 21 - k by omega] at hv
  exact (Nat.div_eq_zero_iff.mp hv).resolve_left (by have:=Nat.pow_pos (n:=21 - k) (show 0 < 10 by omega);omega)
 rcases h.more with e|e
 ·subst e
  exact Lib.nDigits_small (by simpa using h1)
 ·rw [Lib.nDigits_unique (20 - k) u ?_ (by rw [show 20 - k + 1 = 21 - k by omega];exact h1)]
  ·omega
  ·rw [h.rest] at e
   rcases Nat.lt_or_ge u (10 ^ (20 - k)) with hh|hh
   ·exact absurd (Nat.div_eq_of_lt hh) e
   ·exact hh
theorem ItoaInv.result {u k v : Nat} {d : List Int} (h : ItoaInv u k v d) (hv : v / 10 = 0) :
  (d.set (k - 1) (48 + (v : Int) % 10)).drop (k - 1) = (Lib.decDigits u).map fun b => (b.toNat : Int):=by
 have hp:=h.pos
 have hl:=h.le
 have hn:=h.digits hv
 apply List.ext_getElem?
 intro i
 rw [Lib.decDigits_eq,hn,List.getElem?_drop]
 by_cases hi : i < 21 - k
 ·have:=h.digit (k - 1 + i) (by omega) (by omega)
  rw [List.getD_eq_getElem?_getD,List.getElem?_eq_getElem (by simp [h.len];omega)] at this
  rw [List.getElem?_eq_getElem (by simp [h.len];omega)]
  simp only [List.map_map,List.getElem?_map,List.getElem?_range hi,Option.map_some,Function.comp]
  simp only [Option.getD_some] at this
  rw [this,show 19 - (k - 1 + i) = 21 - k - 1 - i by omega]
 ·rw [List.getElem?_eq_none (by simp [h.len];omega),List.getElem?_eq_none (by simp;omega)]
theorem ItoaInv.resultN {u k v : Nat} {d : List Int} (h : ItoaInv u k v d) (hd : d.length = 20) (hv : v / 10 = 0) :
  ((d.set (k - 1) (48 + (v : Int) % 10)).set (k - 2) 45).drop (k - 2) = 45 :: (Lib.decDigits u).map fun b => (b.toNat : Int):=by
 have hp:=h.pos
 have hl:=h.le
 rw [← h.result hv]
 rw [List.drop_eq_getElem_cons (by simp [hd];omega),List.getElem_set_self,show k - 2 + 1 = k - 1 by omega,List.drop_set,if_pos (by omega)]
theorem strOfNums_map (l : List UInt8) : strOfNums (l.map fun b => (b.toNat : Int)) = ⟨l.toArray⟩:=by
 unfold strOfNums
 congr 1
 congr 1
 rw [List.map_map]
 conv => rhs;rw [← List.map_id l]
 apply List.map_congr_left
 intro b _
 simp
end Go.Proofs.YtedfgkjimnjdpaaDoor.X
namespace Go.Proofs.YtedfgkjimnjdpaaDoor.X
open Go.RowKit Go.Proofs.YtedfgkjimnjdpaaDoorW.PrintWords
set_option linter.unusedVariables false
set_option linter.unusedSimpArgs false
theorem itoa_arr : Tryd.prog.underlying 131 = some (.array (Tryd.prog.arrayLen 131) (Tryd.prog.elem 131)):=by kernel_rfl
theorem itoa_len : Tryd.prog.arrayLen 131 = 20:=by kernel_rfl
theorem itoa_size (W : World) : (sizeOf (Tryd.prog.elem 131)).run Tryd.prog W = .ok 1 W:=by kernel_rfl
theorem itoa_slice (B : Nat) (k : Int) (h0 : 0 ≤ k) (h1 : k ≤ 19) (W : World) :
  (Instr.sliceAt 131 (.pointer (some ⟨B,0,none⟩)) (some (.int .i64 k)) none none).run Tryd.prog W = .ok (.slice (some ⟨B,k.toNat,none⟩) (20 - k.toNat) (20 - k.toNat)) W:=by
 rw [run_sliceAt_array_l W 131 ⟨B,0,none⟩ itoa_arr .i64 k h0 (by rw [itoa_len];omega),itoa_size,itoa_len]
 simp only [Result.andThen,slicedAt]
 rw [if_neg (by omega)]
 unfold Addr.add
 split
 ·rename_i hz
  have : k.toNat = 0:=by omega
  rw [this]
 ·simp
theorem itoa_conv (B p : Nat) (d : List Int) (hl : d.length = 20) (hp : p < 20) (W : World) (hb : W.heap[B]? = some (.cells (nums .u8 d).toArray 131 (0,0))) :
  (convert 49 9 (.slice (some ⟨B,p,none⟩) (20 - p) (20 - p))).run Tryd.prog W = .ok (.string (strOfNums (d.drop p))) W:=by
 refine string_of_reads Tryd.underlying49 Tryd.underlying5 Tryd.underlying9 ⟨by rw [List.length_drop,hl],by omega,fun _ => ⟨_,rfl,fun j hj => ?_⟩⟩
 have:=blk_cell hb (p + j)
 have e : (Addr.add ⟨B,p,none⟩ j) = ⟨B,p + j,none⟩:=by unfold Addr.add;split <;> simp_all
 rw [e,this]
 simp only [nums,List.getElem?_toArray,List.getElem?_map,List.getD_eq_getElem?_getD,List.getElem?_drop]
 rw [List.getElem?_eq_getElem (by omega)]
 rfl
theorem itoa_set (d : List Int) (j : Nat) (x : Int) : (nums .u8 d).toArray.setIfInBounds j (.int .u8 x) = (nums .u8 (d.set j x)).toArray:=by
 simp [nums,List.map_set]
theorem ret_str {a b : ByteArray} (h : a = b) : Ending.returned (.string a) = .returned (.string b):=by rw [h]
set_option maxHeartbeats 1000000 in
set_option maxRecDepth 100000 in
theorem itoa_pos (n : Int) (h0 : 0 ≤ n) (h1 : n ≤ 9223372036854775807) (w : World) : Calls Tryd.prog 60 #[.int .i64 n] w fun e w' => e = .returned (.string ⟨(Lib.decDigits n.toNat).toArray⟩) ∧ Below w.heap.size w w':=by
 have hd : decide (n < 0) = false:=by simpa using h0
 go_enter Tryd.func60,Tryd.ntmps60
 go_wp2
 go_loopw [4,5] (fun i x wr => ∃ (k v : Nat) (d : List Int),i = .int .i64 k ∧ x = .int .u64 v ∧ wr.heap[w.heap.size]? = some (.cells (nums .u8 d).toArray 131 (0,0)) ∧ ItoaInv n.toNat k v d ∧ Below w.heap.size w wr)
  (fun i _ _ => (intOf i).toNat)
 case atStart => exact ⟨20,n.toNat,List.replicate 20 0,rfl,by rw [Int.toNat_of_nonneg h0],heap_alloc_new w _,ItoaInv.start (by omega) _ (by simp),(Below.refl _ _).alloc (Nat.le_refl _) _⟩
 case round =>
  obtain ⟨k,v,d,rfl,rfl,hb,hinv,hbel⟩:=hrel
  have hk1:=hinv.pos
  have hk2:=hinv.le
  have hlen:=hinv.len
  have hv0 : (0 : Int) ≤ (v : Int):=by omega
  have hv1 : (v : Int) ≤ 18446744073709551615:=by
   have:=Nat.div_le_self n.toNat (10 ^ (20 - k))
   have:=hinv.rest
   omega
  have hcell : wr.cell? ⟨w.heap.size,k - 1,none⟩ = some (.int .u8 (d.getD (k - 1) 0)):=by
   rw [blk_cell hb]
   simp only [nums,List.getElem?_toArray,List.getElem?_map,List.getD_eq_getElem?_getD]
   rw [List.getElem?_eq_getElem (by omega)]
   rfl
  have hfr : wr.frozen? ⟨w.heap.size,k - 1,none⟩ = false:=blk_frozen hb _
  have hsl:=itoa_slice w.heap.size ((k : Int) - 1) (by omega) (by omega)
  have hb2 : (wr.setCell ⟨w.heap.size,k - 1,none⟩ (.int .u8 (48 + (v : Int) % 10))).heap[w.heap.size]? = some (.cells (nums .u8 (d.set (k - 1) (48 + (v : Int) % 10))).toArray 131 (0,0)):=by
   rw [← itoa_set];exact blk_set hb _ _
  have hcv:=itoa_conv w.heap.size (k - 1) _ (by rw [List.length_set];exact hlen) (by omega) _ hb2
  rw [show ((k : Int) - 1).toNat = k - 1 by omega] at hsl
  have hB2:=Lib.hid hb2
  have hB:=Lib.hid hb
  have hL:=Lib.hid hlen
  clear hb2 hb hlen
  by_cases hv : v / 10 = 0
  ·have hq : ((v : Int) / 10 == 0) = true:=by simp;omega
   go_wp2
   go_ret
   exact ⟨ret_str (by rw [hinv.result hv,strOfNums_map]),hbel.setCell (by simp) _⟩
  ·have hq : ((v : Int) / 10 == 0) = false:=by simp;omega
   go_wp2
   go_roundw
   case rel => exact ⟨k - 1,v / 10,_,by rw [show ((k - 1 : Nat) : Int) = (k : Int) - 1 by omega],by rw [show ((v / 10 : Nat) : Int) = (v : Int) / 10 by omega],hB2.out,hinv.next hv,hbel.setCell (by simp) _⟩
   case measure => simp [intOf];omega
set_option maxHeartbeats 1000000 in
set_option maxRecDepth 100000 in
theorem itoa_neg (m : Nat) (h0 : 0 < m) (h1 : m ≤ 9223372036854775808) (w : World) : Calls Tryd.prog 60 #[.int .i64 (-(m : Int))] w fun e w' => e = .returned (.string ⟨(45 :: Lib.decDigits m).toArray⟩) ∧ Below w.heap.size w w':=by
 have hd : decide (-(m : Int) < 0) = true:=by simp;omega
 have hw : IntKind.u64.wrap (-IntKind.u64.wrap (-(m : Int))) = (m : Int):=by unfold IntKind.wrap;simp [IntKind.signed,IntKind.bits];omega
 go_enter Tryd.func60,Tryd.ntmps60
 go_wp2
 go_loopw [4,5] (fun i x wr => ∃ (k v : Nat) (d : List Int),i = .int .i64 k ∧ x = .int .u64 v ∧ wr.heap[w.heap.size]? = some (.cells (nums .u8 d).toArray 131 (0,0)) ∧ ItoaInv m k v d ∧ Below w.heap.size w wr)
  (fun i _ _ => (intOf i).toNat)
 case atStart => exact ⟨20,m,List.replicate 20 0,rfl,rfl,heap_alloc_new w _,ItoaInv.start (by omega) _ (by simp),(Below.refl _ _).alloc (Nat.le_refl _) _⟩
 case round =>
  obtain ⟨k,v,d,rfl,rfl,hb,hinv,hbel⟩:=hrel
  have hk1:=hinv.pos
  have hk2:=hinv.le
  have hlen:=hinv.len
  have hv0 : (0 : Int) ≤ (v : Int):=by omega
  have hv1 : (v : Int) ≤ 18446744073709551615:=by
   have:=Nat.div_le_self m (10 ^ (20 - k))
   have:=hinv.rest
   omega
  have hcell : wr.cell? ⟨w.heap.size,k - 1,none⟩ = some (.int .u8 (d.getD (k - 1) 0)):=by
   rw [blk_cell hb]
   simp only [nums,List.getElem?_toArray,List.getElem?_map,List.getD_eq_getElem?_getD]
   rw [List.getElem?_eq_getElem (by omega)]
   rfl
  have hfr : wr.frozen? ⟨w.heap.size,k - 1,none⟩ = false:=blk_frozen hb _
  have hcell2 : wr.cell? ⟨w.heap.size,k - 1 - 1,none⟩ = some (.int .u8 (d.getD (k - 1 - 1) 0)):=by
   rw [blk_cell hb]
   simp only [nums,List.getElem?_toArray,List.getElem?_map,List.getD_eq_getElem?_getD]
   rw [List.getElem?_eq_getElem (by omega)]
   rfl
  have hfr2 : wr.frozen? ⟨w.heap.size,k - 1 - 1,none⟩ = false:=blk_frozen hb _
  have hsl:=itoa_slice w.heap.size ((k : Int) - 1 - 1) (by omega) (by omega)
  have hb2 : (wr.setCell ⟨w.heap.size,k - 1,none⟩ (.int .u8 (48 + (v : Int) % 10))).heap[w.heap.size]? = some (.cells (nums .u8 (d.set (k - 1) (48 + (v : Int) % 10))).toArray 131 (0,0)):=by
   rw [← itoa_set];exact blk_set hb _ _
  have hb3 : ((wr.setCell ⟨w.heap.size,k - 1,none⟩ (.int .u8 (48 + (v : Int) % 10))).setCell ⟨w.heap.size,k - 1 - 1,none⟩ (.int .u8 45)).heap[w.heap.size]? = some (.cells (nums .u8 ((d.set (k - 1) (48 + (v : Int) % 10)).set (k - 1 - 1) 45)).toArray 131 (0,0)):=by
   rw [← itoa_set];exact blk_set hb2 _ _
  have hcv:=itoa_conv w.heap.size (k - 1 - 1) _ (by rw [List.length_set,List.length_set];exact hlen) (by omega) _ hb3
  have hcell3 : (wr.setCell ⟨w.heap.size,k - 1,none⟩ (.int .u8 (48 + (v : Int) % 10))).cell? ⟨w.heap.size,k - 1 - 1,none⟩ = some (.int .u8 ((d.set (k - 1) (48 + (v : Int) % 10)).getD (k - 1 - 1) 0)):=by
   rw [blk_cell hb2]
   simp only [nums,List.getElem?_toArray,List.getElem?_map,List.getD_eq_getElem?_getD]
   rw [List.getElem?_eq_getElem (by rw [List.length_set];omega)]
   rfl
  have hfr3 : (wr.setCell ⟨w.heap.size,k - 1,none⟩ (.int .u8 (48 + (v : Int) % 10))).frozen? ⟨w.heap.size,k - 1 - 1,none⟩ = false:=blk_frozen hb2 _
  clear hb3
  rw [show ((k : Int) - 1 - 1).toNat = k - 1 - 1 by omega] at hsl
  have hB2:=Lib.hid hb2
  have hB:=Lib.hid hb
  have hL:=Lib.hid hlen
  clear hb2 hb hlen
  by_cases hv : v / 10 = 0
  ·have hq : ((v : Int) / 10 == 0) = true:=by simp;omega
   go_wp2
   go_ret
   exact ⟨ret_str (by rw [show k - 1 - 1 = k - 2 by omega,hinv.resultN hL.out hv];exact strOfNums_map (45 :: Lib.decDigits m)),(hbel.setCell (by simp) _).setCell (by simp) _⟩
  ·have hq : ((v : Int) / 10 == 0) = false:=by simp;omega
   go_wp2
   go_roundw
   case rel => exact ⟨k - 1,v / 10,_,by rw [show ((k - 1 : Nat) : Int) = (k : Int) - 1 by omega],by rw [show ((v / 10 : Nat) : Int) = (v : Int) / 10 by omega],hB2.out,hinv.next hv,hbel.setCell (by simp) _⟩
   case measure => simp [intOf];omega
def basic_Itoa.f (n : Int) : Option ByteArray:=if -9223372036854775808 ≤ n ∧ n ≤ 9223372036854775807 then some ⟨(Lib.itoa n).toArray⟩ else none
theorem basic_Itoa.calls (a0 : Int) (r : ByteArray) (w : World) (h : basic_Itoa.f a0 = some r) :
  Calls Tryd.prog 60 #[.int .i64 a0] w fun e w' => e = .returned (.string r) ∧ Below w.heap.size w w':=by
 unfold basic_Itoa.f at h
 split at h
 ·rename_i hh
  obtain rfl:=Option.some.inj h
  unfold Lib.itoa
  by_cases hn : a0 < 0
  ·rw [if_pos hn]
   obtain ⟨m,rfl⟩ : ∃ m : Nat,a0 = -(m : Int):=⟨a0.natAbs,by omega⟩
   rw [Int.natAbs_neg,Int.natAbs_natCast]
   exact itoa_neg m (by omega) (by omega) w
  ·rw [if_neg hn]
   exact itoa_pos a0 (by omega) hh.2 w
 ·exact absurd h (by simp)
end Go.Proofs.YtedfgkjimnjdpaaDoor.X
namespace Go.Proofs
open Go.Shelf
def Tryd.lays169_ren : Go.Shelf.Ren:=⟨fun|169 => 86|n => n,fun|70 => 110|9 => 9|0 => 0|72 => 112|37 => 49|127 => 149|3 => 3|5 => 5|n => n,fun|n => n⟩
theorem Tryd.lays169 : Go.Proofs.Lays.n169 Tryd.prog Tryd.lays169_ren:={
 mixed:=by kernel_rfl
 f169:=Tryd.func86.trans (congrArg some (by kernel_rfl))
 t0:=Tryd.underlying0
 a0:=Tryd.isAgg0
 z0:=Tryd.sizeOf0
 v0:=Tryd.zeroValue0
 t3:=Tryd.underlying3
 a3:=Tryd.isAgg3
 z3:=Tryd.sizeOf3
 v3:=Tryd.zeroValue3
 t9:=Tryd.underlying9
 a9:=Tryd.isAgg9
 z9:=Tryd.sizeOf9
 v9:=Tryd.zeroValue9
 t37:=Tryd.underlying49
 a37:=Tryd.isAgg49
 z37:=Tryd.sizeOf49
 v37:=Tryd.zeroValue49
 t70:=Tryd.underlying110
 a70:=Tryd.isAgg110
 z70:=Tryd.sizeOf110
 v70:=Tryd.zeroValue110
 t72:=Tryd.underlying112
 a72:=Tryd.isAgg112
 z72:=Tryd.sizeOf112
 v72:=Tryd.zeroValue112
 t127:=Tryd.underlying149
 a127:=Tryd.isAgg149
 z127:=Tryd.sizeOf149
 v127:=Tryd.zeroValue149 }
theorem Tryd.Builder_Extra_169 : Builder.Extra Tryd.prog Tryd.lays169_ren:={
 sizeBuilder:=by kernel_rfl
 liesBuilder:=by kernel_rfl
 t5:=Tryd.underlying5
 a5:=Tryd.isAgg5
 z5:=Tryd.sizeOf5
 v5:=Tryd.zeroValue5
 infoByte:=by kernel_rfl
 cellsByte:=by kernel_rfl
 sizeByte:=by kernel_rfl
 neB5:=by decide }
def Tryd.lays156_ren : Go.Shelf.Ren:=⟨fun|156 => 77|165 => 107|166 => 108|169 => 86|240 => 116|241 => 126|276 => 131|277 => 136|n => n,fun|31 => 30|9 => 9|3 => 3|4 => 4|0 => 0|20 => 20|72 => 112|76 => 142|70 => 110|37 => 49|75 => 120|127 => 149|164 => 161|5 => 5|80 => 122|n => n,fun|n => n⟩
theorem Tryd.lays156 : Go.Proofs.Lays.n156 Tryd.prog Tryd.lays156_ren:={
 mixed:=by kernel_rfl
 f156:=Tryd.func77.trans (congrArg some (by kernel_rfl))
 f165:=Tryd.func107.trans (congrArg some (by kernel_rfl))
 f166:=Tryd.func108.trans (congrArg some (by kernel_rfl))
 f169:=Tryd.func86.trans (congrArg some (by kernel_rfl))
 f240:=Tryd.func116.trans (congrArg some (by kernel_rfl))
 f241:=Tryd.func126.trans (congrArg some (by kernel_rfl))
 f276:=Tryd.func131.trans (congrArg some (by kernel_rfl))
 f277:=Tryd.func136.trans (congrArg some (by kernel_rfl))
 t0:=Tryd.underlying0
 a0:=Tryd.isAgg0
 z0:=Tryd.sizeOf0
 v0:=Tryd.zeroValue0
 t3:=Tryd.underlying3
 a3:=Tryd.isAgg3
 z3:=Tryd.sizeOf3
 v3:=Tryd.zeroValue3
 t4:=Tryd.underlying4
 a4:=Tryd.isAgg4
 z4:=Tryd.sizeOf4
 v4:=Tryd.zeroValue4
 t9:=Tryd.underlying9
 a9:=Tryd.isAgg9
 z9:=Tryd.sizeOf9
 v9:=Tryd.zeroValue9
 t20:=Tryd.underlying20
 a20:=Tryd.isAgg20
 z20:=Tryd.sizeOf20
 v20:=Tryd.zeroValue20
 t31:=Tryd.underlying30
 a31:=Tryd.isAgg30
 z31:=Tryd.sizeOf30
 v31:=Tryd.zeroValue30
 t37:=Tryd.underlying49
 a37:=Tryd.isAgg49
 z37:=Tryd.sizeOf49
 v37:=Tryd.zeroValue49
 t70:=Tryd.underlying110
 a70:=Tryd.isAgg110
 z70:=Tryd.sizeOf110
 v70:=Tryd.zeroValue110
 t72:=Tryd.underlying112
 a72:=Tryd.isAgg112
 z72:=Tryd.sizeOf112
 v72:=Tryd.zeroValue112
 t75:=Tryd.underlying120
 a75:=Tryd.isAgg120
 z75:=Tryd.sizeOf120
 v75:=Tryd.zeroValue120
 t76:=Tryd.underlying142
 a76:=Tryd.isAgg142
 z76:=Tryd.sizeOf142
 v76:=Tryd.zeroValue142
 t127:=Tryd.underlying149
 a127:=Tryd.isAgg149
 z127:=Tryd.sizeOf149
 v127:=Tryd.zeroValue149
 t164:=Tryd.underlying161
 a164:=Tryd.isAgg161
 z164:=Tryd.sizeOf161
 v164:=Tryd.zeroValue161 }
theorem Tryd.Builder_Extra_156 : Builder.Extra Tryd.prog Tryd.lays156_ren:={
 sizeBuilder:=by kernel_rfl
 liesBuilder:=by kernel_rfl
 t5:=Tryd.underlying5
 a5:=Tryd.isAgg5
 z5:=Tryd.sizeOf5
 v5:=Tryd.zeroValue5
 infoByte:=by kernel_rfl
 cellsByte:=by kernel_rfl
 sizeByte:=by kernel_rfl
 neB5:=by decide }
open Go.RowKit in
theorem Tryd.strings_Join_none (a : Option Addr) (c : Nat) (sep : ByteArray) (w : World) :
  Calls Tryd.prog 77 #[.slice a 0 c,.string sep] w fun e w' => e = .returned (.string ⟨#[]⟩) ∧ w' = w:=Any.strings_Join_none Tryd.lays156 Tryd.Builder_Extra_156 a c sep w
open Go.RowKit in
theorem Tryd.strings_Join (bk o c : Nat) (xs : List ByteArray) (sep : ByteArray) (w : World) (hcells : ∀ (j : Nat) x,xs[j]? = some x → w.cell? ⟨bk,o + j,none⟩ = some (.string x)) (hbk : bk < w.heap.size) (hN : xs.length ≤ 140737488355328) (hcap : xs.length ≤ c) (hlen : (Lib.join (xs.map (·.data.toList)) sep.data.toList).length ≤ 140737488355328) :
  Calls Tryd.prog 77 #[.slice (some ⟨bk,o,none⟩) xs.length c,.string sep] w fun e w' => e = .returned (.string ⟨(Lib.join (xs.map (·.data.toList)) sep.data.toList).toArray⟩) ∧ Below w.heap.size w w':=Any.strings_Join Tryd.lays156 Tryd.Builder_Extra_156 bk o c xs sep w hcells hbk hN hcap hlen
def Tryd.lays137_ren : Go.Shelf.Ren:=⟨fun|137 => 78|217 => 113|266 => 130|n => n,fun|9 => 9|5 => 5|3 => 3|n => n,fun|n => n⟩
theorem Tryd.lays137 : Go.Proofs.Lays.n137 Tryd.prog Tryd.lays137_ren:={
 mixed:=by kernel_rfl
 f137:=Tryd.func78.trans (congrArg some (by kernel_rfl))
 f217:=Tryd.func113.trans (congrArg some (by kernel_rfl))
 f266:=Tryd.func130.trans (congrArg some (by kernel_rfl))
 t3:=Tryd.underlying3
 a3:=Tryd.isAgg3
 z3:=Tryd.sizeOf3
 v3:=Tryd.zeroValue3
 t5:=Tryd.underlying5
 a5:=Tryd.isAgg5
 z5:=Tryd.sizeOf5
 v5:=Tryd.zeroValue5
 t9:=Tryd.underlying9
 a9:=Tryd.isAgg9
 z9:=Tryd.sizeOf9
 v9:=Tryd.zeroValue9 }
open Go.RowKit in
theorem Tryd.strings_IndexByte (s : ByteArray) (c : Int) (w : World) :
  Calls Tryd.prog 78 #[.string s,.int .u8 c] w fun e w' => e = .returned (.int .i64 (Lib.indexByte s.data.toList c.toNat.toUInt8)) ∧ w' = w:=Any.strings_IndexByte Tryd.lays137 s c w
def Tryd.lays211_ren : Go.Shelf.Ren:=⟨fun|211 => 76|207 => 112|n => n,fun|9 => 9|4 => 4|3 => 3|n => n,fun|n => n⟩
theorem Tryd.lays211 : Go.Proofs.Lays.n211 Tryd.prog Tryd.lays211_ren:={
 mixed:=by kernel_rfl
 f207:=Tryd.func112.trans (congrArg some (by kernel_rfl))
 f211:=Tryd.func76.trans (congrArg some (by kernel_rfl))
 t3:=Tryd.underlying3
 a3:=Tryd.isAgg3
 z3:=Tryd.sizeOf3
 v3:=Tryd.zeroValue3
 t4:=Tryd.underlying4
 a4:=Tryd.isAgg4
 z4:=Tryd.sizeOf4
 v4:=Tryd.zeroValue4
 t9:=Tryd.underlying9
 a9:=Tryd.isAgg9
 z9:=Tryd.sizeOf9
 v9:=Tryd.zeroValue9 }
open Go.RowKit in
theorem Tryd.stringslite_CutSuffix (s p : ByteArray) (w : World) (hs : s.size ≤ 9223372036854775807) :
  Calls Tryd.prog 76 #[.string s,.string p] w fun e w' => e = .returned (.tuple #[.string ⟨(Lib.trimSuffix s.data.toList p.data.toList).toArray⟩,.bool (Lib.hasSuffix s.data.toList p.data.toList)]) ∧ w' = w:=Any.stringslite_CutSuffix Tryd.lays211 s p w hs
def Tryd.lays104_ren : Go.Shelf.Ren:=⟨fun|104 => 37|211 => 76|207 => 112|n => n,fun|9 => 9|4 => 4|24 => 59|3 => 3|n => n,fun|n => n⟩
theorem Tryd.lays104 : Go.Proofs.Lays.n104 Tryd.prog Tryd.lays104_ren:={
 mixed:=by kernel_rfl
 f104:=Tryd.func37.trans (congrArg some (by kernel_rfl))
 f207:=Tryd.func112.trans (congrArg some (by kernel_rfl))
 f211:=Tryd.func76.trans (congrArg some (by kernel_rfl))
 t3:=Tryd.underlying3
 a3:=Tryd.isAgg3
 z3:=Tryd.sizeOf3
 v3:=Tryd.zeroValue3
 t4:=Tryd.underlying4
 a4:=Tryd.isAgg4
 z4:=Tryd.sizeOf4
 v4:=Tryd.zeroValue4
 t9:=Tryd.underlying9
 a9:=Tryd.isAgg9
 z9:=Tryd.sizeOf9
 v9:=Tryd.zeroValue9
 t24:=Tryd.underlying59
 a24:=Tryd.isAgg59
 z24:=Tryd.sizeOf59
 v24:=Tryd.zeroValue59 }
open Go.RowKit in
theorem Tryd.strings_CutSuffix (s p : ByteArray) (w : World) (hs : s.size ≤ 9223372036854775807) :
  Calls Tryd.prog 37 #[.string s,.string p] w fun e w' => e = .returned (.tuple #[.string ⟨(Lib.trimSuffix s.data.toList p.data.toList).toArray⟩,.bool (Lib.hasSuffix s.data.toList p.data.toList)]) ∧ w' = w:=Any.strings_CutSuffix Tryd.lays104 s p w hs
open Go.RowKit in
theorem Tryd.Builder_String_any_k (B b : Nat) (l : List UInt8) (w : World) (h : Lib.IsBuilderF 112 5 B b (Lib.byteCells l) w) (hBw : B ≤ w.heap.size) :
  Calls Tryd.prog 86 #[.pointer (some ⟨b,0,none⟩)] w fun e w' => e = .returned (.string ⟨l.toArray⟩) ∧ (Lib.IsBuilderF 112 5 B b (Lib.byteCells l) w' ∧ Below B w w' ∧ Lib.OthersKept 5 (some b) w w'):=Any.Builder_String_any_k Tryd.lays169 Tryd.Builder_Extra_169 B b l w h hBw
def Tryd.lays207_ren : Go.Shelf.Ren:=⟨fun|207 => 112|n => n,fun|9 => 9|4 => 4|3 => 3|n => n,fun|n => n⟩
theorem Tryd.lays207 : Go.Proofs.Lays.n207 Tryd.prog Tryd.lays207_ren:={
 mixed:=by kernel_rfl
 f207:=Tryd.func112.trans (congrArg some (by kernel_rfl))
 t3:=Tryd.underlying3
 a3:=Tryd.isAgg3
 z3:=Tryd.sizeOf3
 v3:=Tryd.zeroValue3
 t4:=Tryd.underlying4
 a4:=Tryd.isAgg4
 z4:=Tryd.sizeOf4
 v4:=Tryd.zeroValue4
 t9:=Tryd.underlying9
 a9:=Tryd.isAgg9
 z9:=Tryd.sizeOf9
 v9:=Tryd.zeroValue9 }
open Go.RowKit Go.Lib in
theorem Tryd.stringslite_HasSuffix (s p : ByteArray) (w : World) (hs : s.size ≤ 9223372036854775807) :
  Calls Tryd.prog 112 #[.string s,.string p] w fun e w' => e = .returned (.bool (Lib.hasSuffix s.data.toList p.data.toList)) ∧ w' = w:=Any.stringslite_HasSuffix Tryd.lays207 s p w hs
def Tryd.lays100_ren : Go.Shelf.Ren:=⟨fun|100 => 90|207 => 112|n => n,fun|9 => 9|4 => 4|3 => 3|n => n,fun|n => n⟩
theorem Tryd.lays100 : Go.Proofs.Lays.n100 Tryd.prog Tryd.lays100_ren:={
 mixed:=by kernel_rfl
 f100:=Tryd.func90.trans (congrArg some (by kernel_rfl))
 f207:=Tryd.func112.trans (congrArg some (by kernel_rfl))
 t3:=Tryd.underlying3
 a3:=Tryd.isAgg3
 z3:=Tryd.sizeOf3
 v3:=Tryd.zeroValue3
 t4:=Tryd.underlying4
 a4:=Tryd.isAgg4
 z4:=Tryd.sizeOf4
 v4:=Tryd.zeroValue4
 t9:=Tryd.underlying9
 a9:=Tryd.isAgg9
 z9:=Tryd.sizeOf9
 v9:=Tryd.zeroValue9 }
open Go.RowKit Go.Lib in
theorem Tryd.strings_HasSuffix (s p : ByteArray) (w : World) (hs : s.size ≤ 9223372036854775807) :
  Calls Tryd.prog 90 #[.string s,.string p] w fun e w' => e = .returned (.bool (Lib.hasSuffix s.data.toList p.data.toList)) ∧ w' = w:=Any.strings_HasSuffix Tryd.lays100 s p w hs
def Tryd.lays209_ren : Go.Shelf.Ren:=⟨fun|209 => 117|207 => 112|n => n,fun|9 => 9|4 => 4|3 => 3|n => n,fun|n => n⟩
theorem Tryd.lays209 : Go.Proofs.Lays.n209 Tryd.prog Tryd.lays209_ren:={
 mixed:=by kernel_rfl
 f207:=Tryd.func112.trans (congrArg some (by kernel_rfl))
 f209:=Tryd.func117.trans (congrArg some (by kernel_rfl))
 t3:=Tryd.underlying3
 a3:=Tryd.isAgg3
 z3:=Tryd.sizeOf3
 v3:=Tryd.zeroValue3
 t4:=Tryd.underlying4
 a4:=Tryd.isAgg4
 z4:=Tryd.sizeOf4
 v4:=Tryd.zeroValue4
 t9:=Tryd.underlying9
 a9:=Tryd.isAgg9
 z9:=Tryd.sizeOf9
 v9:=Tryd.zeroValue9 }
open Go.RowKit Go.Lib in
theorem Tryd.stringslite_TrimSuffix (s p : ByteArray) (w : World) (hs : s.size ≤ 9223372036854775807) :
  Calls Tryd.prog 117 #[.string s,.string p] w fun e w' => e = .returned (.string ⟨(Lib.trimSuffix s.data.toList p.data.toList).toArray⟩) ∧ w' = w:=Any.stringslite_TrimSuffix Tryd.lays209 s p w hs
def Tryd.lays102_ren : Go.Shelf.Ren:=⟨fun|102 => 89|209 => 117|207 => 112|n => n,fun|9 => 9|4 => 4|3 => 3|n => n,fun|n => n⟩
theorem Tryd.lays102 : Go.Proofs.Lays.n102 Tryd.prog Tryd.lays102_ren:={
 mixed:=by kernel_rfl
 f102:=Tryd.func89.trans (congrArg some (by kernel_rfl))
 f207:=Tryd.func112.trans (congrArg some (by kernel_rfl))
 f209:=Tryd.func117.trans (congrArg some (by kernel_rfl))
 t3:=Tryd.underlying3
 a3:=Tryd.isAgg3
 z3:=Tryd.sizeOf3
 v3:=Tryd.zeroValue3
 t4:=Tryd.underlying4
 a4:=Tryd.isAgg4
 z4:=Tryd.sizeOf4
 v4:=Tryd.zeroValue4
 t9:=Tryd.underlying9
 a9:=Tryd.isAgg9
 z9:=Tryd.sizeOf9
 v9:=Tryd.zeroValue9 }
open Go.RowKit Go.Lib in
theorem Tryd.strings_TrimSuffix (s p : ByteArray) (w : World) (hs : s.size ≤ 9223372036854775807) :
  Calls Tryd.prog 89 #[.string s,.string p] w fun e w' => e = .returned (.string ⟨(Lib.trimSuffix s.data.toList p.data.toList).toArray⟩) ∧ w' = w:=Any.strings_TrimSuffix Tryd.lays102 s p w hs
def Tryd.lays105_ren : Go.Shelf.Ren:=⟨fun|105 => 71|212 => 105|99 => 106|165 => 107|166 => 108|170 => 109|169 => 86|263 => 124|264 => 125|206 => 123|240 => 116|241 => 126|276 => 131|277 => 136|n => n,fun|9 => 9|3 => 3|4 => 4|20 => 20|0 => 0|46 => 117|109 => 139|5 => 5|72 => 112|76 => 142|51 => 107|146 => 155|53 => 99|148 => 157|70 => 110|37 => 49|75 => 120|127 => 149|164 => 161|80 => 122|n => n,fun|n => n⟩
theorem Tryd.lays105 : Go.Proofs.Lays.n105 Tryd.prog Tryd.lays105_ren:={
 mixed:=by kernel_rfl
 f99:=Tryd.func106.trans (congrArg some (by kernel_rfl))
 f105:=Tryd.func71.trans (congrArg some (by kernel_rfl))
 f165:=Tryd.func107.trans (congrArg some (by kernel_rfl))
 f166:=Tryd.func108.trans (congrArg some (by kernel_rfl))
 f169:=Tryd.func86.trans (congrArg some (by kernel_rfl))
 f170:=Tryd.func109.trans (congrArg some (by kernel_rfl))
 f206:=Tryd.func123.trans (congrArg some (by kernel_rfl))
 f212:=Tryd.func105.trans (congrArg some (by kernel_rfl))
 f240:=Tryd.func116.trans (congrArg some (by kernel_rfl))
 f241:=Tryd.func126.trans (congrArg some (by kernel_rfl))
 f263:=Tryd.func124.trans (congrArg some (by kernel_rfl))
 f264:=Tryd.func125.trans (congrArg some (by kernel_rfl))
 f276:=Tryd.func131.trans (congrArg some (by kernel_rfl))
 f277:=Tryd.func136.trans (congrArg some (by kernel_rfl))
 t0:=Tryd.underlying0
 a0:=Tryd.isAgg0
 z0:=Tryd.sizeOf0
 v0:=Tryd.zeroValue0
 t3:=Tryd.underlying3
 a3:=Tryd.isAgg3
 z3:=Tryd.sizeOf3
 v3:=Tryd.zeroValue3
 t4:=Tryd.underlying4
 a4:=Tryd.isAgg4
 z4:=Tryd.sizeOf4
 v4:=Tryd.zeroValue4
 t5:=Tryd.underlying5
 a5:=Tryd.isAgg5
 z5:=Tryd.sizeOf5
 v5:=Tryd.zeroValue5
 t9:=Tryd.underlying9
 a9:=Tryd.isAgg9
 z9:=Tryd.sizeOf9
 v9:=Tryd.zeroValue9
 t20:=Tryd.underlying20
 a20:=Tryd.isAgg20
 z20:=Tryd.sizeOf20
 v20:=Tryd.zeroValue20
 t37:=Tryd.underlying49
 a37:=Tryd.isAgg49
 z37:=Tryd.sizeOf49
 v37:=Tryd.zeroValue49
 t46:=Tryd.underlying117
 a46:=Tryd.isAgg117
 z46:=Tryd.sizeOf117
 v46:=Tryd.zeroValue117
 t51:=Tryd.underlying107
 a51:=Tryd.isAgg107
 z51:=Tryd.sizeOf107
 v51:=Tryd.zeroValue107
 t53:=Tryd.underlying99
 a53:=Tryd.isAgg99
 z53:=Tryd.sizeOf99
 v53:=Tryd.zeroValue99
 t70:=Tryd.underlying110
 a70:=Tryd.isAgg110
 z70:=Tryd.sizeOf110
 v70:=Tryd.zeroValue110
 t72:=Tryd.underlying112
 a72:=Tryd.isAgg112
 z72:=Tryd.sizeOf112
 v72:=Tryd.zeroValue112
 t75:=Tryd.underlying120
 a75:=Tryd.isAgg120
 z75:=Tryd.sizeOf120
 v75:=Tryd.zeroValue120
 t76:=Tryd.underlying142
 a76:=Tryd.isAgg142
 z76:=Tryd.sizeOf142
 v76:=Tryd.zeroValue142
 t109:=Tryd.underlying139
 a109:=Tryd.isAgg139
 z109:=Tryd.sizeOf139
 v109:=Tryd.zeroValue139
 t127:=Tryd.underlying149
 a127:=Tryd.isAgg149
 z127:=Tryd.sizeOf149
 v127:=Tryd.zeroValue149
 t146:=Tryd.underlying155
 a146:=Tryd.isAgg155
 z146:=Tryd.sizeOf155
 v146:=Tryd.zeroValue155
 t148:=Tryd.underlying157
 a148:=Tryd.isAgg157
 z148:=Tryd.sizeOf157
 v148:=Tryd.zeroValue157
 t164:=Tryd.underlying161
 a164:=Tryd.isAgg161
 z164:=Tryd.sizeOf161
 v164:=Tryd.zeroValue161 }
theorem Tryd.Builder_Extra_105 : Builder.Extra Tryd.prog Tryd.lays105_ren:={
 sizeBuilder:=by kernel_rfl
 liesBuilder:=by kernel_rfl
 t5:=Tryd.underlying5
 a5:=Tryd.isAgg5
 z5:=Tryd.sizeOf5
 v5:=Tryd.zeroValue5
 infoByte:=by kernel_rfl
 cellsByte:=by kernel_rfl
 sizeByte:=by kernel_rfl
 neB5:=by decide }
open Go.RowKit Go.Lib in
theorem Tryd.strings_Repeat (s : ByteArray) (c : Nat) (w : World) (hc : c ≤ 9223372036854775807) (hlen : s.size * c ≤ 140737488355328) :
  Calls Tryd.prog 71 #[.string s,.int .i64 c] w fun e w' => e = .returned (.string ⟨(Lib.repeatL s.data.toList c).toArray⟩) ∧ Below w.heap.size w w':=Any.strings_Repeat Tryd.lays105 Tryd.Builder_Extra_105 s c w hc hlen
end Go.Proofs
namespace Go.Proofs.YtedfgkjimnjdpaaDoor.X
open Go.RowKit Go.Proofs.YtedfgkjimnjdpaaDoorW.PrintWords
set_option linter.unusedVariables false
set_option linter.unusedSimpArgs false
theorem str_cells {w : World} {A : Option Addr} {n : Nat} {l : List ByteArray} (h : Kd.C Kd.string w A n l) (hn : 0 < n) :
  ∃ bk o,A = some ⟨bk,o,none⟩ ∧ bk < w.heap.size ∧ ∀ (j : Nat) x,l[j]? = some x → w.cell? ⟨bk,o + j,none⟩ = some (.string x):=by
 obtain ⟨hl,_,hc0⟩:=h
 obtain ⟨ad,rfl,hc⟩:=hc0 hn
 clear hc0
 have h0 : 0 < l.length:=by omega
 obtain ⟨bk,o,sp⟩:=ad
 have key : ∀ (j : Nat) x,l[j]? = some x → w.cell? (Addr.add ⟨bk,o,sp⟩ j) = some (.string x):=by
  intro j x hx
  obtain ⟨c,_,hk,hcell⟩:=hc j x hx
  have hk' : c = [Value.string x]:=hk
  subst hk'
  have:=hcell 0 (.string x) rfl
  simpa [Kd.string,Kd.scalar] using this
 have k0:=key 0 _ (List.getElem?_eq_getElem h0)
 simp only [Addr.add,if_pos] at k0
 have hb : bk < w.heap.size ∧ sp = none:=by
  unfold World.cell? at k0
  simp only at k0
  split at k0
  ·rename_i hh
   refine ⟨(Array.getElem?_eq_some_iff.mp hh).1,?_⟩
   cases sp with
   | none => rfl
   | some v => simp at k0
  ·simp at k0
 obtain ⟨hb,rfl⟩:=hb
 refine ⟨bk,o,rfl,hb,fun j x hx => ?_⟩
 have:=key j x hx
 unfold Addr.add at this
 split at this
 ·subst j
  simpa using this
 ·simpa using this
def joinB (l : List ByteArray) (sep : ByteArray) : List UInt8:=Lib.join (l.map (·.data.toList)) sep.data.toList
def strings_Join.f (l : List ByteArray) (sep : ByteArray) : Option ByteArray :=
 if l.length ≤ 140737488355328 ∧ (joinB l sep).length ≤ 140737488355328 then some ⟨(joinB l sep).toArray⟩ else none
theorem strings_Join.calls (A0 : Option Addr) (c0 : Nat) (l0 : List ByteArray) (a1 : ByteArray) (r : ByteArray) (w : World) (hr0 : Kd.C Kd.string w A0 l0.length l0) (hc0 : l0.length ≤ c0) (h : strings_Join.f l0 a1 = some r) :
  Calls Tryd.prog 77 #[.slice A0 l0.length c0,.string a1] w fun e w' => e = .returned (.string r) ∧ Below w.heap.size w w':=by
 unfold strings_Join.f at h
 split at h
 ·rename_i hh
  obtain rfl:=Option.some.inj h
  by_cases hn : 0 < l0.length
  ·obtain ⟨bk,o,rfl,hb,hcells⟩:=str_cells hr0 hn
   exact Tryd.strings_Join bk o c0 l0 a1 w hcells hb hh.1 hc0 hh.2
  ·have : l0 = []:=List.length_eq_zero_iff.mp (by omega)
   subst this
   refine (Tryd.strings_Join_none A0 c0 a1 w).mono ?_
   rintro e w' ⟨rfl,rfl⟩
   exact ⟨by simp [joinB,Lib.join,List.intercalate],Below.refl _ _⟩
 ·exact absurd h (by simp)
def strings_IndexByte.f (s : ByteArray) (c : Int) : Option Int:=some (Lib.indexByte s.data.toList c.toNat.toUInt8)
theorem strings_IndexByte.calls (a0 : ByteArray) (a1 : Int) (r : Int) (w : World) (h : strings_IndexByte.f a0 a1 = some r) :
  Calls Tryd.prog 78 #[.string a0,.int .u8 a1] w fun e w' => e = .returned (.int .i64 r) ∧ Drawn0 w w':=by
 obtain rfl:=Option.some.inj h
 refine (Tryd.strings_IndexByte a0 a1 w).mono ?_
 rintro e w' ⟨rfl,rfl⟩
 exact ⟨rfl,Drawn0.refl _⟩
def strings_Repeat.f (s : ByteArray) (n : Int) : Option ByteArray :=
 if 0 ≤ n ∧ n ≤ 9223372036854775807 ∧ s.size * n.toNat ≤ 140737488355328 then some ⟨(Lib.repeatL s.data.toList n.toNat).toArray⟩ else none
theorem strings_Repeat.calls (a0 : ByteArray) (a1 : Int) (r : ByteArray) (w : World) (h : strings_Repeat.f a0 a1 = some r) :
  Calls Tryd.prog 71 #[.string a0,.int .i64 a1] w fun e w' => e = .returned (.string r) ∧ Below w.heap.size w w':=by
 unfold strings_Repeat.f at h
 split at h
 ·rename_i hh
  obtain rfl:=Option.some.inj h
  obtain ⟨n,rfl⟩:=Int.eq_ofNat_of_zero_le hh.1
  exact Tryd.strings_Repeat a0 n w (by omega) hh.2.2
 ·exact absurd h (by simp)
end Go.Proofs.YtedfgkjimnjdpaaDoor.X
namespace Go.Proofs.YtedfgkjimnjdpaaDoor.X
open Go.RowKit Go.Proofs.YtedfgkjimnjdpaaDoorW.PrintWords
set_option linter.unusedVariables false
set_option linter.unusedSimpArgs false
def padN (w : Int) (n : Nat) : Int:=max 0 (min (max w 1) 100 - (n : Int))
theorem padN_bd (w : Int) (n : Nat) : 0 ≤ padN w n ∧ padN w n ≤ 100:=by unfold padN;omega
theorem repeat_one (c : Nat) : Lib.repeatL [48] c = List.replicate c 48:=by
 induction c with
 | zero => rfl
 | succ c ih => simp [Lib.repeatL,ih,List.replicate_succ]
def padB (s : ByteArray) (w : Int) : ByteArray:=(⟨(List.replicate (padN w s.size).toNat 48).toArray⟩ : ByteArray) ++ s
def basic_Pad.f (n : Int) (w : Int) : Option ByteArray:=(basic_Itoa.f n).bind fun s => if n < 0 then some s else some (padB s w)
theorem itoa_size21 {n : Int} {s : ByteArray} (h : basic_Itoa.f n = some s) : s.size ≤ 21:=by
 unfold basic_Itoa.f at h
 split at h
 ·rename_i hh
  obtain rfl:=Option.some.inj h
  have:=Lib.itoa_length_le n hh.1 hh.2
  simpa [ByteArray.size] using this
 ·exact absurd h (by simp)
theorem repeat_pad (c : Nat) (h : c ≤ 100) : strings_Repeat.f ⟨#[48]⟩ (c : Int) = some ⟨(List.replicate c 48).toArray⟩:=by
 unfold strings_Repeat.f
 rw [if_pos ⟨by omega,by omega,by simp [ByteArray.size];omega⟩,Int.toNat_natCast,repeat_one]
set_option maxHeartbeats 1000000 in
set_option maxRecDepth 100000 in
theorem basic_Pad.calls (a0 a1 : Int) (r : ByteArray) (w : World) (h : basic_Pad.f a0 a1 = some r) :
  Calls Tryd.prog 30 #[.int .i64 a0,.int .i64 a1] w fun e w' => e = .returned (.string r) ∧ Below w.heap.size w w':=by
 unfold basic_Pad.f at h
 obtain ⟨s,h1,h⟩:=Option.bind_eq_some_iff.mp h
 have hs:=itoa_size21 h1
 have H1:=Lib.hid h1
 clear h1
 by_cases hn : a0 < 0
 ·rw [if_pos hn] at h
  obtain rfl:=Option.some.inj h
  have hd : decide (a0 < 0) = true:=by simpa using hn
  go_enter Tryd.func30,Tryd.ntmps30
  go_wp2_with (go_at_call 60;refine (basic_Itoa.calls a0 s _ H1.out).mono ?_;rintro e w1 ⟨rfl,hb⟩)
  go_ret
  exact ⟨rfl,hb⟩
 ·rw [if_neg hn] at h
  obtain rfl:=Option.some.inj h
  have hd : decide (a0 < 0) = false:=by simpa using hn
  obtain ⟨hw1,hw2⟩:=padN_bd a1 s.size
  obtain ⟨m,hm⟩ : ∃ m : Nat,padN a1 s.size = m:=⟨(padN a1 s.size).toNat,by omega⟩
  have hrep:=repeat_pad m (by omega)
  have hsz : (⟨(List.replicate m 48).toArray⟩ : ByteArray).size = m:=by simp [ByteArray.size]
  have hfin : padB s a1 = (⟨(List.replicate m 48).toArray⟩ : ByteArray) ++ s:=by unfold padB;rw [hm,Int.toNat_natCast]
  rw [← hm] at hrep
  generalize (⟨(List.replicate m 48).toArray⟩ : ByteArray) = t at hrep hsz hfin
  have hcat : t.size + s.size ≤ 9223372036854775807:=by omega
  have HR : Hid (strings_Repeat.f ⟨#[48]⟩ (max 0 (min (max a1 1) 100 - (s.size : Int))) = some t):=Lib.hid hrep
  have HF:=Lib.hid hfin
  clear hm hsz hrep hfin hw1 hw2
  go_enter Tryd.func30,Tryd.ntmps30
  go_wp2_with (first|(go_at_call 60;refine (basic_Itoa.calls a0 s _ H1.out).mono ?_;rintro e w1 ⟨rfl,hb⟩)|(go_at_call 71;refine (strings_Repeat.calls _ _ t _ HR.out).mono ?_;rintro e w2 ⟨rfl,hb2⟩))
  go_ret
  exact ⟨ret_str HF.out.symm,below_step hb hb2⟩
end Go.Proofs.YtedfgkjimnjdpaaDoor.X
namespace Go.Proofs.YtedfgkjimnjdpaaDoor.X
open Go.RowKit Go.Proofs.YtedfgkjimnjdpaaDoorW.PrintWords Go.Proofs.YtedfgkjimnjdpaaDoorW.PrintLast Go.Proofs.YtedfgkjimnjdpaaDoorW.PrintMore
attribute [local go_sem] max2_int min2_int max_two min_two max_three min_three max_four min_four
set_option linter.unusedVariables false
set_option linter.unusedSimpArgs false
def ticket_Sequence.f (a0 : Int) : Option (ByteArray):=(basic_Pad.f a0 20).bind fun t101 => (some t101)
set_option maxHeartbeats 8000000 in
set_option maxRecDepth 100000 in
theorem ticket_Sequence.calls (a0 : Int) (r : ByteArray) (w : World) (h : ticket_Sequence.f a0 = some r) :
  Calls Tryd.prog 10 #[.int .i64 a0] w fun e w' => e = .returned (.string r) ∧ Below w.heap.size w w':=by
 have HB:=Aside0.mk (Below.refl w.heap.size w)
 have H : ((basic_Pad.f a0 20).bind fun t101 => (some t101)) = some r:=h
 clear h
 replace H:=Option.bind_eq_some_iff.mp H
 obtain ⟨t101,A20,H⟩:=H
 replace H : (some t101) = some r:=H
 have A2:=Aside0.mk A20
 clear A20
 obtain rfl:=Option.some.inj H
 go_enter Tryd.func10,Tryd.ntmps10
 go_wp2_with (first|((with_reducible refine gate_callee (f:=30) rfl ?_);refine goesL_ (some 4) rfl rfl Tryd.func30 (by kernel_rfl) rfl #[.int .i64 a0,.int .i64 20] rfl (by (try simp only [List.map_toArray,List.map_cons,List.map_nil]);first|done|rfl|(simp only [List.length_drop,List.length_take];rfl)) ?_;(with_reducible refine (basic_Pad.calls a0 20 t101 _ A2.out).mono ?_);rintro e w3 ⟨rfl,hb⟩;refine ⟨_,rfl,?_⟩;have n0_:=Aside0.mk (below_step (by repeat (first|(with_reducible first|exact HB.out|apply below_alloc|apply pw_below_drewN|apply below_drew1)|exact HB.out)) hb);clear HB;have HB:=n0_;clear n0_;(try clear hb);(try clear hb2);(try clear hk);(try clear hi)))
 go_ret
 exact ⟨by first|rfl|(simp [errW_none,errW_some] <;> rfl)|(simp [*,errW_none,errW_some] <;> rfl),by repeat (first|(with_reducible first|exact HB.out|apply below_alloc|apply pw_below_drewN|apply below_drew1)|exact HB.out)⟩
end Go.Proofs.YtedfgkjimnjdpaaDoor.X
namespace Go.Proofs.YtedfgkjimnjdpaaDoor.X
open Go.RowKit Go.Proofs.YtedfgkjimnjdpaaDoorW.PrintWords Go.Proofs.YtedfgkjimnjdpaaDoorW.PrintLast Go.Proofs.YtedfgkjimnjdpaaDoorW.PrintMore
attribute [local go_sem] max2_int min2_int max_two min_two max_three min_three max_four min_four
set_option linter.unusedVariables false
set_option linter.unusedSimpArgs false
def stringslite_HasSuffix.f (a0 : ByteArray) (a1 : ByteArray) : Option (Bool):=if (a0.size : Int) ≥ (a1.size : Int) then (if 0 ≤ (wrap64 ((a0.size : Int) - (a1.size : Int))) then (if (wrap64 ((a0.size : Int) - (a1.size : Int))) ≤ (a0.size : Int) then (some ((a0.extract ((wrap64 ((a0.size : Int) - (a1.size : Int))) : Int).toNat a0.size).toList == a1.toList)) else (none)) else (none)) else (some false)
set_option maxHeartbeats 8000000 in
set_option maxRecDepth 100000 in
theorem stringslite_HasSuffix.calls (a0 : ByteArray) (a1 : ByteArray) (r : Bool) (w : World) (h : stringslite_HasSuffix.f a0 a1 = some r) :
  Calls Tryd.prog 112 #[.string a0,.string a1] w fun e w' => e = .returned (.bool r) ∧ Drawn0 w w':=by
 have H : (if (a0.size : Int) ≥ (a1.size : Int) then (if 0 ≤ (wrap64 ((a0.size : Int) - (a1.size : Int))) then (if (wrap64 ((a0.size : Int) - (a1.size : Int))) ≤ (a0.size : Int) then (some ((a0.extract ((wrap64 ((a0.size : Int) - (a1.size : Int))) : Int).toNat a0.size).toList == a1.toList)) else (none)) else (none)) else (some false)) = some r:=h
 clear h
 by_cases c3 : (a0.size : Int) ≥ (a1.size : Int)
 ·rw [if_pos c3] at H
  have c3b0 : decide ((a1.size : Int) ≤ (a0.size : Int)) = true:=decide_eq_true c3
  have c3b1 : decide (a1.size ≤ a0.size) = true:=decide_eq_true (Int.ofNat_le.mp c3)
  clear c3
  obtain ⟨ji4,hji4⟩ : ∃ j_ : Int,(wrap64 ((a0.size : Int) - (a1.size : Int))) = j_:=⟨_,rfl⟩
  replace H : (if 0 ≤ (ji4) then (if (ji4) ≤ (a0.size : Int) then (some ((a0.extract ((ji4) : Int).toNat a0.size).toList == a1.toList)) else (none)) else (none)) = some r:=by first|(rw [hji4] at H;exact H)|(simp only [hji4] at H ⊢;exact H)
  have hji4w : (IntKind.i64.wrap ((a0.size : Int) - (a1.size : Int))) = ji4:=(i64_w _).trans hji4
  by_cases c5 : 0 ≤ (ji4)
  ·rw [if_pos c5] at H
   have c5b0:=eq_true c5
   have c5b1 : decide (0 ≤ (ji4)) = true:=decide_eq_true c5
   clear c5
   by_cases c6 : (ji4) ≤ (a0.size : Int)
   ·rw [if_pos c6] at H
    have c6b0:=eq_true c6
    have c6b1 : decide ((ji4) ≤ (a0.size : Int)) = true:=decide_eq_true c6
    clear c6
    obtain rfl:=Option.some.inj H
    go_enter Tryd.func112,Tryd.ntmps112
    go_wp2
    go_ret
    exact ⟨by first|rfl|(simp;done)|(simp only [← hji4] <;> (first|rfl|simp))|(simp [*];done),by repeat (first|exact Drawn0.refl _|apply Drawn0.step)⟩
   ·rw [if_neg c6] at H
    exact absurd H (by simp)
  ·rw [if_neg c5] at H
   exact absurd H (by simp)
 ·rw [if_neg c3] at H
  have c3b0 : decide ((a1.size : Int) ≤ (a0.size : Int)) = false:=decide_eq_false c3
  have c3b1 : decide (a1.size ≤ a0.size) = false:=decide_eq_false (fun h => c3 (Int.ofNat_le.mpr h))
  clear c3
  obtain rfl:=Option.some.inj H
  go_enter Tryd.func112,Tryd.ntmps112
  go_wp2
  go_ret
  exact ⟨by first|rfl|(simp;done)|(simp;decide +kernel)|(simp [*];done),by repeat (first|exact Drawn0.refl _|apply Drawn0.step)⟩
end Go.Proofs.YtedfgkjimnjdpaaDoor.X
namespace Go.Proofs.YtedfgkjimnjdpaaDoor.X
open Go.RowKit Go.Proofs.YtedfgkjimnjdpaaDoorW.PrintWords Go.Proofs.YtedfgkjimnjdpaaDoorW.PrintLast Go.Proofs.YtedfgkjimnjdpaaDoorW.PrintMore
attribute [local go_sem] max2_int min2_int max_two min_two max_three min_three max_four min_four
set_option linter.unusedVariables false
set_option linter.unusedSimpArgs false
def stringslite_CutSuffix.f (a0 : ByteArray) (a1 : ByteArray) : Option (ByteArray × Bool):=(stringslite_HasSuffix.f a0 a1).bind fun t106 => (if t106 = true then (if 0 ≤ (wrap64 ((a0.size : Int) - (a1.size : Int))) then (if (wrap64 ((a0.size : Int) - (a1.size : Int))) ≤ (a0.size : Int) then (some (a0.extract 0 ((wrap64 ((a0.size : Int) - (a1.size : Int))) : Int).toNat,true)) else (none)) else (none)) else (some (a0,false)))
set_option maxHeartbeats 8000000 in
set_option maxRecDepth 100000 in
theorem stringslite_CutSuffix.calls (a0 : ByteArray) (a1 : ByteArray) (r1 : ByteArray) (r2 : Bool) (w : World) (h : stringslite_CutSuffix.f a0 a1 = some (r1,r2)) :
  Calls Tryd.prog 76 #[.string a0,.string a1] w fun e w' => e = .returned (.tuple #[.string r1,.bool r2]) ∧ Drawn0 w w':=by
 have H : ((stringslite_HasSuffix.f a0 a1).bind fun t106 => (if t106 = true then (if 0 ≤ (wrap64 ((a0.size : Int) - (a1.size : Int))) then (if (wrap64 ((a0.size : Int) - (a1.size : Int))) ≤ (a0.size : Int) then (some (a0.extract 0 ((wrap64 ((a0.size : Int) - (a1.size : Int))) : Int).toNat,true)) else (none)) else (none)) else (some (a0,false)))) = some (r1,r2):=h
 clear h
 replace H:=Option.bind_eq_some_iff.mp H
 obtain ⟨t106,A30,H⟩:=H
 replace H : (if t106 = true then (if 0 ≤ (wrap64 ((a0.size : Int) - (a1.size : Int))) then (if (wrap64 ((a0.size : Int) - (a1.size : Int))) ≤ (a0.size : Int) then (some (a0.extract 0 ((wrap64 ((a0.size : Int) - (a1.size : Int))) : Int).toNat,true)) else (none)) else (none)) else (some (a0,false))) = some (r1,r2):=H
 have A3:=Aside0.mk A30
 clear A30
 by_cases c4 : t106 = true
 ·subst c4
  have H1 : (if 0 ≤ (wrap64 ((a0.size : Int) - (a1.size : Int))) then (if (wrap64 ((a0.size : Int) - (a1.size : Int))) ≤ (a0.size : Int) then (some (a0.extract 0 ((wrap64 ((a0.size : Int) - (a1.size : Int))) : Int).toNat,true)) else (none)) else (none)) = some (r1,r2):=by rw [if_pos rfl] at H;exact H
  clear H
  have H:=H1
  clear H1
  obtain ⟨ji5,hji5⟩ : ∃ j_ : Int,(wrap64 ((a0.size : Int) - (a1.size : Int))) = j_:=⟨_,rfl⟩
  replace H : (if 0 ≤ (ji5) then (if (ji5) ≤ (a0.size : Int) then (some (a0.extract 0 ((ji5) : Int).toNat,true)) else (none)) else (none)) = some (r1,r2):=by first|(rw [hji5] at H;exact H)|(simp only [hji5] at H ⊢;exact H)
  (try rw [hji5] at A3)
  have hji5w : (IntKind.i64.wrap ((a0.size : Int) - (a1.size : Int))) = ji5:=(i64_w _).trans hji5
  by_cases c6 : 0 ≤ (ji5)
  ·rw [if_pos c6] at H
   have c6b0:=eq_true c6
   have c6b1 : decide (0 ≤ (ji5)) = true:=decide_eq_true c6
   clear c6
   by_cases c7 : (ji5) ≤ (a0.size : Int)
   ·rw [if_pos c7] at H
    have c7b0:=eq_true c7
    have c7b1 : decide ((ji5) ≤ (a0.size : Int)) = true:=decide_eq_true c7
    clear c7
    simp only [Option.some.injEq,Prod.mk.injEq] at H
    obtain ⟨rfl,rfl⟩:=H
    go_enter Tryd.func76,Tryd.ntmps76
    go_wp2_with (first|((with_reducible refine gate_callee (f:=112) rfl ?_);refine goesL_ (some 8) rfl rfl Tryd.func112 (by kernel_rfl) rfl #[.string a0,.string a1] rfl (by (try simp only [List.map_toArray,List.map_cons,List.map_nil]);first|done|rfl|(simp only [List.length_drop,List.length_take];rfl)) ?_;(with_reducible refine (stringslite_HasSuffix.calls a0 a1 true _ A3.out).mono ?_);rintro e w' ⟨rfl,⟨nd,rfl⟩⟩;refine ⟨_,rfl,?_⟩))
    go_ret2
    exact ⟨by first|rfl|(simp;done)|(simp only [← hji5] <;> (first|rfl|simp))|(simp [*];done),by repeat (first|exact Drawn0.refl _|apply Drawn0.step)⟩
   ·rw [if_neg c7] at H
    exact absurd H (by simp)
  ·rw [if_neg c6] at H
   exact absurd H (by simp)
 ·replace c4:=Bool.eq_false_iff.mpr c4
  subst c4
  have H1 : (some (a0,false)) = some (r1,r2):=by rw [if_neg (show ¬ (false = true) by decide)] at H;exact H
  clear H
  have H:=H1
  clear H1
  simp only [Option.some.injEq,Prod.mk.injEq] at H
  obtain ⟨rfl,rfl⟩:=H
  go_enter Tryd.func76,Tryd.ntmps76
  go_wp2_with (first|((with_reducible refine gate_callee (f:=112) rfl ?_);refine goesL_ (some 8) rfl rfl Tryd.func112 (by kernel_rfl) rfl #[.string a0,.string a1] rfl (by (try simp only [List.map_toArray,List.map_cons,List.map_nil]);first|done|rfl|(simp only [List.length_drop,List.length_take];rfl)) ?_;(with_reducible refine (stringslite_HasSuffix.calls a0 a1 false _ A3.out).mono ?_);rintro e w' ⟨rfl,⟨nd,rfl⟩⟩;refine ⟨_,rfl,?_⟩))
  go_ret2
  exact ⟨by first|rfl|(simp;done)|(simp;decide +kernel)|(simp [*];done),by repeat (first|exact Drawn0.refl _|apply Drawn0.step)⟩
end Go.Proofs.YtedfgkjimnjdpaaDoor.X
namespace Go.Proofs.YtedfgkjimnjdpaaDoor.X
open Go.RowKit Go.Proofs.YtedfgkjimnjdpaaDoorW.PrintWords Go.Proofs.YtedfgkjimnjdpaaDoorW.PrintLast Go.Proofs.YtedfgkjimnjdpaaDoorW.PrintMore
attribute [local go_sem] max2_int min2_int max_two min_two max_three min_three max_four min_four
set_option linter.unusedVariables false
set_option linter.unusedSimpArgs false
def strings_CutSuffix.f (a0 : ByteArray) (a1 : ByteArray) : Option (ByteArray × Bool):=(stringslite_CutSuffix.f a0 a1).bind fun bt107 => (some (bt107.1,bt107.2))
set_option maxHeartbeats 8000000 in
set_option maxRecDepth 100000 in
theorem strings_CutSuffix.calls (a0 : ByteArray) (a1 : ByteArray) (r1 : ByteArray) (r2 : Bool) (w : World) (h : strings_CutSuffix.f a0 a1 = some (r1,r2)) :
  Calls Tryd.prog 37 #[.string a0,.string a1] w fun e w' => e = .returned (.tuple #[.string r1,.bool r2]) ∧ Drawn0 w w':=by
 have H : ((stringslite_CutSuffix.f a0 a1).bind fun bt107 => (some (bt107.1,bt107.2))) = some (r1,r2):=h
 clear h
 replace H:=Option.bind_eq_some_iff.mp H
 obtain ⟨⟨t107,t108⟩,A30,H⟩:=H
 replace H : (some (t107,t108)) = some (r1,r2):=H
 have A3:=Aside0.mk A30
 clear A30
 simp only [Option.some.injEq,Prod.mk.injEq] at H
 obtain ⟨rfl,rfl⟩:=H
 go_enter Tryd.func37,Tryd.ntmps37
 go_wp2_with (first|((with_reducible refine gate_callee (f:=76) rfl ?_);refine goesL_ (some 8) rfl rfl Tryd.func76 (by kernel_rfl) rfl #[.string a0,.string a1] rfl (by (try simp only [List.map_toArray,List.map_cons,List.map_nil]);first|done|rfl|(simp only [List.length_drop,List.length_take];rfl)) ?_;(with_reducible refine (stringslite_CutSuffix.calls a0 a1 t107 t108 _ A3.out).mono ?_);rintro e w' ⟨rfl,⟨nd,rfl⟩⟩;refine ⟨_,rfl,?_⟩))
 go_ret2
 exact ⟨by first|rfl|(simp;done)|(simp;decide +kernel)|(simp [*];done),by repeat (first|exact Drawn0.refl _|apply Drawn0.step)⟩
end Go.Proofs.YtedfgkjimnjdpaaDoor.X
namespace Go.Proofs.YtedfgkjimnjdpaaDoor.X
open Go.RowKit Go.Proofs.YtedfgkjimnjdpaaDoorW.PrintWords Go.Proofs.YtedfgkjimnjdpaaDoorW.PrintLast Go.Proofs.YtedfgkjimnjdpaaDoorW.PrintMore
attribute [local go_sem] max2_int min2_int max_two min_two max_three min_three max_four min_four
set_option linter.unusedVariables false
set_option linter.unusedSimpArgs false
mutual
def ticket_only.j0 : Nat → ByteArray → ByteArray → Bool → Option (Bool)
 | 0,_,_,_ => none
 | k + 1,x0,x9,x22 => if x22 = true then (some false) else (ticket_only.l0 k x0 x9 (x0.size : Int) 0)
def ticket_only.l0 : Nat → ByteArray → ByteArray → Int → Int → Option (Bool)
 | 0,_,_,_,_ => none
 | k + 1,x0,x9,x24,x25 => if x25 < x24 then (if 0 ≤ x25 then (if x25 < (x0.size : Int) then ((strings_IndexByte.f x9 (bt x0 x25)).bind fun t110 => (if t110 < 0 then (some false) else (ticket_only.l0 k x0 x9 x24 (wrap64 (x25 + 1))))) else (none)) else (none)) else (some true)
end
def ticket_only.f (k : Nat) (a0 : ByteArray) (a1 : Int) (a2 : Int) (l3 : List ByteArray) : Option (Bool):=(strings_Join.f l3 (⟨#[]⟩ : ByteArray)).bind fun t109 => (if (a0.size : Int) < a1 then (ticket_only.j0 k a0 t109 true) else (ticket_only.j0 k a0 t109 (decide ((a0.size : Int) > a2))))
set_option maxHeartbeats 8000000 in
set_option maxRecDepth 100000 in
theorem ticket_only.calls (k : Nat) (a0 : ByteArray) (a1 : Int) (a2 : Int) (A3 : Option Addr) (c3 : Nat) (l3 : List ByteArray) (r : Bool) (w : World) (hr3 : Kd.C Kd.string w A3 l3.length l3) (hc3 : l3.length ≤ c3) (h : ticket_only.f k a0 a1 a2 l3 = some r) :
  Calls Tryd.prog 38 #[.string a0,.int .i64 a1,.int .i64 a2,.slice A3 l3.length c3] w fun e w' => e = .returned (.bool r) ∧ Below w.heap.size w w':=by
 have HR3:=Aside0.mk hr3
 have HC3:=Aside0.mk hc3
 clear hr3 hc3
 have HB:=Aside0.mk (Below.refl w.heap.size w)
 have H : ((strings_Join.f l3 (⟨#[]⟩ : ByteArray)).bind fun t109 => (if (a0.size : Int) < a1 then (ticket_only.j0 k a0 t109 true) else (ticket_only.j0 k a0 t109 (decide ((a0.size : Int) > a2))))) = some r:=h
 clear h
 replace H:=Option.bind_eq_some_iff.mp H
 obtain ⟨t109,A50,H⟩:=H
 replace H : (if (a0.size : Int) < a1 then (ticket_only.j0 k a0 t109 true) else (ticket_only.j0 k a0 t109 (decide ((a0.size : Int) > a2)))) = some r:=H
 have A5:=Aside0.mk A50
 clear A50
 have HC6:=Aside0.mk H
 clear H
 go_enter Tryd.func38,Tryd.ntmps38
 go_upto_region 2 with (first|((with_reducible refine gate_callee (f:=77) rfl ?_);refine goesL_ (some 12) rfl rfl Tryd.func77 (by kernel_rfl) rfl #[.slice A3 l3.length c3,.string (⟨#[]⟩ : ByteArray)] rfl (by (try simp only [List.map_toArray,List.map_cons,List.map_nil]);first|done|rfl|(simp only [List.length_drop,List.length_take];rfl)) ?_;(with_reducible refine (strings_Join.calls _ _ l3 (⟨#[]⟩ : ByteArray) t109 _ ?side1 ?side2 A5.out).mono ?_);(case side1 => repeat (first|exact HR3.out|(with_reducible refine Kd.C_alloc ?_ _)|(with_reducible refine Kd.C_drewN ?_ _)|(with_reducible refine Kd.C_drew ?_)));(case side2 => exact HC3.out);rintro e w7 ⟨rfl,hb⟩;refine ⟨_,rfl,?_⟩;have n0_:=Aside0.mk (below_step (by repeat (first|(with_reducible first|exact HB.out|apply below_alloc|apply pw_below_drewN|apply below_drew1)|exact HB.out)) hb);clear HB;have HB:=n0_;clear n0_;(try clear hb);(try clear hb2);(try clear hk);(try clear hi)))
 (try simp only [Act.put,List.setIfInBounds_toArray,List.set_cons_zero,List.set_cons_succ])
 go_cut [22] (fun v22 wc => ∃ (kq : Nat) (x22_5 : Bool),v22 = .bool x22_5 ∧ Aside0 (ticket_only.j0 kq a0 t109 x22_5 = some r) ∧ Aside0 (kq ≤ k) ∧ Aside0 (Below w.heap.size w wc))
 case first =>
  have H:=HC6.out
  clear HC6
  by_cases c8 : (a0.size : Int) < a1
  ·rw [if_pos c8] at H
   have c8b0 : decide ((a0.size : Int) < a1) = true:=decide_eq_true c8
   clear c8
   (first|rw [c8b0]|(simp only [i64_w,i32_w];rw [c8b0])|skip)
   have H':=Aside0.mk H
   clear H
   go_wp2
   go_meet
   case rel => exact ⟨_,(true),(by first|rfl|(simp;done)|(simp;decide +kernel)|(simp [*];done)),(by first|exact H'|(subst_vars;exact H')),⟨by first|omega|exact Nat.le_refl _⟩,⟨by repeat (first|(with_reducible first|exact HB.out|apply below_alloc|apply pw_below_drewN|apply below_drew1)|exact HB.out)⟩⟩
  ·rw [if_neg c8] at H
   have c8b0 : decide ((a0.size : Int) < a1) = false:=decide_eq_false c8
   clear c8
   (first|rw [c8b0]|(simp only [i64_w,i32_w];rw [c8b0])|skip)
   have H':=Aside0.mk H
   clear H
   go_wp2
   go_meet
   case rel => exact ⟨_,(decide ((a0.size : Int) > a2)),(by first|rfl|(simp;done)|(simp;decide +kernel)|(simp [*];done)),(by first|exact H'|(subst_vars;exact H')),⟨by first|omega|exact Nat.le_refl _⟩,⟨by repeat (first|(with_reducible first|exact HB.out|apply below_alloc|apply pw_below_drewN|apply below_drew1)|exact HB.out)⟩⟩
 case rest =>
  clear HC6
  try clear p2
  try clear c3
  try clear c7
  try clear c8
  try clear c8b0
  obtain ⟨kq,x22_5,rfl,HA,HJ5,HB⟩:=hcut
  cases kq with
  | zero => exact absurd HA.out (by simp [ticket_only.j0])
  | succ kj5 =>
   have H:=HA.out
   clear HA
   simp only [ticket_only.j0] at H
   by_cases c9 : x22_5 = true
   ·subst c9
    have H1 : (some false) = some r:=by rw [if_pos rfl] at H;exact H
    clear H
    have H:=H1
    clear H1
    obtain rfl:=Option.some.inj H
    go_wp2
    go_ret
    exact ⟨by first|rfl|(simp [errW_none,errW_some] <;> rfl)|(simp [*,errW_none,errW_some] <;> rfl),by repeat (first|(with_reducible first|exact HB.out|apply below_alloc|apply pw_below_drewN|apply below_drew1)|exact HB.out)⟩
   ·replace c9:=Bool.eq_false_iff.mpr c9
    subst c9
    have H1 : (ticket_only.l0 kj5 a0 t109 (a0.size : Int) 0) = some r:=by rw [if_neg (show ¬ (false = true) by decide)] at H;exact H
    clear H
    have H:=H1
    clear H1
    have H':=Aside0.mk H
    clear H
    go_wp2
    go_loopg [25] kj5 (fun kq v25 w' => ∃ (x25_2 : Int),v25 = .int .i64 x25_2 ∧ Aside0 (ticket_only.l0 kq a0 t109 (a0.size : Int) x25_2 = some r) ∧ Aside0 (kq ≤ kj5) ∧ Aside0 (Below w.heap.size w w'))
    case atStart => exact ⟨(0),(by first|rfl|(simp;done)|(simp;decide +kernel)|(simp [*];done)),(by first|exact H'|(subst_vars;exact H')),⟨Nat.le_refl _⟩,⟨by repeat (first|(with_reducible first|exact HB.out|apply below_alloc|apply pw_below_drewN|apply below_drew1)|exact HB.out)⟩⟩
    case round =>
     clear H'
     try clear p2
     try clear c3
     try clear c7
     try clear c8
     try clear c8b0
     try clear c9
     try clear p2
     obtain ⟨x25_2,rfl,HA,HK2,HB⟩:=hrel
     cases gk with
     | zero => exact absurd HA.out (by simp [ticket_only.l0])
     | succ k2 =>
      have H:=HA.out
      clear HA
      simp only [ticket_only.l0] at H
      by_cases c10 : x25_2 < (a0.size : Int)
      ·rw [if_pos c10] at H
       have c10b0 : decide (x25_2 < (a0.size : Int)) = true:=decide_eq_true c10
       clear c10
       by_cases c11 : 0 ≤ x25_2
       ·rw [if_pos c11] at H
        have c11b0 : decide (0 ≤ x25_2) = true:=decide_eq_true c11
        clear c11
        by_cases c12 : x25_2 < (a0.size : Int)
        ·rw [if_pos c12] at H
         have c12b0 : decide (x25_2 < (a0.size : Int)) = true:=decide_eq_true c12
         clear c12
         replace H:=Option.bind_eq_some_iff.mp H
         obtain ⟨t110,A140,H⟩:=H
         replace H : (if t110 < 0 then (some false) else (ticket_only.l0 k2 a0 t109 (a0.size : Int) (wrap64 (x25_2 + 1)))) = some r:=H
         have A14:=Aside0.mk A140
         clear A140
         by_cases c15 : t110 < 0
         ·rw [if_pos c15] at H
          have c15b0 : decide (t110 < 0) = true:=decide_eq_true c15
          clear c15
          obtain rfl:=Option.some.inj H
          have p13 : 0 ≤ (x25_2 : Int):=of_decide_eq_true (by first|(with_reducible assumption)|assumption)
          have q13 : x25_2 < (a0.size : Int):=of_decide_eq_true (by first|(with_reducible assumption)|assumption)
          have hx13:=bt_at a0 x25_2
          replace p13:=eq_true p13
          replace q13:=eq_true q13
          go_wp2_with (first|((with_reducible refine gate_callee (f:=78) rfl ?_);refine goesL_ (some 32) rfl rfl Tryd.func78 (by kernel_rfl) rfl #[.string t109,.int .u8 (bt a0 x25_2)] rfl (by (try simp only [List.map_toArray,List.map_cons,List.map_nil]);first|done|rfl|(simp only [List.length_drop,List.length_take];rfl)) ?_;(with_reducible refine (strings_IndexByte.calls t109 (bt a0 x25_2) t110 _ A14.out).mono ?_);rintro e w' ⟨rfl,⟨nd,rfl⟩⟩;refine ⟨_,rfl,?_⟩))
          go_ret
          exact ⟨by first|rfl|(simp [errW_none,errW_some] <;> rfl)|(simp [*,errW_none,errW_some] <;> rfl),by repeat (first|(with_reducible first|exact HB.out|apply below_alloc|apply pw_below_drewN|apply below_drew1)|exact HB.out)⟩
         ·rw [if_neg c15] at H
          have c15b0 : decide (t110 < 0) = false:=decide_eq_false c15
          clear c15
          have H':=Aside0.mk H
          clear H
          have p13 : 0 ≤ (x25_2 : Int):=of_decide_eq_true (by first|(with_reducible assumption)|assumption)
          have q13 : x25_2 < (a0.size : Int):=of_decide_eq_true (by first|(with_reducible assumption)|assumption)
          have hx13:=bt_at a0 x25_2
          replace p13:=eq_true p13
          replace q13:=eq_true q13
          go_wp2_with (first|((with_reducible refine gate_callee (f:=78) rfl ?_);refine goesL_ (some 32) rfl rfl Tryd.func78 (by kernel_rfl) rfl #[.string t109,.int .u8 (bt a0 x25_2)] rfl (by (try simp only [List.map_toArray,List.map_cons,List.map_nil]);first|done|rfl|(simp only [List.length_drop,List.length_take];rfl)) ?_;(with_reducible refine (strings_IndexByte.calls t109 (bt a0 x25_2) t110 _ A14.out).mono ?_);rintro e w' ⟨rfl,⟨nd,rfl⟩⟩;refine ⟨_,rfl,?_⟩))
          go_roundg k2
          case measure => have:=HJ5.out;have:=HK2.out;omega
          case rel => exact ⟨(wrap64 (x25_2 + 1)),(by first|rfl|(simp;done)|(simp;decide +kernel)|(simp [*];done)),(by first|exact H'|(subst_vars;exact H')),⟨by have:=HJ5.out;have:=HK2.out;omega⟩,⟨by repeat (first|(with_reducible first|exact HB.out|apply below_alloc|apply pw_below_drewN|apply below_drew1)|exact HB.out)⟩⟩
        ·rw [if_neg c12] at H
         exact absurd H (by simp)
       ·rw [if_neg c11] at H
        exact absurd H (by simp)
      ·rw [if_neg c10] at H
       have c10b0 : decide (x25_2 < (a0.size : Int)) = false:=decide_eq_false c10
       clear c10
       obtain rfl:=Option.some.inj H
       go_wp2
       go_ret
       exact ⟨by first|rfl|(simp [errW_none,errW_some] <;> rfl)|(simp [*,errW_none,errW_some] <;> rfl),by repeat (first|(with_reducible first|exact HB.out|apply below_alloc|apply pw_below_drewN|apply below_drew1)|exact HB.out)⟩
end Go.Proofs.YtedfgkjimnjdpaaDoor.X
namespace Go.Proofs.YtedfgkjimnjdpaaDoor.X
open Go.RowKit Go.Proofs.YtedfgkjimnjdpaaDoorW.PrintWords Go.Proofs.YtedfgkjimnjdpaaDoorW.PrintLast Go.Proofs.YtedfgkjimnjdpaaDoorW.PrintMore
attribute [local go_sem] max2_int min2_int max_two min_two max_three min_three max_four min_four
set_option linter.unusedVariables false
set_option linter.unusedSimpArgs false
def ticket_Queue.f (k : Nat) (a0 : ByteArray) : Option (Bool):=(strings_CutSuffix.f a0 (⟨#[46,102,105,102,111]⟩ : ByteArray)).bind fun bt111 => (if bt111.2 = true then (if (a0.size : Int) ≤ 80 then ((ticket_only.f k bt111.1 6 75 (([(⟨#[97,98,99,100,101,102,103,104,105,106,107,108,109,110,111,112,113,114,115,116,117,118,119,120,121,122]⟩ : ByteArray),(⟨#[65,66,67,68,69,70,71,72,73,74,75,76,77,78,79,80,81,82,83,84,85,86,87,88,89,90]⟩ : ByteArray),(⟨#[48,49,50,51,52,53,54,55,56,57]⟩ : ByteArray),(⟨#[45,95]⟩ : ByteArray)] : List ByteArray))).bind fun t116 => (some t116)) else (some false)) else (some false))
set_option maxHeartbeats 8000000 in
set_option maxRecDepth 100000 in
theorem ticket_Queue.calls (k : Nat) (a0 : ByteArray) (r : Bool) (w : World) (h : ticket_Queue.f k a0 = some r) :
  Calls Tryd.prog 18 #[.string a0] w fun e w' => e = .returned (.bool r) ∧ Below w.heap.size w w':=by
 have HB:=Aside0.mk (Below.refl w.heap.size w)
 have H : ((strings_CutSuffix.f a0 (⟨#[46,102,105,102,111]⟩ : ByteArray)).bind fun bt111 => (if bt111.2 = true then (if (a0.size : Int) ≤ 80 then ((ticket_only.f k bt111.1 6 75 (([(⟨#[97,98,99,100,101,102,103,104,105,106,107,108,109,110,111,112,113,114,115,116,117,118,119,120,121,122]⟩ : ByteArray),(⟨#[65,66,67,68,69,70,71,72,73,74,75,76,77,78,79,80,81,82,83,84,85,86,87,88,89,90]⟩ : ByteArray),(⟨#[48,49,50,51,52,53,54,55,56,57]⟩ : ByteArray),(⟨#[45,95]⟩ : ByteArray)] : List ByteArray))).bind fun t116 => (some t116)) else (some false)) else (some false))) = some r:=h
 clear h
 replace H:=Option.bind_eq_some_iff.mp H
 obtain ⟨⟨t111,t112⟩,A20,H⟩:=H
 replace H : (if t112 = true then (if (a0.size : Int) ≤ 80 then ((ticket_only.f k t111 6 75 (([(⟨#[97,98,99,100,101,102,103,104,105,106,107,108,109,110,111,112,113,114,115,116,117,118,119,120,121,122]⟩ : ByteArray),(⟨#[65,66,67,68,69,70,71,72,73,74,75,76,77,78,79,80,81,82,83,84,85,86,87,88,89,90]⟩ : ByteArray),(⟨#[48,49,50,51,52,53,54,55,56,57]⟩ : ByteArray),(⟨#[45,95]⟩ : ByteArray)] : List ByteArray))).bind fun t116 => (some t116)) else (some false)) else (some false)) = some r:=H
 have A2:=Aside0.mk A20
 clear A20
 by_cases c3 : t112 = true
 ·subst c3
  have H1 : (if (a0.size : Int) ≤ 80 then ((ticket_only.f k t111 6 75 (([(⟨#[97,98,99,100,101,102,103,104,105,106,107,108,109,110,111,112,113,114,115,116,117,118,119,120,121,122]⟩ : ByteArray),(⟨#[65,66,67,68,69,70,71,72,73,74,75,76,77,78,79,80,81,82,83,84,85,86,87,88,89,90]⟩ : ByteArray),(⟨#[48,49,50,51,52,53,54,55,56,57]⟩ : ByteArray),(⟨#[45,95]⟩ : ByteArray)] : List ByteArray))).bind fun t116 => (some t116)) else (some false)) = some r:=by rw [if_pos rfl] at H;exact H
  clear H
  have H:=H1
  clear H1
  by_cases c4 : (a0.size : Int) ≤ 80
  ·rw [if_pos c4] at H
   have c4b0 : decide ((a0.size : Int) ≤ 80) = true:=decide_eq_true c4
   have c4b1 : decide (a0.size ≤ 80) = true:=decide_eq_true (by omega)
   clear c4
   obtain ⟨y113,hy113⟩ : ∃ y_ : List ByteArray,y_ = (([(⟨#[97,98,99,100,101,102,103,104,105,106,107,108,109,110,111,112,113,114,115,116,117,118,119,120,121,122]⟩ : ByteArray),(⟨#[65,66,67,68,69,70,71,72,73,74,75,76,77,78,79,80,81,82,83,84,85,86,87,88,89,90]⟩ : ByteArray),(⟨#[48,49,50,51,52,53,54,55,56,57]⟩ : ByteArray),(⟨#[45,95]⟩ : ByteArray)] : List ByteArray)):=⟨_,rfl⟩
   replace H : ((ticket_only.f k t111 6 75 y113).bind fun t116 => (some t116)) = some r:=by first|(rw [hy113];with_reducible exact H)|(have H2_:=(Option.bind_some _ _).symm.trans H;rw [hy113];with_reducible exact H2_)|(have H2_:=(Option.bind_some _ _).symm.trans H;with_reducible exact H2_)|with_reducible exact H|(rw [hy113];exact H)|exact H
   have Ny113:=Aside0.mk hy113
   clear hy113
   replace H:=Option.bind_eq_some_iff.mp H
   obtain ⟨t116,A50,H⟩:=H
   replace H : (some t116) = some r:=H
   have A5:=Aside0.mk A50
   clear A50
   obtain rfl:=Option.some.inj H
   go_enter Tryd.func18,Tryd.ntmps18
   go_wp2_with (first|((with_reducible refine gate_callee (f:=37) rfl ?_);refine goesL_ (some 7) rfl rfl Tryd.func37 (by kernel_rfl) rfl #[.string a0,.string (⟨#[46,102,105,102,111]⟩ : ByteArray)] rfl (by (try simp only [List.map_toArray,List.map_cons,List.map_nil]);first|done|rfl|(simp only [List.length_drop,List.length_take];rfl)) ?_;(with_reducible refine (strings_CutSuffix.calls a0 (⟨#[46,102,105,102,111]⟩ : ByteArray) t111 true _ A2.out).mono ?_);rintro e w' ⟨rfl,⟨nd,rfl⟩⟩;refine ⟨_,rfl,?_⟩)|((with_reducible refine gate_dst (N:=18) rfl ?_);(try (refine gate_guard (by rfl) ?_;dsimp only));refine Kd.R_lit Kd.string _ 9 ?hg (N:=18) ?hd (xs:=([(⟨#[97,98,99,100,101,102,103,104,105,106,107,108,109,110,111,112,113,114,115,116,117,118,119,120,121,122]⟩ : ByteArray),(⟨#[65,66,67,68,69,70,71,72,73,74,75,76,77,78,79,80,81,82,83,84,85,86,87,88,89,90]⟩ : ByteArray),(⟨#[48,49,50,51,52,53,54,55,56,57]⟩ : ByteArray),(⟨#[45,95]⟩ : ByteArray)] : List ByteArray)) (inner:=[.string (⟨#[97,98,99,100,101,102,103,104,105,106,107,108,109,110,111,112,113,114,115,116,117,118,119,120,121,122]⟩ : ByteArray),.string (⟨#[65,66,67,68,69,70,71,72,73,74,75,76,77,78,79,80,81,82,83,84,85,86,87,88,89,90]⟩ : ByteArray),.string (⟨#[48,49,50,51,52,53,54,55,56,57]⟩ : ByteArray),.string (⟨#[45,95]⟩ : ByteArray)]) (ok:=fun _ => True) (okp:=fun _ => True) ?hr ?hp (fun _ hk => hk) trivial (Below.refl _ _) (Nat.le_refl _) (by simp) ?_;(case hd => rfl);(case hg => rfl);(case hr => first|(go_simp;done)|(go_simp;rfl));(case hp => exact (Reps.one (show Kd.M Kd.string _ _ _ (⟨#[97,98,99,100,101,102,103,104,105,106,107,108,109,110,111,112,113,114,115,116,117,118,119,120,121,122]⟩ : ByteArray) [.string (⟨#[97,98,99,100,101,102,103,104,105,106,107,108,109,110,111,112,113,114,115,116,117,118,119,120,121,122]⟩ : ByteArray)] from rfl) (Reps.one (show Kd.M Kd.string _ _ _ (⟨#[65,66,67,68,69,70,71,72,73,74,75,76,77,78,79,80,81,82,83,84,85,86,87,88,89,90]⟩ : ByteArray) [.string (⟨#[65,66,67,68,69,70,71,72,73,74,75,76,77,78,79,80,81,82,83,84,85,86,87,88,89,90]⟩ : ByteArray)] from rfl) (Reps.one (show Kd.M Kd.string _ _ _ (⟨#[48,49,50,51,52,53,54,55,56,57]⟩ : ByteArray) [.string (⟨#[48,49,50,51,52,53,54,55,56,57]⟩ : ByteArray)] from rfl) (Reps.one (show Kd.M Kd.string _ _ _ (⟨#[45,95]⟩ : ByteArray) [.string (⟨#[45,95]⟩ : ByteArray)] from rfl) (Reps.none _ _))))));intro v114 w6 ho7 hb hg_ hnew_;clear hg_ hnew_;(first|rw [← Ny113.out] at ho7|(simp only [Int.reduceToNat] at ho7;rw [← Ny113.out] at ho7));have n0_:=Aside0.mk (Kd.R_lower ho7 (below_size (by repeat (first|(with_reducible first|exact HB.out|apply below_alloc|apply pw_below_drewN|apply below_drew1)|exact HB.out))));have n1_:=Aside0.mk (below_step (by repeat (first|(with_reducible first|exact HB.out|apply below_alloc|apply pw_below_drewN|apply below_drew1)|exact HB.out)) hb);clear HB;have HO115:=n0_;have HB:=n1_;clear n0_ n1_;clear hb ho7;obtain ⟨Ao8,co8,eo8⟩:=Kd.R_slice HO115.out;subst eo8)|(go_at_call 38;(with_reducible refine (ticket_only.calls k t111 6 75 _ _ y113 t116 _ ?side1 ?side2 A5.out).mono ?_);(case side1 => repeat (first|exact (Kd.R_reads' HO115.out).2.2|(with_reducible refine Kd.C_alloc ?_ _)|(with_reducible refine Kd.C_drewN ?_ _)|(with_reducible refine Kd.C_drew ?_)));(case side2 => exact (Kd.R_reads' HO115.out).2.1);rintro e w9 ⟨rfl,hb⟩;have n0_:=Aside0.mk (Kd.R_below (by (with_reducible repeat (first|apply Kd.R_alloc|apply Kd.R_drewN|apply Kd.R_drew));exact HO115.out) hb);have n1_:=Aside0.mk (below_step (by repeat (first|(with_reducible first|exact HB.out|apply below_alloc|apply pw_below_drewN|apply below_drew1)|exact HB.out)) hb);clear HO115;clear HB;have HO115:=n0_;have HB:=n1_;clear n0_ n1_;(try clear hb);(try clear hb2);(try clear hk);(try clear hi)))
   go_ret
   exact ⟨by first|rfl|(simp [errW_none,errW_some] <;> rfl)|(simp [*,errW_none,errW_some] <;> rfl),by repeat (first|(with_reducible first|exact HB.out|apply below_alloc|apply pw_below_drewN|apply below_drew1)|exact HB.out)⟩
  ·rw [if_neg c4] at H
   have c4b0 : decide ((a0.size : Int) ≤ 80) = false:=decide_eq_false c4
   have c4b1 : decide (a0.size ≤ 80) = false:=decide_eq_false (by omega)
   clear c4
   obtain rfl:=Option.some.inj H
   go_enter Tryd.func18,Tryd.ntmps18
   go_wp2_with (first|((with_reducible refine gate_callee (f:=37) rfl ?_);refine goesL_ (some 7) rfl rfl Tryd.func37 (by kernel_rfl) rfl #[.string a0,.string (⟨#[46,102,105,102,111]⟩ : ByteArray)] rfl (by (try simp only [List.map_toArray,List.map_cons,List.map_nil]);first|done|rfl|(simp only [List.length_drop,List.length_take];rfl)) ?_;(with_reducible refine (strings_CutSuffix.calls a0 (⟨#[46,102,105,102,111]⟩ : ByteArray) t111 true _ A2.out).mono ?_);rintro e w' ⟨rfl,⟨nd,rfl⟩⟩;refine ⟨_,rfl,?_⟩))
   go_ret
   exact ⟨by first|rfl|(simp [errW_none,errW_some] <;> rfl)|(simp [*,errW_none,errW_some] <;> rfl),by repeat (first|(with_reducible first|exact HB.out|apply below_alloc|apply pw_below_drewN|apply below_drew1)|exact HB.out)⟩
 ·replace c3:=Bool.eq_false_iff.mpr c3
  subst c3
  have H1 : (some false) = some r:=by rw [if_neg (show ¬ (false = true) by decide)] at H;exact H
  clear H
  have H:=H1
  clear H1
  obtain rfl:=Option.some.inj H
  go_enter Tryd.func18,Tryd.ntmps18
  go_wp2_with (first|((with_reducible refine gate_callee (f:=37) rfl ?_);refine goesL_ (some 7) rfl rfl Tryd.func37 (by kernel_rfl) rfl #[.string a0,.string (⟨#[46,102,105,102,111]⟩ : ByteArray)] rfl (by (try simp only [List.map_toArray,List.map_cons,List.map_nil]);first|done|rfl|(simp only [List.length_drop,List.length_take];rfl)) ?_;(with_reducible refine (strings_CutSuffix.calls a0 (⟨#[46,102,105,102,111]⟩ : ByteArray) t111 false _ A2.out).mono ?_);rintro e w' ⟨rfl,⟨nd,rfl⟩⟩;refine ⟨_,rfl,?_⟩))
  go_ret
  exact ⟨by first|rfl|(simp [errW_none,errW_some] <;> rfl)|(simp [*,errW_none,errW_some] <;> rfl),by repeat (first|(with_reducible first|exact HB.out|apply below_alloc|apply pw_below_drewN|apply below_drew1)|exact HB.out)⟩
end Go.Proofs.YtedfgkjimnjdpaaDoor.X
namespace Go.Proofs.YtedfgkjimnjdpaaDoor.X
open Go.RowKit Go.Proofs.YtedfgkjimnjdpaaDoorW.PrintWords Go.Proofs.YtedfgkjimnjdpaaDoorW.PrintLast Go.Proofs.YtedfgkjimnjdpaaDoorW.PrintMore
attribute [local go_sem] max2_int min2_int max_two min_two max_three min_three max_four min_four
set_option linter.unusedVariables false
set_option linter.unusedSimpArgs false
def ticket_host.f (k : Nat) (a0 : ByteArray) : Option (Bool):=(ticket_only.f k a0 1 63 (([(⟨#[97,98,99,100,101,102,103,104,105,106,107,108,109,110,111,112,113,114,115,116,117,118,119,120,121,122]⟩ : ByteArray),(⟨#[48,49,50,51,52,53,54,55,56,57]⟩ : ByteArray),(⟨#[45,46]⟩ : ByteArray)] : List ByteArray))).bind fun t120 => (some t120)
set_option maxHeartbeats 8000000 in
set_option maxRecDepth 100000 in
theorem ticket_host.calls (k : Nat) (a0 : ByteArray) (r : Bool) (w : World) (h : ticket_host.f k a0 = some r) :
  Calls Tryd.prog 35 #[.string a0] w fun e w' => e = .returned (.bool r) ∧ Below w.heap.size w w':=by
 have HB:=Aside0.mk (Below.refl w.heap.size w)
 have H : ((ticket_only.f k a0 1 63 (([(⟨#[97,98,99,100,101,102,103,104,105,106,107,108,109,110,111,112,113,114,115,116,117,118,119,120,121,122]⟩ : ByteArray),(⟨#[48,49,50,51,52,53,54,55,56,57]⟩ : ByteArray),(⟨#[45,46]⟩ : ByteArray)] : List ByteArray))).bind fun t120 => (some t120)) = some r:=h
 clear h
 obtain ⟨y117,hy117⟩ : ∃ y_ : List ByteArray,y_ = (([(⟨#[97,98,99,100,101,102,103,104,105,106,107,108,109,110,111,112,113,114,115,116,117,118,119,120,121,122]⟩ : ByteArray),(⟨#[48,49,50,51,52,53,54,55,56,57]⟩ : ByteArray),(⟨#[45,46]⟩ : ByteArray)] : List ByteArray)):=⟨_,rfl⟩
 replace H : ((ticket_only.f k a0 1 63 y117).bind fun t120 => (some t120)) = some r:=by first|(rw [hy117];with_reducible exact H)|(have H2_:=(Option.bind_some _ _).symm.trans H;rw [hy117];with_reducible exact H2_)|(have H2_:=(Option.bind_some _ _).symm.trans H;with_reducible exact H2_)|with_reducible exact H|(rw [hy117];exact H)|exact H
 have Ny117:=Aside0.mk hy117
 clear hy117
 replace H:=Option.bind_eq_some_iff.mp H
 obtain ⟨t120,A20,H⟩:=H
 replace H : (some t120) = some r:=H
 have A2:=Aside0.mk A20
 clear A20
 obtain rfl:=Option.some.inj H
 go_enter Tryd.func35,Tryd.ntmps35
 go_wp2_with (first|((with_reducible refine gate_dst (N:=4) rfl ?_);refine Kd.R_lit Kd.string _ 9 ?hg (N:=4) ?hd (xs:=([(⟨#[97,98,99,100,101,102,103,104,105,106,107,108,109,110,111,112,113,114,115,116,117,118,119,120,121,122]⟩ : ByteArray),(⟨#[48,49,50,51,52,53,54,55,56,57]⟩ : ByteArray),(⟨#[45,46]⟩ : ByteArray)] : List ByteArray)) (inner:=[.string (⟨#[97,98,99,100,101,102,103,104,105,106,107,108,109,110,111,112,113,114,115,116,117,118,119,120,121,122]⟩ : ByteArray),.string (⟨#[48,49,50,51,52,53,54,55,56,57]⟩ : ByteArray),.string (⟨#[45,46]⟩ : ByteArray)]) (ok:=fun _ => True) (okp:=fun _ => True) ?hr ?hp (fun _ hk => hk) trivial (Below.refl _ _) (Nat.le_refl _) (by simp) ?_;(case hd => rfl);(case hg => rfl);(case hr => first|(go_simp;done)|(go_simp;rfl));(case hp => exact (Reps.one (show Kd.M Kd.string _ _ _ (⟨#[97,98,99,100,101,102,103,104,105,106,107,108,109,110,111,112,113,114,115,116,117,118,119,120,121,122]⟩ : ByteArray) [.string (⟨#[97,98,99,100,101,102,103,104,105,106,107,108,109,110,111,112,113,114,115,116,117,118,119,120,121,122]⟩ : ByteArray)] from rfl) (Reps.one (show Kd.M Kd.string _ _ _ (⟨#[48,49,50,51,52,53,54,55,56,57]⟩ : ByteArray) [.string (⟨#[48,49,50,51,52,53,54,55,56,57]⟩ : ByteArray)] from rfl) (Reps.one (show Kd.M Kd.string _ _ _ (⟨#[45,46]⟩ : ByteArray) [.string (⟨#[45,46]⟩ : ByteArray)] from rfl) (Reps.none _ _)))));intro v118 w3 ho4 hb hg_ hnew_;clear hg_ hnew_;(first|rw [← Ny117.out] at ho4|(simp only [Int.reduceToNat] at ho4;rw [← Ny117.out] at ho4));have n0_:=Aside0.mk (Kd.R_lower ho4 (below_size (by repeat (first|(with_reducible first|exact HB.out|apply below_alloc|apply pw_below_drewN|apply below_drew1)|exact HB.out))));have n1_:=Aside0.mk (below_step (by repeat (first|(with_reducible first|exact HB.out|apply below_alloc|apply pw_below_drewN|apply below_drew1)|exact HB.out)) hb);clear HB;have HO119:=n0_;have HB:=n1_;clear n0_ n1_;clear hb ho4;obtain ⟨Ao5,co5,eo5⟩:=Kd.R_slice HO119.out;subst eo5)|((with_reducible refine gate_callee (f:=38) rfl ?_);refine goesL_ (some 5) rfl rfl Tryd.func38 (by kernel_rfl) rfl #[.string a0,.int .i64 1,.int .i64 63,.slice Ao5 y117.length co5] rfl (by (try simp only [List.map_toArray,List.map_cons,List.map_nil]);first|done|rfl|(simp only [List.length_drop,List.length_take];rfl)) ?_;(with_reducible refine (ticket_only.calls k a0 1 63 _ _ y117 t120 _ ?side1 ?side2 A2.out).mono ?_);(case side1 => repeat (first|exact (Kd.R_reads' HO119.out).2.2|(with_reducible refine Kd.C_alloc ?_ _)|(with_reducible refine Kd.C_drewN ?_ _)|(with_reducible refine Kd.C_drew ?_)));(case side2 => exact (Kd.R_reads' HO119.out).2.1);rintro e w6 ⟨rfl,hb⟩;refine ⟨_,rfl,?_⟩;have n0_:=Aside0.mk (Kd.R_below (by (with_reducible repeat (first|apply Kd.R_alloc|apply Kd.R_drewN|apply Kd.R_drew));exact HO119.out) hb);have n1_:=Aside0.mk (below_step (by repeat (first|(with_reducible first|exact HB.out|apply below_alloc|apply pw_below_drewN|apply below_drew1)|exact HB.out)) hb);clear HO119;clear HB;have HO119:=n0_;have HB:=n1_;clear n0_ n1_;(try clear hb);(try clear hb2);(try clear hk);(try clear hi)))
 go_ret
 exact ⟨by first|rfl|(simp [errW_none,errW_some] <;> rfl)|(simp [*,errW_none,errW_some] <;> rfl),by repeat (first|(with_reducible first|exact HB.out|apply below_alloc|apply pw_below_drewN|apply below_drew1)|exact HB.out)⟩
end Go.Proofs.YtedfgkjimnjdpaaDoor.X
namespace Go.Proofs.YtedfgkjimnjdpaaDoor.X
open Go.RowKit Go.Proofs.YtedfgkjimnjdpaaDoorW.PrintWords Go.Proofs.YtedfgkjimnjdpaaDoorW.PrintLast Go.Proofs.YtedfgkjimnjdpaaDoorW.PrintMore
attribute [local go_sem] max2_int min2_int max_two min_two max_three min_three max_four min_four
set_option linter.unusedVariables false
set_option linter.unusedSimpArgs false
def ticket_account.f (k : Nat) (a0 : ByteArray) : Option (Bool):=(ticket_only.f k a0 12 12 (([(⟨#[48,49,50,51,52,53,54,55,56,57]⟩ : ByteArray)] : List ByteArray))).bind fun t124 => (some t124)
set_option maxHeartbeats 8000000 in
set_option maxRecDepth 100000 in
theorem ticket_account.calls (k : Nat) (a0 : ByteArray) (r : Bool) (w : World) (h : ticket_account.f k a0 = some r) :
  Calls Tryd.prog 36 #[.string a0] w fun e w' => e = .returned (.bool r) ∧ Below w.heap.size w w':=by
 have HB:=Aside0.mk (Below.refl w.heap.size w)
 have H : ((ticket_only.f k a0 12 12 (([(⟨#[48,49,50,51,52,53,54,55,56,57]⟩ : ByteArray)] : List ByteArray))).bind fun t124 => (some t124)) = some r:=h
 clear h
 obtain ⟨y121,hy121⟩ : ∃ y_ : List ByteArray,y_ = (([(⟨#[48,49,50,51,52,53,54,55,56,57]⟩ : ByteArray)] : List ByteArray)):=⟨_,rfl⟩
 replace H : ((ticket_only.f k a0 12 12 y121).bind fun t124 => (some t124)) = some r:=by first|(rw [hy121];with_reducible exact H)|(have H2_:=(Option.bind_some _ _).symm.trans H;rw [hy121];with_reducible exact H2_)|(have H2_:=(Option.bind_some _ _).symm.trans H;with_reducible exact H2_)|with_reducible exact H|(rw [hy121];exact H)|exact H
 have Ny121:=Aside0.mk hy121
 clear hy121
 replace H:=Option.bind_eq_some_iff.mp H
 obtain ⟨t124,A20,H⟩:=H
 replace H : (some t124) = some r:=H
 have A2:=Aside0.mk A20
 clear A20
 obtain rfl:=Option.some.inj H
 go_enter Tryd.func36,Tryd.ntmps36
 go_wp2_with (first|((with_reducible refine gate_dst (N:=4) rfl ?_);refine Kd.R_lit Kd.string _ 9 ?hg (N:=4) ?hd (xs:=([(⟨#[48,49,50,51,52,53,54,55,56,57]⟩ : ByteArray)] : List ByteArray)) (inner:=[.string (⟨#[48,49,50,51,52,53,54,55,56,57]⟩ : ByteArray)]) (ok:=fun _ => True) (okp:=fun _ => True) ?hr ?hp (fun _ hk => hk) trivial (Below.refl _ _) (Nat.le_refl _) (by simp) ?_;(case hd => rfl);(case hg => rfl);(case hr => first|(go_simp;done)|(go_simp;rfl));(case hp => exact (Reps.one (show Kd.M Kd.string _ _ _ (⟨#[48,49,50,51,52,53,54,55,56,57]⟩ : ByteArray) [.string (⟨#[48,49,50,51,52,53,54,55,56,57]⟩ : ByteArray)] from rfl) (Reps.none _ _)));intro v122 w3 ho4 hb hg_ hnew_;clear hg_ hnew_;(first|rw [← Ny121.out] at ho4|(simp only [Int.reduceToNat] at ho4;rw [← Ny121.out] at ho4));have n0_:=Aside0.mk (Kd.R_lower ho4 (below_size (by repeat (first|(with_reducible first|exact HB.out|apply below_alloc|apply pw_below_drewN|apply below_drew1)|exact HB.out))));have n1_:=Aside0.mk (below_step (by repeat (first|(with_reducible first|exact HB.out|apply below_alloc|apply pw_below_drewN|apply below_drew1)|exact HB.out)) hb);clear HB;have HO123:=n0_;have HB:=n1_;clear n0_ n1_;clear hb ho4;obtain ⟨Ao5,co5,eo5⟩:=Kd.R_slice HO123.out;subst eo5)|((with_reducible refine gate_callee (f:=38) rfl ?_);refine goesL_ (some 5) rfl rfl Tryd.func38 (by kernel_rfl) rfl #[.string a0,.int .i64 12,.int .i64 12,.slice Ao5 y121.length co5] rfl (by (try simp only [List.map_toArray,List.map_cons,List.map_nil]);first|done|rfl|(simp only [List.length_drop,List.length_take];rfl)) ?_;(with_reducible refine (ticket_only.calls k a0 12 12 _ _ y121 t124 _ ?side1 ?side2 A2.out).mono ?_);(case side1 => repeat (first|exact (Kd.R_reads' HO123.out).2.2|(with_reducible refine Kd.C_alloc ?_ _)|(with_reducible refine Kd.C_drewN ?_ _)|(with_reducible refine Kd.C_drew ?_)));(case side2 => exact (Kd.R_reads' HO123.out).2.1);rintro e w6 ⟨rfl,hb⟩;refine ⟨_,rfl,?_⟩;have n0_:=Aside0.mk (Kd.R_below (by (with_reducible repeat (first|apply Kd.R_alloc|apply Kd.R_drewN|apply Kd.R_drew));exact HO123.out) hb);have n1_:=Aside0.mk (below_step (by repeat (first|(with_reducible first|exact HB.out|apply below_alloc|apply pw_below_drewN|apply below_drew1)|exact HB.out)) hb);clear HO123;clear HB;have HO123:=n0_;have HB:=n1_;clear n0_ n1_;(try clear hb);(try clear hb2);(try clear hk);(try clear hi)))
 go_ret
 exact ⟨by first|rfl|(simp [errW_none,errW_some] <;> rfl)|(simp [*,errW_none,errW_some] <;> rfl),by repeat (first|(with_reducible first|exact HB.out|apply below_alloc|apply pw_below_drewN|apply below_drew1)|exact HB.out)⟩
end Go.Proofs.YtedfgkjimnjdpaaDoor.X
namespace Go.Proofs.YtedfgkjimnjdpaaDoor.X
open Go.RowKit Go.Proofs.YtedfgkjimnjdpaaDoorW.PrintWords Go.Proofs.YtedfgkjimnjdpaaDoorW.PrintLast Go.Proofs.YtedfgkjimnjdpaaDoorW.PrintMore
attribute [local go_sem] max2_int min2_int max_two min_two max_three min_three max_four min_four
set_option linter.unusedVariables false
set_option linter.unusedSimpArgs false
def ticket_Url.f (k : Nat) (a0 : ByteArray) (a1 : ByteArray) (a2 : ByteArray) : Option (ByteArray × Int):=(ticket_host.f k a0).bind fun t125 => (if t125 = true then ((ticket_account.f k a1).bind fun t126 => (if t126 = true then ((ticket_Queue.f k a2).bind fun t127 => (if t127 = true then (if 8 + a0.size ≤ 9223372036854775807 then (if 8 + a0.size + 1 ≤ 9223372036854775807 then (if 8 + a0.size + 1 + a1.size ≤ 9223372036854775807 then (if 8 + a0.size + 1 + a1.size + 1 ≤ 9223372036854775807 then (if 8 + a0.size + 1 + a1.size + 1 + a2.size ≤ 9223372036854775807 then (some ((((((⟨#[104,116,116,112,115,58,47,47]⟩ : ByteArray) ++ a0) ++ (⟨#[47]⟩ : ByteArray)) ++ a1) ++ (⟨#[47]⟩ : ByteArray)) ++ a2,0)) else (none)) else (none)) else (none)) else (none)) else (none)) else (some ((⟨#[]⟩ : ByteArray),2)))) else (some ((⟨#[]⟩ : ByteArray),2)))) else (some ((⟨#[]⟩ : ByteArray),2)))
set_option maxHeartbeats 8000000 in
set_option maxRecDepth 100000 in
theorem ticket_Url.calls (k : Nat) (a0 : ByteArray) (a1 : ByteArray) (a2 : ByteArray) (r1 : ByteArray) (r2 : Int) (w : World) (h : ticket_Url.f k a0 a1 a2 = some (r1,r2)) :
  Calls Tryd.prog 16 #[.string a0,.string a1,.string a2] w fun e w' => e = .returned (.tuple #[.string r1,.int .i64 r2]) ∧ Below w.heap.size w w':=by
 have HB:=Aside0.mk (Below.refl w.heap.size w)
 have H : ((ticket_host.f k a0).bind fun t125 => (if t125 = true then ((ticket_account.f k a1).bind fun t126 => (if t126 = true then ((ticket_Queue.f k a2).bind fun t127 => (if t127 = true then (if 8 + a0.size ≤ 9223372036854775807 then (if 8 + a0.size + 1 ≤ 9223372036854775807 then (if 8 + a0.size + 1 + a1.size ≤ 9223372036854775807 then (if 8 + a0.size + 1 + a1.size + 1 ≤ 9223372036854775807 then (if 8 + a0.size + 1 + a1.size + 1 + a2.size ≤ 9223372036854775807 then (some ((((((⟨#[104,116,116,112,115,58,47,47]⟩ : ByteArray) ++ a0) ++ (⟨#[47]⟩ : ByteArray)) ++ a1) ++ (⟨#[47]⟩ : ByteArray)) ++ a2,0)) else (none)) else (none)) else (none)) else (none)) else (none)) else (some ((⟨#[]⟩ : ByteArray),2)))) else (some ((⟨#[]⟩ : ByteArray),2)))) else (some ((⟨#[]⟩ : ByteArray),2)))) = some (r1,r2):=h
 clear h
 replace H:=Option.bind_eq_some_iff.mp H
 obtain ⟨t125,A40,H⟩:=H
 replace H : (if t125 = true then ((ticket_account.f k a1).bind fun t126 => (if t126 = true then ((ticket_Queue.f k a2).bind fun t127 => (if t127 = true then (if 8 + a0.size ≤ 9223372036854775807 then (if 8 + a0.size + 1 ≤ 9223372036854775807 then (if 8 + a0.size + 1 + a1.size ≤ 9223372036854775807 then (if 8 + a0.size + 1 + a1.size + 1 ≤ 9223372036854775807 then (if 8 + a0.size + 1 + a1.size + 1 + a2.size ≤ 9223372036854775807 then (some ((((((⟨#[104,116,116,112,115,58,47,47]⟩ : ByteArray) ++ a0) ++ (⟨#[47]⟩ : ByteArray)) ++ a1) ++ (⟨#[47]⟩ : ByteArray)) ++ a2,0)) else (none)) else (none)) else (none)) else (none)) else (none)) else (some ((⟨#[]⟩ : ByteArray),2)))) else (some ((⟨#[]⟩ : ByteArray),2)))) else (some ((⟨#[]⟩ : ByteArray),2))) = some (r1,r2):=H
 have A4:=Aside0.mk A40
 clear A40
 by_cases c5 : t125 = true
 ·subst c5
  have H1 : ((ticket_account.f k a1).bind fun t126 => (if t126 = true then ((ticket_Queue.f k a2).bind fun t127 => (if t127 = true then (if 8 + a0.size ≤ 9223372036854775807 then (if 8 + a0.size + 1 ≤ 9223372036854775807 then (if 8 + a0.size + 1 + a1.size ≤ 9223372036854775807 then (if 8 + a0.size + 1 + a1.size + 1 ≤ 9223372036854775807 then (if 8 + a0.size + 1 + a1.size + 1 + a2.size ≤ 9223372036854775807 then (some ((((((⟨#[104,116,116,112,115,58,47,47]⟩ : ByteArray) ++ a0) ++ (⟨#[47]⟩ : ByteArray)) ++ a1) ++ (⟨#[47]⟩ : ByteArray)) ++ a2,0)) else (none)) else (none)) else (none)) else (none)) else (none)) else (some ((⟨#[]⟩ : ByteArray),2)))) else (some ((⟨#[]⟩ : ByteArray),2)))) = some (r1,r2):=by rw [if_pos rfl] at H;exact H
  clear H
  have H:=H1
  clear H1
  replace H:=Option.bind_eq_some_iff.mp H
  obtain ⟨t126,A60,H⟩:=H
  replace H : (if t126 = true then ((ticket_Queue.f k a2).bind fun t127 => (if t127 = true then (if 8 + a0.size ≤ 9223372036854775807 then (if 8 + a0.size + 1 ≤ 9223372036854775807 then (if 8 + a0.size + 1 + a1.size ≤ 9223372036854775807 then (if 8 + a0.size + 1 + a1.size + 1 ≤ 9223372036854775807 then (if 8 + a0.size + 1 + a1.size + 1 + a2.size ≤ 9223372036854775807 then (some ((((((⟨#[104,116,116,112,115,58,47,47]⟩ : ByteArray) ++ a0) ++ (⟨#[47]⟩ : ByteArray)) ++ a1) ++ (⟨#[47]⟩ : ByteArray)) ++ a2,0)) else (none)) else (none)) else (none)) else (none)) else (none)) else (some ((⟨#[]⟩ : ByteArray),2)))) else (some ((⟨#[]⟩ : ByteArray),2))) = some (r1,r2):=H
  have A6:=Aside0.mk A60
  clear A60
  by_cases c7 : t126 = true
  ·subst c7
   have H1 : ((ticket_Queue.f k a2).bind fun t127 => (if t127 = true then (if 8 + a0.size ≤ 9223372036854775807 then (if 8 + a0.size + 1 ≤ 9223372036854775807 then (if 8 + a0.size + 1 + a1.size ≤ 9223372036854775807 then (if 8 + a0.size + 1 + a1.size + 1 ≤ 9223372036854775807 then (if 8 + a0.size + 1 + a1.size + 1 + a2.size ≤ 9223372036854775807 then (some ((((((⟨#[104,116,116,112,115,58,47,47]⟩ : ByteArray) ++ a0) ++ (⟨#[47]⟩ : ByteArray)) ++ a1) ++ (⟨#[47]⟩ : ByteArray)) ++ a2,0)) else (none)) else (none)) else (none)) else (none)) else (none)) else (some ((⟨#[]⟩ : ByteArray),2)))) = some (r1,r2):=by rw [if_pos rfl] at H;exact H
   clear H
   have H:=H1
   clear H1
   replace H:=Option.bind_eq_some_iff.mp H
   obtain ⟨t127,A80,H⟩:=H
   replace H : (if t127 = true then (if 8 + a0.size ≤ 9223372036854775807 then (if 8 + a0.size + 1 ≤ 9223372036854775807 then (if 8 + a0.size + 1 + a1.size ≤ 9223372036854775807 then (if 8 + a0.size + 1 + a1.size + 1 ≤ 9223372036854775807 then (if 8 + a0.size + 1 + a1.size + 1 + a2.size ≤ 9223372036854775807 then (some ((((((⟨#[104,116,116,112,115,58,47,47]⟩ : ByteArray) ++ a0) ++ (⟨#[47]⟩ : ByteArray)) ++ a1) ++ (⟨#[47]⟩ : ByteArray)) ++ a2,0)) else (none)) else (none)) else (none)) else (none)) else (none)) else (some ((⟨#[]⟩ : ByteArray),2))) = some (r1,r2):=H
   have A8:=Aside0.mk A80
   clear A80
   by_cases c9 : t127 = true
   ·subst c9
    have H1 : (if 8 + a0.size ≤ 9223372036854775807 then (if 8 + a0.size + 1 ≤ 9223372036854775807 then (if 8 + a0.size + 1 + a1.size ≤ 9223372036854775807 then (if 8 + a0.size + 1 + a1.size + 1 ≤ 9223372036854775807 then (if 8 + a0.size + 1 + a1.size + 1 + a2.size ≤ 9223372036854775807 then (some ((((((⟨#[104,116,116,112,115,58,47,47]⟩ : ByteArray) ++ a0) ++ (⟨#[47]⟩ : ByteArray)) ++ a1) ++ (⟨#[47]⟩ : ByteArray)) ++ a2,0)) else (none)) else (none)) else (none)) else (none)) else (none)) = some (r1,r2):=by rw [if_pos rfl] at H;exact H
    clear H
    have H:=H1
    clear H1
    by_cases c10 : 8 + a0.size ≤ 9223372036854775807
    ·rw [if_pos c10] at H
     have c10b0:=eq_true c10
     have c10b1 : decide (8 + a0.size ≤ 9223372036854775807) = true:=decide_eq_true c10
     try have c10b2 : (9223372036854775807 < 8 + a0.size) = False:=eq_false (Nat.not_lt.2 c10)
     by_cases c11 : 8 + a0.size + 1 ≤ 9223372036854775807
     ·rw [if_pos c11] at H
      have c11b0:=eq_true c11
      have c11b1 : decide (8 + a0.size + 1 ≤ 9223372036854775807) = true:=decide_eq_true c11
      try have c11b2 : (9223372036854775807 < 8 + a0.size + 1) = False:=eq_false (Nat.not_lt.2 c11)
      by_cases c12 : 8 + a0.size + 1 + a1.size ≤ 9223372036854775807
      ·rw [if_pos c12] at H
       have c12b0:=eq_true c12
       have c12b1 : decide (8 + a0.size + 1 + a1.size ≤ 9223372036854775807) = true:=decide_eq_true c12
       try have c12b2 : (9223372036854775807 < 8 + a0.size + 1 + a1.size) = False:=eq_false (Nat.not_lt.2 c12)
       by_cases c13 : 8 + a0.size + 1 + a1.size + 1 ≤ 9223372036854775807
       ·rw [if_pos c13] at H
        have c13b0:=eq_true c13
        have c13b1 : decide (8 + a0.size + 1 + a1.size + 1 ≤ 9223372036854775807) = true:=decide_eq_true c13
        try have c13b2 : (9223372036854775807 < 8 + a0.size + 1 + a1.size + 1) = False:=eq_false (Nat.not_lt.2 c13)
        by_cases c14 : 8 + a0.size + 1 + a1.size + 1 + a2.size ≤ 9223372036854775807
        ·rw [if_pos c14] at H
         have c14b0:=eq_true c14
         have c14b1 : decide (8 + a0.size + 1 + a1.size + 1 + a2.size ≤ 9223372036854775807) = true:=decide_eq_true c14
         try have c14b2 : (9223372036854775807 < 8 + a0.size + 1 + a1.size + 1 + a2.size) = False:=eq_false (Nat.not_lt.2 c14)
         simp only [Option.some.injEq,Prod.mk.injEq] at H
         obtain ⟨rfl,rfl⟩:=H
         go_enter Tryd.func16,Tryd.ntmps16
         go_wp2_with (first|((with_reducible refine gate_callee (f:=35) rfl ?_);refine goesL_ (some 9) rfl rfl Tryd.func35 (by kernel_rfl) rfl #[.string a0] rfl (by (try simp only [List.map_toArray,List.map_cons,List.map_nil]);first|done|rfl|(simp only [List.length_drop,List.length_take];rfl)) ?_;(with_reducible refine (ticket_host.calls k a0 true _ A4.out).mono ?_);rintro e w15 ⟨rfl,hb⟩;refine ⟨_,rfl,?_⟩;have n0_:=Aside0.mk (below_step (by repeat (first|(with_reducible first|exact HB.out|apply below_alloc|apply pw_below_drewN|apply below_drew1)|exact HB.out)) hb);clear HB;have HB:=n0_;clear n0_;(try clear hb);(try clear hb2);(try clear hk);(try clear hi))|(go_at_call 36;(with_reducible refine (ticket_account.calls k a1 true _ A6.out).mono ?_);rintro e w16 ⟨rfl,hb⟩;have n0_:=Aside0.mk (below_step (by repeat (first|(with_reducible first|exact HB.out|apply below_alloc|apply pw_below_drewN|apply below_drew1)|exact HB.out)) hb);clear HB;have HB:=n0_;clear n0_;(try clear hb);(try clear hb2);(try clear hk);(try clear hi))|(go_at_call 18;(with_reducible refine (ticket_Queue.calls k a2 true _ A8.out).mono ?_);rintro e w17 ⟨rfl,hb⟩;have n0_:=Aside0.mk (below_step (by repeat (first|(with_reducible first|exact HB.out|apply below_alloc|apply pw_below_drewN|apply below_drew1)|exact HB.out)) hb);clear HB;have HB:=n0_;clear n0_;(try clear hb);(try clear hb2);(try clear hk);(try clear hi)))
         go_ret2
         exact ⟨by first|rfl|(simp [errW_none,errW_some] <;> rfl)|(simp [*,errW_none,errW_some] <;> rfl),by repeat (first|(with_reducible first|exact HB.out|apply below_alloc|apply pw_below_drewN|apply below_drew1)|exact HB.out)⟩
        ·rw [if_neg c14] at H
         exact absurd H (by simp)
       ·rw [if_neg c13] at H
        exact absurd H (by simp)
      ·rw [if_neg c12] at H
       exact absurd H (by simp)
     ·rw [if_neg c11] at H
      exact absurd H (by simp)
    ·rw [if_neg c10] at H
     exact absurd H (by simp)
   ·replace c9:=Bool.eq_false_iff.mpr c9
    subst c9
    have H1 : (some ((⟨#[]⟩ : ByteArray),2)) = some (r1,r2):=by rw [if_neg (show ¬ (false = true) by decide)] at H;exact H
    clear H
    have H:=H1
    clear H1
    simp only [Option.some.injEq,Prod.mk.injEq] at H
    obtain ⟨rfl,rfl⟩:=H
    go_enter Tryd.func16,Tryd.ntmps16
    go_wp2_with (first|((with_reducible refine gate_callee (f:=35) rfl ?_);refine goesL_ (some 9) rfl rfl Tryd.func35 (by kernel_rfl) rfl #[.string a0] rfl (by (try simp only [List.map_toArray,List.map_cons,List.map_nil]);first|done|rfl|(simp only [List.length_drop,List.length_take];rfl)) ?_;(with_reducible refine (ticket_host.calls k a0 true _ A4.out).mono ?_);rintro e w18 ⟨rfl,hb⟩;refine ⟨_,rfl,?_⟩;have n0_:=Aside0.mk (below_step (by repeat (first|(with_reducible first|exact HB.out|apply below_alloc|apply pw_below_drewN|apply below_drew1)|exact HB.out)) hb);clear HB;have HB:=n0_;clear n0_;(try clear hb);(try clear hb2);(try clear hk);(try clear hi))|(go_at_call 36;(with_reducible refine (ticket_account.calls k a1 true _ A6.out).mono ?_);rintro e w19 ⟨rfl,hb⟩;have n0_:=Aside0.mk (below_step (by repeat (first|(with_reducible first|exact HB.out|apply below_alloc|apply pw_below_drewN|apply below_drew1)|exact HB.out)) hb);clear HB;have HB:=n0_;clear n0_;(try clear hb);(try clear hb2);(try clear hk);(try clear hi))|(go_at_call 18;(with_reducible refine (ticket_Queue.calls k a2 false _ A8.out).mono ?_);rintro e w20 ⟨rfl,hb⟩;have n0_:=Aside0.mk (below_step (by repeat (first|(with_reducible first|exact HB.out|apply below_alloc|apply pw_below_drewN|apply below_drew1)|exact HB.out)) hb);clear HB;have HB:=n0_;clear n0_;(try clear hb);(try clear hb2);(try clear hk);(try clear hi)))
    go_ret2
    exact ⟨by first|rfl|(simp [errW_none,errW_some] <;> rfl)|(simp [*,errW_none,errW_some] <;> rfl),by repeat (first|(with_reducible first|exact HB.out|apply below_alloc|apply pw_below_drewN|apply below_drew1)|exact HB.out)⟩
  ·replace c7:=Bool.eq_false_iff.mpr c7
   subst c7
   have H1 : (some ((⟨#[]⟩ : ByteArray),2)) = some (r1,r2):=by rw [if_neg (show ¬ (false = true) by decide)] at H;exact H
   clear H
   have H:=H1
   clear H1
   simp only [Option.some.injEq,Prod.mk.injEq] at H
   obtain ⟨rfl,rfl⟩:=H
   go_enter Tryd.func16,Tryd.ntmps16
   go_wp2_with (first|((with_reducible refine gate_callee (f:=35) rfl ?_);refine goesL_ (some 9) rfl rfl Tryd.func35 (by kernel_rfl) rfl #[.string a0] rfl (by (try simp only [List.map_toArray,List.map_cons,List.map_nil]);first|done|rfl|(simp only [List.length_drop,List.length_take];rfl)) ?_;(with_reducible refine (ticket_host.calls k a0 true _ A4.out).mono ?_);rintro e w21 ⟨rfl,hb⟩;refine ⟨_,rfl,?_⟩;have n0_:=Aside0.mk (below_step (by repeat (first|(with_reducible first|exact HB.out|apply below_alloc|apply pw_below_drewN|apply below_drew1)|exact HB.out)) hb);clear HB;have HB:=n0_;clear n0_;(try clear hb);(try clear hb2);(try clear hk);(try clear hi))|(go_at_call 36;(with_reducible refine (ticket_account.calls k a1 false _ A6.out).mono ?_);rintro e w22 ⟨rfl,hb⟩;have n0_:=Aside0.mk (below_step (by repeat (first|(with_reducible first|exact HB.out|apply below_alloc|apply pw_below_drewN|apply below_drew1)|exact HB.out)) hb);clear HB;have HB:=n0_;clear n0_;(try clear hb);(try clear hb2);(try clear hk);(try clear hi)))
   go_ret2
   exact ⟨by first|rfl|(simp [errW_none,errW_some] <;> rfl)|(simp [*,errW_none,errW_some] <;> rfl),by repeat (first|(with_reducible first|exact HB.out|apply below_alloc|apply pw_below_drewN|apply below_drew1)|exact HB.out)⟩
 ·replace c5:=Bool.eq_false_iff.mpr c5
  subst c5
  have H1 : (some ((⟨#[]⟩ : ByteArray),2)) = some (r1,r2):=by rw [if_neg (show ¬ (false = true) by decide)] at H;exact H
  clear H
  have H:=H1
  clear H1
  simp only [Option.some.injEq,Prod.mk.injEq] at H
  obtain ⟨rfl,rfl⟩:=H
  go_enter Tryd.func16,Tryd.ntmps16
  go_wp2_with (first|((with_reducible refine gate_callee (f:=35) rfl ?_);refine goesL_ (some 9) rfl rfl Tryd.func35 (by kernel_rfl) rfl #[.string a0] rfl (by (try simp only [List.map_toArray,List.map_cons,List.map_nil]);first|done|rfl|(simp only [List.length_drop,List.length_take];rfl)) ?_;(with_reducible refine (ticket_host.calls k a0 false _ A4.out).mono ?_);rintro e w23 ⟨rfl,hb⟩;refine ⟨_,rfl,?_⟩;have n0_:=Aside0.mk (below_step (by repeat (first|(with_reducible first|exact HB.out|apply below_alloc|apply pw_below_drewN|apply below_drew1)|exact HB.out)) hb);clear HB;have HB:=n0_;clear n0_;(try clear hb);(try clear hb2);(try clear hk);(try clear hi)))
  go_ret2
  exact ⟨by first|rfl|(simp [errW_none,errW_some] <;> rfl)|(simp [*,errW_none,errW_some] <;> rfl),by repeat (first|(with_reducible first|exact HB.out|apply below_alloc|apply pw_below_drewN|apply below_drew1)|exact HB.out)⟩
end Go.Proofs.YtedfgkjimnjdpaaDoor.X
namespace Go.Proofs.YtedfgkjimnjdpaaDoor.X
open Go.RowKit Go.Proofs.YtedfgkjimnjdpaaDoorW.PrintWords Go.Proofs.YtedfgkjimnjdpaaDoorW.PrintLast Go.Proofs.YtedfgkjimnjdpaaDoorW.PrintMore
attribute [local go_sem] max2_int min2_int max_two min_two max_three min_three max_four min_four
set_option linter.unusedVariables false
set_option linter.unusedSimpArgs false
def racewaylaw27_works.f (k : Nat)  : Option (Bool):=(ticket_Url.f k (⟨#[115,113,115,46,108,111,99,97,108]⟩ : ByteArray) (⟨#[49,50,51,52,53,54,55,56,57,48,49,50]⟩ : ByteArray) (⟨#[97,46,102,105,102,111]⟩ : ByteArray)).bind fun bt128 => ((ticket_Url.f k (⟨#[115,113,115,46,108,111,99,97,108]⟩ : ByteArray) (⟨#[49,50,51,52,53,54,55,56,57,48,49,50]⟩ : ByteArray) (⟨#[111,114,100,101,114,115,46,102,105,102,111]⟩ : ByteArray)).bind fun bt130 => (if bt128.2 = 2 then (if bt130.1.toList = ([104,116,116,112,115,58,47,47,115,113,115,46,108,111,99,97,108,47,49,50,51,52,53,54,55,56,57,48,49,50,47,111,114,100,101,114,115,46,102,105,102,111] : List UInt8) then (if bt130.2 = 0 then ((ticket_Sequence.f 7).bind fun t132 => (some (t132.toList == ([48,48,48,48,48,48,48,48,48,48,48,48,48,48,48,48,48,48,48,55] : List UInt8)))) else (some false)) else (some false)) else (some false)))
set_option maxHeartbeats 8000000 in
set_option maxRecDepth 100000 in
theorem racewaylaw27_works.calls (k : Nat)  (r : Bool) (w : World) (h : racewaylaw27_works.f k  = some r) :
  Calls Tryd.prog 11 #[] w fun e w' => e = .returned (.bool r) ∧ Below w.heap.size w w':=by
 have HB:=Aside0.mk (Below.refl w.heap.size w)
 have H : ((ticket_Url.f k (⟨#[115,113,115,46,108,111,99,97,108]⟩ : ByteArray) (⟨#[49,50,51,52,53,54,55,56,57,48,49,50]⟩ : ByteArray) (⟨#[97,46,102,105,102,111]⟩ : ByteArray)).bind fun bt128 => ((ticket_Url.f k (⟨#[115,113,115,46,108,111,99,97,108]⟩ : ByteArray) (⟨#[49,50,51,52,53,54,55,56,57,48,49,50]⟩ : ByteArray) (⟨#[111,114,100,101,114,115,46,102,105,102,111]⟩ : ByteArray)).bind fun bt130 => (if bt128.2 = 2 then (if bt130.1.toList = ([104,116,116,112,115,58,47,47,115,113,115,46,108,111,99,97,108,47,49,50,51,52,53,54,55,56,57,48,49,50,47,111,114,100,101,114,115,46,102,105,102,111] : List UInt8) then (if bt130.2 = 0 then ((ticket_Sequence.f 7).bind fun t132 => (some (t132.toList == ([48,48,48,48,48,48,48,48,48,48,48,48,48,48,48,48,48,48,48,55] : List UInt8)))) else (some false)) else (some false)) else (some false)))) = some r:=h
 clear h
 replace H:=Option.bind_eq_some_iff.mp H
 obtain ⟨⟨t128,t129⟩,A10,H⟩:=H
 replace H : ((ticket_Url.f k (⟨#[115,113,115,46,108,111,99,97,108]⟩ : ByteArray) (⟨#[49,50,51,52,53,54,55,56,57,48,49,50]⟩ : ByteArray) (⟨#[111,114,100,101,114,115,46,102,105,102,111]⟩ : ByteArray)).bind fun bt130 => (if t129 = 2 then (if bt130.1.toList = ([104,116,116,112,115,58,47,47,115,113,115,46,108,111,99,97,108,47,49,50,51,52,53,54,55,56,57,48,49,50,47,111,114,100,101,114,115,46,102,105,102,111] : List UInt8) then (if bt130.2 = 0 then ((ticket_Sequence.f 7).bind fun t132 => (some (t132.toList == ([48,48,48,48,48,48,48,48,48,48,48,48,48,48,48,48,48,48,48,55] : List UInt8)))) else (some false)) else (some false)) else (some false))) = some r:=H
 have A1:=Aside0.mk A10
 clear A10
 replace H:=Option.bind_eq_some_iff.mp H
 obtain ⟨⟨t130,t131⟩,A20,H⟩:=H
 replace H : (if t129 = 2 then (if t130.toList = ([104,116,116,112,115,58,47,47,115,113,115,46,108,111,99,97,108,47,49,50,51,52,53,54,55,56,57,48,49,50,47,111,114,100,101,114,115,46,102,105,102,111] : List UInt8) then (if t131 = 0 then ((ticket_Sequence.f 7).bind fun t132 => (some (t132.toList == ([48,48,48,48,48,48,48,48,48,48,48,48,48,48,48,48,48,48,48,55] : List UInt8)))) else (some false)) else (some false)) else (some false)) = some r:=H
 have A2:=Aside0.mk A20
 clear A20
 by_cases c3 : t129 = 2
 ·rw [if_pos c3] at H
  have c3b0 : (t129 == 2) = true:=beq_iff_eq.mpr c3
  have c3b1 : (t129 != 2) = false:=bne_eq_false_iff_eq.mpr c3
  clear c3
  by_cases c4 : t130.toList = ([104,116,116,112,115,58,47,47,115,113,115,46,108,111,99,97,108,47,49,50,51,52,53,54,55,56,57,48,49,50,47,111,114,100,101,114,115,46,102,105,102,111] : List UInt8)
  ·rw [if_pos c4] at H
   have c4b0 : (t130.toList == ([104,116,116,112,115,58,47,47,115,113,115,46,108,111,99,97,108,47,49,50,51,52,53,54,55,56,57,48,49,50,47,111,114,100,101,114,115,46,102,105,102,111] : List UInt8)) = true:=beq_iff_eq.mpr c4
   have c4b1 : (t130.toList != ([104,116,116,112,115,58,47,47,115,113,115,46,108,111,99,97,108,47,49,50,51,52,53,54,55,56,57,48,49,50,47,111,114,100,101,114,115,46,102,105,102,111] : List UInt8)) = false:=bne_eq_false_iff_eq.mpr c4
   clear c4
   by_cases c5 : t131 = 0
   ·rw [if_pos c5] at H
    have c5b0 : (t131 == 0) = true:=beq_iff_eq.mpr c5
    have c5b1 : (t131 != 0) = false:=bne_eq_false_iff_eq.mpr c5
    clear c5
    replace H:=Option.bind_eq_some_iff.mp H
    obtain ⟨t132,A60,H⟩:=H
    replace H : (some (t132.toList == ([48,48,48,48,48,48,48,48,48,48,48,48,48,48,48,48,48,48,48,55] : List UInt8))) = some r:=H
    have A6:=Aside0.mk A60
    clear A60
    obtain rfl:=Option.some.inj H
    go_enter Tryd.func11,Tryd.ntmps11
    go_wp2_with (first|((with_reducible refine gate_callee (f:=16) rfl ?_);refine goesL_ (some 6) rfl rfl Tryd.func16 (by kernel_rfl) rfl #[.string (⟨#[115,113,115,46,108,111,99,97,108]⟩ : ByteArray),.string (⟨#[49,50,51,52,53,54,55,56,57,48,49,50]⟩ : ByteArray),.string (⟨#[97,46,102,105,102,111]⟩ : ByteArray)] rfl (by (try simp only [List.map_toArray,List.map_cons,List.map_nil]);first|done|rfl|(simp only [List.length_drop,List.length_take];rfl)) ?_;(with_reducible refine (ticket_Url.calls k (⟨#[115,113,115,46,108,111,99,97,108]⟩ : ByteArray) (⟨#[49,50,51,52,53,54,55,56,57,48,49,50]⟩ : ByteArray) (⟨#[97,46,102,105,102,111]⟩ : ByteArray) t128 t129 _ A1.out).mono ?_);rintro e w7 ⟨rfl,hb⟩;refine ⟨_,rfl,?_⟩;have n0_:=Aside0.mk (below_step (by repeat (first|(with_reducible first|exact HB.out|apply below_alloc|apply pw_below_drewN|apply below_drew1)|exact HB.out)) hb);clear HB;have HB:=n0_;clear n0_;(try clear hb);(try clear hb2);(try clear hk);(try clear hi))|((with_reducible refine gate_callee (f:=16) rfl ?_);refine goesL_ (some 10) rfl rfl Tryd.func16 (by kernel_rfl) rfl #[.string (⟨#[115,113,115,46,108,111,99,97,108]⟩ : ByteArray),.string (⟨#[49,50,51,52,53,54,55,56,57,48,49,50]⟩ : ByteArray),.string (⟨#[111,114,100,101,114,115,46,102,105,102,111]⟩ : ByteArray)] rfl (by (try simp only [List.map_toArray,List.map_cons,List.map_nil]);first|done|rfl|(simp only [List.length_drop,List.length_take];rfl)) ?_;(with_reducible refine (ticket_Url.calls k (⟨#[115,113,115,46,108,111,99,97,108]⟩ : ByteArray) (⟨#[49,50,51,52,53,54,55,56,57,48,49,50]⟩ : ByteArray) (⟨#[111,114,100,101,114,115,46,102,105,102,111]⟩ : ByteArray) t130 t131 _ A2.out).mono ?_);rintro e w8 ⟨rfl,hb⟩;refine ⟨_,rfl,?_⟩;have n0_:=Aside0.mk (below_step (by repeat (first|(with_reducible first|exact HB.out|apply below_alloc|apply pw_below_drewN|apply below_drew1)|exact HB.out)) hb);clear HB;have HB:=n0_;clear n0_;(try clear hb);(try clear hb2);(try clear hk);(try clear hi))|(go_at_call 10;(with_reducible refine (ticket_Sequence.calls 7 t132 _ A6.out).mono ?_);rintro e w9 ⟨rfl,hb⟩;have n0_:=Aside0.mk (below_step (by repeat (first|(with_reducible first|exact HB.out|apply below_alloc|apply pw_below_drewN|apply below_drew1)|exact HB.out)) hb);clear HB;have HB:=n0_;clear n0_;(try clear hb);(try clear hb2);(try clear hk);(try clear hi)))
    go_ret
    exact ⟨by first|rfl|(simp [errW_none,errW_some] <;> rfl)|(simp [*,errW_none,errW_some] <;> rfl),by repeat (first|(with_reducible first|exact HB.out|apply below_alloc|apply pw_below_drewN|apply below_drew1)|exact HB.out)⟩
   ·rw [if_neg c5] at H
    have c5b0 : (t131 == 0) = false:=beq_eq_false_iff_ne.mpr c5
    have c5b1 : (t131 != 0) = true:=bne_iff_ne.mpr c5
    obtain rfl:=Option.some.inj H
    go_enter Tryd.func11,Tryd.ntmps11
    go_wp2_with (first|((with_reducible refine gate_callee (f:=16) rfl ?_);refine goesL_ (some 6) rfl rfl Tryd.func16 (by kernel_rfl) rfl #[.string (⟨#[115,113,115,46,108,111,99,97,108]⟩ : ByteArray),.string (⟨#[49,50,51,52,53,54,55,56,57,48,49,50]⟩ : ByteArray),.string (⟨#[97,46,102,105,102,111]⟩ : ByteArray)] rfl (by (try simp only [List.map_toArray,List.map_cons,List.map_nil]);first|done|rfl|(simp only [List.length_drop,List.length_take];rfl)) ?_;(with_reducible refine (ticket_Url.calls k (⟨#[115,113,115,46,108,111,99,97,108]⟩ : ByteArray) (⟨#[49,50,51,52,53,54,55,56,57,48,49,50]⟩ : ByteArray) (⟨#[97,46,102,105,102,111]⟩ : ByteArray) t128 t129 _ A1.out).mono ?_);rintro e w10 ⟨rfl,hb⟩;refine ⟨_,rfl,?_⟩;have n0_:=Aside0.mk (below_step (by repeat (first|(with_reducible first|exact HB.out|apply below_alloc|apply pw_below_drewN|apply below_drew1)|exact HB.out)) hb);clear HB;have HB:=n0_;clear n0_;(try clear hb);(try clear hb2);(try clear hk);(try clear hi))|((with_reducible refine gate_callee (f:=16) rfl ?_);refine goesL_ (some 10) rfl rfl Tryd.func16 (by kernel_rfl) rfl #[.string (⟨#[115,113,115,46,108,111,99,97,108]⟩ : ByteArray),.string (⟨#[49,50,51,52,53,54,55,56,57,48,49,50]⟩ : ByteArray),.string (⟨#[111,114,100,101,114,115,46,102,105,102,111]⟩ : ByteArray)] rfl (by (try simp only [List.map_toArray,List.map_cons,List.map_nil]);first|done|rfl|(simp only [List.length_drop,List.length_take];rfl)) ?_;(with_reducible refine (ticket_Url.calls k (⟨#[115,113,115,46,108,111,99,97,108]⟩ : ByteArray) (⟨#[49,50,51,52,53,54,55,56,57,48,49,50]⟩ : ByteArray) (⟨#[111,114,100,101,114,115,46,102,105,102,111]⟩ : ByteArray) t130 t131 _ A2.out).mono ?_);rintro e w11 ⟨rfl,hb⟩;refine ⟨_,rfl,?_⟩;have n0_:=Aside0.mk (below_step (by repeat (first|(with_reducible first|exact HB.out|apply below_alloc|apply pw_below_drewN|apply below_drew1)|exact HB.out)) hb);clear HB;have HB:=n0_;clear n0_;(try clear hb);(try clear hb2);(try clear hk);(try clear hi)))
    go_ret
    exact ⟨by first|rfl|(simp [errW_none,errW_some] <;> rfl)|(simp [*,errW_none,errW_some] <;> rfl),by repeat (first|(with_reducible first|exact HB.out|apply below_alloc|apply pw_below_drewN|apply below_drew1)|exact HB.out)⟩
  ·rw [if_neg c4] at H
   have c4b0 : (t130.toList == ([104,116,116,112,115,58,47,47,115,113,115,46,108,111,99,97,108,47,49,50,51,52,53,54,55,56,57,48,49,50,47,111,114,100,101,114,115,46,102,105,102,111] : List UInt8)) = false:=beq_eq_false_iff_ne.mpr c4
   have c4b1 : (t130.toList != ([104,116,116,112,115,58,47,47,115,113,115,46,108,111,99,97,108,47,49,50,51,52,53,54,55,56,57,48,49,50,47,111,114,100,101,114,115,46,102,105,102,111] : List UInt8)) = true:=bne_iff_ne.mpr c4
   obtain rfl:=Option.some.inj H
   go_enter Tryd.func11,Tryd.ntmps11
   go_wp2_with (first|((with_reducible refine gate_callee (f:=16) rfl ?_);refine goesL_ (some 6) rfl rfl Tryd.func16 (by kernel_rfl) rfl #[.string (⟨#[115,113,115,46,108,111,99,97,108]⟩ : ByteArray),.string (⟨#[49,50,51,52,53,54,55,56,57,48,49,50]⟩ : ByteArray),.string (⟨#[97,46,102,105,102,111]⟩ : ByteArray)] rfl (by (try simp only [List.map_toArray,List.map_cons,List.map_nil]);first|done|rfl|(simp only [List.length_drop,List.length_take];rfl)) ?_;(with_reducible refine (ticket_Url.calls k (⟨#[115,113,115,46,108,111,99,97,108]⟩ : ByteArray) (⟨#[49,50,51,52,53,54,55,56,57,48,49,50]⟩ : ByteArray) (⟨#[97,46,102,105,102,111]⟩ : ByteArray) t128 t129 _ A1.out).mono ?_);rintro e w12 ⟨rfl,hb⟩;refine ⟨_,rfl,?_⟩;have n0_:=Aside0.mk (below_step (by repeat (first|(with_reducible first|exact HB.out|apply below_alloc|apply pw_below_drewN|apply below_drew1)|exact HB.out)) hb);clear HB;have HB:=n0_;clear n0_;(try clear hb);(try clear hb2);(try clear hk);(try clear hi))|((with_reducible refine gate_callee (f:=16) rfl ?_);refine goesL_ (some 10) rfl rfl Tryd.func16 (by kernel_rfl) rfl #[.string (⟨#[115,113,115,46,108,111,99,97,108]⟩ : ByteArray),.string (⟨#[49,50,51,52,53,54,55,56,57,48,49,50]⟩ : ByteArray),.string (⟨#[111,114,100,101,114,115,46,102,105,102,111]⟩ : ByteArray)] rfl (by (try simp only [List.map_toArray,List.map_cons,List.map_nil]);first|done|rfl|(simp only [List.length_drop,List.length_take];rfl)) ?_;(with_reducible refine (ticket_Url.calls k (⟨#[115,113,115,46,108,111,99,97,108]⟩ : ByteArray) (⟨#[49,50,51,52,53,54,55,56,57,48,49,50]⟩ : ByteArray) (⟨#[111,114,100,101,114,115,46,102,105,102,111]⟩ : ByteArray) t130 t131 _ A2.out).mono ?_);rintro e w13 ⟨rfl,hb⟩;refine ⟨_,rfl,?_⟩;have n0_:=Aside0.mk (below_step (by repeat (first|(with_reducible first|exact HB.out|apply below_alloc|apply pw_below_drewN|apply below_drew1)|exact HB.out)) hb);clear HB;have HB:=n0_;clear n0_;(try clear hb);(try clear hb2);(try clear hk);(try clear hi)))
   go_ret
   exact ⟨by first|rfl|(simp [errW_none,errW_some] <;> rfl)|(simp [*,errW_none,errW_some] <;> rfl),by repeat (first|(with_reducible first|exact HB.out|apply below_alloc|apply pw_below_drewN|apply below_drew1)|exact HB.out)⟩
 ·rw [if_neg c3] at H
  have c3b0 : (t129 == 2) = false:=beq_eq_false_iff_ne.mpr c3
  have c3b1 : (t129 != 2) = true:=bne_iff_ne.mpr c3
  obtain rfl:=Option.some.inj H
  go_enter Tryd.func11,Tryd.ntmps11
  go_wp2_with (first|((with_reducible refine gate_callee (f:=16) rfl ?_);refine goesL_ (some 6) rfl rfl Tryd.func16 (by kernel_rfl) rfl #[.string (⟨#[115,113,115,46,108,111,99,97,108]⟩ : ByteArray),.string (⟨#[49,50,51,52,53,54,55,56,57,48,49,50]⟩ : ByteArray),.string (⟨#[97,46,102,105,102,111]⟩ : ByteArray)] rfl (by (try simp only [List.map_toArray,List.map_cons,List.map_nil]);first|done|rfl|(simp only [List.length_drop,List.length_take];rfl)) ?_;(with_reducible refine (ticket_Url.calls k (⟨#[115,113,115,46,108,111,99,97,108]⟩ : ByteArray) (⟨#[49,50,51,52,53,54,55,56,57,48,49,50]⟩ : ByteArray) (⟨#[97,46,102,105,102,111]⟩ : ByteArray) t128 t129 _ A1.out).mono ?_);rintro e w14 ⟨rfl,hb⟩;refine ⟨_,rfl,?_⟩;have n0_:=Aside0.mk (below_step (by repeat (first|(with_reducible first|exact HB.out|apply below_alloc|apply pw_below_drewN|apply below_drew1)|exact HB.out)) hb);clear HB;have HB:=n0_;clear n0_;(try clear hb);(try clear hb2);(try clear hk);(try clear hi))|((with_reducible refine gate_callee (f:=16) rfl ?_);refine goesL_ (some 10) rfl rfl Tryd.func16 (by kernel_rfl) rfl #[.string (⟨#[115,113,115,46,108,111,99,97,108]⟩ : ByteArray),.string (⟨#[49,50,51,52,53,54,55,56,57,48,49,50]⟩ : ByteArray),.string (⟨#[111,114,100,101,114,115,46,102,105,102,111]⟩ : ByteArray)] rfl (by (try simp only [List.map_toArray,List.map_cons,List.map_nil]);first|done|rfl|(simp only [List.length_drop,List.length_take];rfl)) ?_;(with_reducible refine (ticket_Url.calls k (⟨#[115,113,115,46,108,111,99,97,108]⟩ : ByteArray) (⟨#[49,50,51,52,53,54,55,56,57,48,49,50]⟩ : ByteArray) (⟨#[111,114,100,101,114,115,46,102,105,102,111]⟩ : ByteArray) t130 t131 _ A2.out).mono ?_);rintro e w15 ⟨rfl,hb⟩;refine ⟨_,rfl,?_⟩;have n0_:=Aside0.mk (below_step (by repeat (first|(with_reducible first|exact HB.out|apply below_alloc|apply pw_below_drewN|apply below_drew1)|exact HB.out)) hb);clear HB;have HB:=n0_;clear n0_;(try clear hb);(try clear hb2);(try clear hk);(try clear hi)))
  go_ret
  exact ⟨by first|rfl|(simp [errW_none,errW_some] <;> rfl)|(simp [*,errW_none,errW_some] <;> rfl),by repeat (first|(with_reducible first|exact HB.out|apply below_alloc|apply pw_below_drewN|apply below_drew1)|exact HB.out)⟩
end Go.Proofs.YtedfgkjimnjdpaaDoor.X
namespace Go.Proofs.YtedfgkjimnjdpaaDoor.X
open Go.RowKit Go.Proofs.YtedfgkjimnjdpaaDoorW.PrintWords Go.Proofs.YtedfgkjimnjdpaaDoorW.PrintLast Go.Proofs.YtedfgkjimnjdpaaDoorW.PrintMore
attribute [local go_sem] max2_int min2_int max_two min_two max_three min_three max_four min_four
set_option linter.unusedVariables false
set_option linter.unusedSimpArgs false
def racewaylaw27_few.f (a0_0 : Int) (a0_1 : ByteArray) (a0_2 : Int) (a0_3 : Int) : Option (Int × ByteArray × Int × Int):=if 0 ≤ (mn (a0_1.size : Int) 60) then (if (mn (a0_1.size : Int) 60) ≤ (a0_1.size : Int) then (some (a0_0,a0_1.extract 0 ((mn (a0_1.size : Int) 60) : Int).toNat,a0_2,a0_3)) else (none)) else (none)
set_option maxHeartbeats 8000000 in
set_option maxRecDepth 100000 in
theorem racewaylaw27_few.calls (a0_0 : Int) (a0_1 : ByteArray) (a0_2 : Int) (a0_3 : Int) (r1 : Int) (r2 : ByteArray) (r3 : Int) (r4 : Int) (w : World) (h : racewaylaw27_few.f a0_0 a0_1 a0_2 a0_3 = some (r1,r2,r3,r4)) :
  Calls Tryd.prog 19 #[.agg #[.int .i64 a0_0,.string a0_1,.int .i64 a0_2,.int .i64 a0_3]] w fun e w' => e = .returned (.agg #[.int .i64 r1,.string r2,.int .i64 r3,.int .i64 r4]) ∧ Below w.heap.size w w':=by
 have hu39:=Tryd.underlying39
 have HB:=Aside0.mk (Below.refl w.heap.size w)
 have H : (if 0 ≤ (mn (a0_1.size : Int) 60) then (if (mn (a0_1.size : Int) 60) ≤ (a0_1.size : Int) then (some (a0_0,a0_1.extract 0 ((mn (a0_1.size : Int) 60) : Int).toNat,a0_2,a0_3)) else (none)) else (none)) = some (r1,r2,r3,r4):=h
 clear h
 obtain ⟨ji2,hji2⟩ : ∃ j_ : Int,(mn (a0_1.size : Int) 60) = j_:=⟨_,rfl⟩
 replace H : (if 0 ≤ (ji2) then (if (ji2) ≤ (a0_1.size : Int) then (some (a0_0,a0_1.extract 0 ((ji2) : Int).toNat,a0_2,a0_3)) else (none)) else (none)) = some (r1,r2,r3,r4):=by first|(rw [hji2] at H;exact H)|(simp only [hji2] at H ⊢;exact H)
 (try (have hji2h : ji2 ≤ 60:=by (rw [← hji2];unfold mn;(repeat' split) <;> omega)))
 (try (have hji2g : ji2 ≤ 64:=by omega))
 (try (have hji2l : 0 ≤ ji2:=by (rw [← hji2];unfold mn;(repeat' split) <;> omega)))
 (try (have hji2m : 0 ≤ ji2:=by omega))
 have hji2_ : (if 60 < (a0_1.size : Int) then 60 else (a0_1.size : Int)) = ji2:=hji2
 by_cases c3 : 0 ≤ (ji2)
 ·rw [if_pos c3] at H
  have c3b0:=eq_true c3
  have c3b1 : decide (0 ≤ (ji2)) = true:=decide_eq_true c3
  clear c3
  by_cases c4 : (ji2) ≤ (a0_1.size : Int)
  ·rw [if_pos c4] at H
   have c4b0:=eq_true c4
   have c4b1 : decide ((ji2) ≤ (a0_1.size : Int)) = true:=decide_eq_true c4
   clear c4
   simp only [Option.some.injEq,Prod.mk.injEq] at H
   obtain ⟨rfl,rfl,rfl,rfl⟩:=H
   go_enter Tryd.func19,Tryd.ntmps19
   go_wp2_with (first|((with_reducible refine gate_dst (N:=1) rfl ?_);refine box_event ?hg (N:=1) ?hd (cs:=#[.int .i64 a0_0,.string a0_1,.int .i64 a0_2,.int .i64 a0_3]) (t:=39) ?hr ?_;(case hd => rfl);(case hg => rfl);(case hr => first|(go_simp;done)|(go_simp;rfl));intro gb129 hg w5 hbox hb;have n0_:=Aside0.mk (below_step (by repeat (first|(with_reducible first|exact HB.out|apply below_alloc|apply pw_below_drewN|apply below_drew1)|exact HB.out)) hb);have n1_:=Aside0.mk (hbox);have n2_:=Aside0.mk ((by rw [hg];exact (below_size (by repeat (first|(with_reducible first|exact HB.out|apply below_alloc|apply pw_below_drewN|apply below_drew1)|exact HB.out))) : w.heap.size ≤ gb129));have n3_:=Aside0.mk ((by rw [hg];exact (below_size (by repeat (first|(with_reducible first|exact HB.out|apply below_alloc|apply pw_below_drewN|apply below_drew1)|exact HB.out))) : w.heap.size ≤ gb129));clear HB;have HB:=n0_;have BK129:=n1_;have GW129:=n2_;have GE129:=n3_;clear n0_ n1_ n2_ n3_;clear hb hbox hg)|((with_reducible refine gate_dst (N:=2) rfl ?_);refine box_event ?hg (N:=2) ?hd (cs:=#[.int .i64 0,.string (⟨#[]⟩ : ByteArray),.int .i64 0,.int .i64 0]) (t:=39) ?hr ?_;(case hd => rfl);(case hg => rfl);(case hr => first|(go_simp;done)|(go_simp;rfl));intro gb130 hg w6 hbox hb;have n0_:=Aside0.mk (blk_below (g:=gb129) (o:=.cells #[.int .i64 a0_0,.string a0_1,.int .i64 a0_2,.int .i64 a0_3] 39 (0,0)) (by (with_reducible repeat (first|refine blk_drewN ?_ _|refine blk_drew ?_|refine blk_alloc ?_ _));exact BK129.out) hb);have n1_:=Aside0.mk (below_step (by repeat (first|(with_reducible first|exact HB.out|apply below_alloc|apply pw_below_drewN|apply below_drew1|refine below_set ?_ GE129.out)|exact HB.out)) hb);have n2_:=Aside0.mk (hbox);have n3_:=Aside0.mk ((by rw [hg];exact (below_size (by repeat (first|(with_reducible first|exact HB.out|apply below_alloc|apply pw_below_drewN|apply below_drew1|refine below_set ?_ GE129.out)|exact HB.out))) : w.heap.size ≤ gb130));have n4_:=Aside0.mk ((by rw [hg];exact (below_size (by repeat (first|(with_reducible first|exact HB.out|apply below_alloc|apply pw_below_drewN|apply below_drew1|refine below_set ?_ GE129.out)|exact HB.out))) : w.heap.size ≤ gb130));have n5_:=Aside0.mk ((by rw [hg];exact Nat.ne_of_lt (blk_lt (g:=gb129) (o:=.cells #[.int .i64 a0_0,.string a0_1,.int .i64 a0_2,.int .i64 a0_3] 39 (0,0)) (by (with_reducible repeat (first|refine blk_drewN ?_ _|refine blk_drew ?_|refine blk_alloc ?_ _));exact BK129.out)) : gb129 ≠ gb130));have n6_:=Aside0.mk ((by rw [hg];exact Nat.ne_of_gt (blk_lt (g:=gb129) (o:=.cells #[.int .i64 a0_0,.string a0_1,.int .i64 a0_2,.int .i64 a0_3] 39 (0,0)) (by (with_reducible repeat (first|refine blk_drewN ?_ _|refine blk_drew ?_|refine blk_alloc ?_ _));exact BK129.out)) : gb130 ≠ gb129));clear BK129;clear HB;have BK129:=n0_;have HB:=n1_;have BK130:=n2_;have GW130:=n3_;have GE130:=n4_;have NB129_130:=n5_;have NB130_129:=n6_;clear n0_ n1_ n2_ n3_ n4_ n5_ n6_;clear hb hbox hg;have hnb7:=NB129_130.out;have hnc7:=NB130_129.out;have hcz8_0 : w6.cell? ⟨gb129,0,none⟩ = some (.int .i64 a0_0):=(blk_cell BK129.out 0).trans rfl;have hcz8_1 : w6.cell? ⟨gb129,1,none⟩ = some (.string a0_1):=(blk_cell BK129.out 1).trans rfl;have hcz8_2 : w6.cell? ⟨gb129,2,none⟩ = some (.int .i64 a0_2):=(blk_cell BK129.out 2).trans rfl;have hcz8_3 : w6.cell? ⟨gb129,3,none⟩ = some (.int .i64 a0_3):=(blk_cell BK129.out 3).trans rfl;have hfz8_0:=blk_frozen BK129.out 0;have hfz8_1:=blk_frozen BK129.out 1;have hfz8_2:=blk_frozen BK129.out 2;have hfz8_3:=blk_frozen BK129.out 3;have hcz9_0 : w6.cell? ⟨gb130,0,none⟩ = some (.int .i64 0):=(blk_cell BK130.out 0).trans rfl;have hcz9_1 : w6.cell? ⟨gb130,1,none⟩ = some (.string (⟨#[]⟩ : ByteArray)):=(blk_cell BK130.out 1).trans rfl;have hcz9_2 : w6.cell? ⟨gb130,2,none⟩ = some (.int .i64 0):=(blk_cell BK130.out 2).trans rfl;have hcz9_3 : w6.cell? ⟨gb130,3,none⟩ = some (.int .i64 0):=(blk_cell BK130.out 3).trans rfl;have hfz9_0:=blk_frozen BK130.out 0;have hfz9_1:=blk_frozen BK130.out 1;have hfz9_2:=blk_frozen BK130.out 2;have hfz9_3:=blk_frozen BK130.out 3))
   refine bodyPost_ret (results_cell_row rfl _ _ gb130 39 #[.int .i64 a0_0,.string (a0_1.extract 0 ((ji2) : Int).toNat),.int .i64 a0_2,.int .i64 a0_3] (0,0) _ rfl (by (with_reducible repeat (first|refine blk_drewN ?_ _|refine blk_drew ?_|refine blk_alloc ?_ _));refine blk_put (cs:=#[.int .i64 a0_0,.string (a0_1.extract 0 ((ji2) : Int).toNat),.int .i64 a0_2,.int .i64 0]) ?_ 3 _ rfl;(with_reducible repeat (first|refine blk_drewN ?_ _|refine blk_drew ?_|refine blk_alloc ?_ _));refine blk_put (cs:=#[.int .i64 a0_0,.string (a0_1.extract 0 ((ji2) : Int).toNat),.int .i64 0,.int .i64 0]) ?_ 2 _ rfl;(with_reducible repeat (first|refine blk_drewN ?_ _|refine blk_drew ?_|refine blk_alloc ?_ _));refine blk_put (cs:=#[.int .i64 a0_0,.string (⟨#[]⟩ : ByteArray),.int .i64 0,.int .i64 0]) ?_ 1 _ rfl;(with_reducible repeat (first|refine blk_drewN ?_ _|refine blk_drew ?_|refine blk_alloc ?_ _));refine blk_put (cs:=#[.int .i64 0,.string (⟨#[]⟩ : ByteArray),.int .i64 0,.int .i64 0]) ?_ 0 _ rfl;(with_reducible repeat (first|refine blk_drewN ?_ _|refine blk_drew ?_|refine blk_alloc ?_ _));refine blk_far ?_ NB130_129.out _;(with_reducible repeat (first|refine blk_drewN ?_ _|refine blk_drew ?_|refine blk_alloc ?_ _));exact BK130.out) Tryd.underlying39 rfl (by kernel_rfl)) rfl ?_
   exact ⟨by first|rfl|(simp [errW_none,errW_some] <;> rfl)|(simp only [← hji2];first|rfl|(simp [errW_none,errW_some] <;> rfl))|(simp [*,errW_none,errW_some] <;> rfl),by repeat (first|(with_reducible first|exact HB.out|apply below_alloc|apply pw_below_drewN|apply below_drew1|refine below_set ?_ GE129.out|refine below_set ?_ GE130.out)|exact HB.out)⟩
  ·rw [if_neg c4] at H
   exact absurd H (by simp)
 ·rw [if_neg c3] at H
  exact absurd H (by simp)
end Go.Proofs.YtedfgkjimnjdpaaDoor.X
namespace Go.Proofs.YtedfgkjimnjdpaaDoor.X
open Go.RowKit Go.Proofs.YtedfgkjimnjdpaaDoorW.PrintWords Go.Proofs.YtedfgkjimnjdpaaDoorW.PrintLast Go.Proofs.YtedfgkjimnjdpaaDoorW.PrintMore
attribute [local go_sem] max2_int min2_int max_two min_two max_three min_three max_four min_four
set_option linter.unusedVariables false
set_option linter.unusedSimpArgs false
def octet_num.l0 : Nat → List Int → Int → Option (List Int)
 | 0,_,_ => none
 | k + 1,x0,x1 => if x1 ≥ 128 then (if x0.length < 140737488355328 then (octet_num.l0 k (x0 ++ [Go.bits .or .u8 ((x1) % 256) 128]) (x1 / 128)) else (none)) else (if x0.length < 140737488355328 then (some (x0 ++ [(x1) % 256])) else (none))
def octet_num.f (k : Nat) (l0 : List Int) (a1 : Int) : Option (List Int):=octet_num.l0 k l0 a1
set_option maxHeartbeats 8000000 in
set_option maxRecDepth 100000 in
theorem octet_num.calls (k : Nat) (P0_ : Nat → Prop) (u9000_ : Value) (l0 : List Int) (a1 : Int) (r : List Int) (w0 w : World) (hB : Below w0.heap.size w0 w) (ho0 : Kd.R (Kd.int .u8) 5 w w0.heap.size P0_ u9000_ l0) (h : octet_num.f k l0 a1 = some r) :
  Calls Tryd.prog 79 #[u9000_,.int .u64 a1] w fun e w' => ∃ v0_ : Value,e = .returned (v0_) ∧ Kd.R (Kd.int .u8) 5 w' w0.heap.size (fun k_ => (P0_ k_ ∨ w.heap.size ≤ k_)) v0_ r ∧ Below w0.heap.size w0 w' ∧ Kept w w' (fun k_ => P0_ k_):=by
 have HO0:=Aside0.mk (show Kd.R (Kd.int .u8) 5 w w0.heap.size (fun k_ => (P0_ k_ ∨ w.heap.size ≤ k_)) u9000_ l0 from Kd.R_mono ho0 (fun k_ hk => (.inl hk)))
 have HK:=Aside0.mk (Kept.refl w (fun k_ => P0_ k_))
 have HW0:=Aside0.mk hB.size
 have HB:=Aside0.mk hB
 clear hB
 have H : (octet_num.l0 k l0 a1) = some r:=h
 clear h
 have H':=Aside0.mk H
 clear H
 go_enter Tryd.func79,Tryd.ntmps79
 go_wp2
 go_loopg [0,1] k (fun kq v0 v1 w' => ∃ (x0_1 : List Int) (x1_1 : Int),v1 = .int .u64 x1_1 ∧ Aside0 (octet_num.l0 kq x0_1 x1_1 = some r) ∧ Aside0 (kq ≤ k) ∧ Aside0 (Kd.R (Kd.int .u8) 5 w' w0.heap.size (fun k_ => (P0_ k_ ∨ w.heap.size ≤ k_)) v0 x0_1) ∧ Aside0 (Kept w w' (fun k_ => P0_ k_)) ∧ Aside0 (Below w0.heap.size w0 w'))
 case atStart => exact ⟨(l0),(a1),(by first|rfl|(simp;done)|(simp;decide +kernel)|(simp [*];done)),(by first|exact H'|(subst_vars;exact H')),⟨Nat.le_refl _⟩,⟨by (with_reducible repeat (first|apply Kd.R_alloc|apply Kd.R_drewN|apply Kd.R_drew));exact HO0.out⟩,⟨by repeat (first|(with_reducible first|exact HK.out|apply Kept.alloc|apply Kept.drewN|apply Kept.drew)|exact HK.out)⟩,⟨by repeat (first|(with_reducible first|exact HB.out|apply below_alloc|apply pw_below_drewN|apply below_drew1)|exact HB.out)⟩⟩
 case round =>
  clear H'
  try clear p2
  obtain ⟨x0_1,x1_1,rfl,HA,HK1,HO_0,HK,HB⟩:=hrel
  cases gk with
  | zero => exact absurd HA.out (by simp [octet_num.l0])
  | succ k1 =>
   have H:=HA.out
   clear HA
   simp only [octet_num.l0] at H
   by_cases c3 : x1_1 ≥ 128
   ·rw [if_pos c3] at H
    have c3b0 : decide (128 ≤ x1_1) = true:=decide_eq_true c3
    clear c3
    by_cases c4 : x0_1.length < 140737488355328
    ·rw [if_pos c4] at H
     have LMc4:=Aside0.mk c4
     clear c4
     obtain ⟨y131,hy131⟩ : ∃ y_ : List Int,y_ = (x0_1 ++ [Go.bits .or .u8 ((x1_1) % 256) 128]):=⟨_,rfl⟩
     replace H : (octet_num.l0 k1 y131 (x1_1 / 128)) = some r:=by first|(rw [hy131];with_reducible exact H)|(have H2_:=(Option.bind_some _ _).symm.trans H;rw [hy131];with_reducible exact H2_)|(have H2_:=(Option.bind_some _ _).symm.trans H;with_reducible exact H2_)|with_reducible exact H|(rw [hy131];exact H)|exact H
     have Ny131:=Aside0.mk hy131
     clear hy131
     have H':=Aside0.mk H
     clear H
     go_wp2_with (first|((with_reducible refine gate_builtin (b:=.append) (xs:=#[.tmp 9,.tmp 13]) rfl ?_);at_builtin;refine Kd.R_append (Kd.int .u8) (w0:=w0) w0.heap.size rfl (.tmp 9) (.tmp 13) 49 5 (.int .u8 0) 1 rfl Tryd.underlying49 info5 rfl (by decide) (by omega) u0 x0_1 (Go.bits .or .u8 ((x1_1) % 256) 128) [.int .u8 (Go.bits .or .u8 ((x1_1) % 256) 128)] (fun k_ => (P0_ k_ ∨ w.heap.size ≤ k_)) (fun _ => False) rfl rfl ?aP (fun _ hk => hk.elim) ?aF ?aO ?aB ?aS ?aL ?_;(case aP => exact rfl);(case aB => exact (by repeat (first|(with_reducible first|exact HB.out|apply below_alloc|apply pw_below_drewN|apply below_drew1)|exact HB.out)));(case aF => exact (fun k_ hk => (.inr (Nat.le_trans (by first|exact HK.out.1|exact (show Kept w _ (fun k_ => P0_ k_) from by repeat (first|(with_reducible first|exact HK.out|apply Kept.alloc|apply Kept.drewN|apply Kept.drew)|exact HK.out)).1) hk))));(case aO => exact (by (with_reducible repeat (first|apply Kd.R_alloc|apply Kd.R_drewN|apply Kd.R_drew));exact HO_0.out));(case aS => exact (below_size (by repeat (first|(with_reducible first|exact HB.out|apply below_alloc|apply pw_below_drewN|apply below_drew1)|exact HB.out))));(case aL => have:=LMc4.out;omega);intro v132 w5 ho hb hg hat;rw [← Ny131.out] at ho;have n0_:=Aside0.mk (hb);have n1_:=Aside0.mk (Kept.of_grown (S:=(fun k_ => P0_ k_)) hg (by repeat (first|(with_reducible first|exact HK.out|apply Kept.alloc|apply Kept.drewN|apply Kept.drew)|exact HK.out)) (fun k_ e_ => (HO_0.out.1 k_ e_)));have n2_:=Aside0.mk (ho);clear HB;clear HK;clear HO_0;have HB:=n0_;have HK:=n1_;have HO133:=n2_;clear n0_ n1_ n2_;clear ho hb hg hat))
     go_roundg k1
     case measure => have:=HK1.out;omega
     case rel => exact ⟨(y131),(x1_1 / 128),(by first|rfl|(simp;done)|(simp;decide +kernel)|(simp [*];done)),(by first|exact H'|(subst_vars;exact H')),⟨by have:=HK1.out;omega⟩,⟨by (with_reducible repeat (first|apply Kd.R_alloc|apply Kd.R_drewN|apply Kd.R_drew));exact HO133.out⟩,⟨by repeat (first|(with_reducible first|exact HK.out|apply Kept.alloc|apply Kept.drewN|apply Kept.drew)|exact HK.out)⟩,⟨by repeat (first|(with_reducible first|exact HB.out|apply below_alloc|apply pw_below_drewN|apply below_drew1)|exact HB.out)⟩⟩
    ·rw [if_neg c4] at H
     exact absurd H (by simp)
   ·rw [if_neg c3] at H
    have c3b0 : decide (128 ≤ x1_1) = false:=decide_eq_false c3
    clear c3
    by_cases c6 : x0_1.length < 140737488355328
    ·rw [if_pos c6] at H
     have LMc6:=Aside0.mk c6
     clear c6
     obtain ⟨y134,hy134⟩ : ∃ y_ : List Int,y_ = (x0_1 ++ [(x1_1) % 256]):=⟨_,rfl⟩
     replace H : (some y134) = some r:=by first|(rw [hy134];with_reducible exact H)|(have H2_:=(Option.bind_some _ _).symm.trans H;rw [hy134];with_reducible exact H2_)|(have H2_:=(Option.bind_some _ _).symm.trans H;with_reducible exact H2_)|with_reducible exact H|(rw [hy134];exact H)|exact H
     have Ny134:=Aside0.mk hy134
     clear hy134
     obtain rfl:=Option.some.inj H
     go_wp2_with (first|((with_reducible refine gate_builtin (b:=.append) (xs:=#[.tmp 15,.tmp 18]) rfl ?_);at_builtin;refine Kd.R_append (Kd.int .u8) (w0:=w0) w0.heap.size rfl (.tmp 15) (.tmp 18) 49 5 (.int .u8 0) 1 rfl Tryd.underlying49 info5 rfl (by decide) (by omega) u0 x0_1 ((x1_1) % 256) [.int .u8 ((x1_1) % 256)] (fun k_ => (P0_ k_ ∨ w.heap.size ≤ k_)) (fun _ => False) rfl rfl ?aP (fun _ hk => hk.elim) ?aF ?aO ?aB ?aS ?aL ?_;(case aP => exact rfl);(case aB => exact (by repeat (first|(with_reducible first|exact HB.out|apply below_alloc|apply pw_below_drewN|apply below_drew1)|exact HB.out)));(case aF => exact (fun k_ hk => (.inr (Nat.le_trans (by first|exact HK.out.1|exact (show Kept w _ (fun k_ => P0_ k_) from by repeat (first|(with_reducible first|exact HK.out|apply Kept.alloc|apply Kept.drewN|apply Kept.drew)|exact HK.out)).1) hk))));(case aO => exact (by (with_reducible repeat (first|apply Kd.R_alloc|apply Kd.R_drewN|apply Kd.R_drew));exact HO_0.out));(case aS => exact (below_size (by repeat (first|(with_reducible first|exact HB.out|apply below_alloc|apply pw_below_drewN|apply below_drew1)|exact HB.out))));(case aL => have:=LMc6.out;omega);intro v135 w7 ho hb hg hat;rw [← Ny134.out] at ho;have n0_:=Aside0.mk (hb);have n1_:=Aside0.mk (Kept.of_grown (S:=(fun k_ => P0_ k_)) hg (by repeat (first|(with_reducible first|exact HK.out|apply Kept.alloc|apply Kept.drewN|apply Kept.drew)|exact HK.out)) (fun k_ e_ => (HO_0.out.1 k_ e_)));have n2_:=Aside0.mk (ho);clear HB;clear HK;clear HO_0;have HB:=n0_;have HK:=n1_;have HO136:=n2_;clear n0_ n1_ n2_;clear ho hb hg hat))
     go_ret
     exact ⟨_,by first|rfl|(simp [errW_none,errW_some] <;> rfl)|(simp [*,errW_none,errW_some] <;> rfl),by (with_reducible repeat (first|apply Kd.R_alloc|apply Kd.R_drewN|apply Kd.R_drew));exact HO136.out,by repeat (first|(with_reducible first|exact HB.out|apply below_alloc|apply pw_below_drewN|apply below_drew1)|exact HB.out),by repeat (first|(with_reducible first|exact HK.out|apply Kept.alloc|apply Kept.drewN|apply Kept.drew)|exact HK.out)⟩
    ·rw [if_neg c6] at H
     exact absurd H (by simp)
end Go.Proofs.YtedfgkjimnjdpaaDoor.X
namespace Go.Proofs.YtedfgkjimnjdpaaDoor.X
open Go.RowKit Go.Proofs.YtedfgkjimnjdpaaDoorW.PrintWords Go.Proofs.YtedfgkjimnjdpaaDoorW.PrintLast Go.Proofs.YtedfgkjimnjdpaaDoorW.PrintMore
set_option linter.unusedVariables false
set_option linter.unusedSimpArgs false
theorem infoB : (Tryd.prog.info? 5).map (fun i => (i.zero,i.size,i.bytes)) = some (some (.int .u8 0),1,1):=by kernel_rfl
set_option maxHeartbeats 2000000 in
set_option maxRecDepth 100000 in
theorem cloneB_calls (A0 : Option Addr) (c0 : Nat) (l : List Int) (w : World) (hr : Kd.C (Kd.int .u8) w A0 l.length l) (hc : l.length ≤ c0) (hl : l.length ≤ 10000000) :
  Calls Tryd.prog 80 #[.slice A0 l.length c0] w fun e w' => ∃ v0_ : Value,e = .returned v0_ ∧ Kd.R (Kd.int .u8) 5 w' w.heap.size (fun _ => True) v0_ l ∧ Below w.heap.size w w':=by
 go_enter Tryd.func80,Tryd.ntmps80
 have he:=fun W => Lib.run_eql_slice_nil (P:=Tryd.prog) W 49 5 A0 l.length c0 0 0 Tryd.underlying49
 rcases A0 with _|ad
 ·have h0 : l = []:=by
   rcases l with _|⟨x,l⟩
   ·rfl
   ·obtain ⟨ad,h,_⟩:=hr.2.2 (by simp)
    cases h
  subst h0
  simp only [List.length_nil] at he
  go_wp2
  go_ret
  exact ⟨_,rfl,Kd.R_nil _ _ _ _ _,Below.refl _ _⟩
 ·go_upto_region 3 with (fail)
  have hnew:=heap_alloc_new w (.cells #[] 5 (0,0))
  have hbel : Below w.heap.size w (w.alloc (.cells #[] 5 (0,0))):=(Below.refl _ _).alloc (Nat.le_refl _) _
  have hown : Kd.R (Kd.int .u8) 5 (w.alloc (.cells #[] 5 (0,0))) w.heap.size (fun _ => True) (.slice (some ⟨w.heap.size,0,none⟩) 0 0) []:=by
   refine ⟨fun _ _ => trivial,[],⟨rfl,.inr ⟨w.heap.size,0,_,rfl,Nat.le_refl _,hnew,Nat.le_refl _,by unfold maxLen;omega,rfl,rfl⟩⟩,Reps.none _ _⟩
  refine wp_region_lit ?_
  refine wpList_step (fun K hK => ?_)
  go_simp
  refine hK _ _ ?_
  clear hK K
  refine wpList_step (fun K hK => ?_)
  go_simp
  refine hK _ _ ?_
  clear hK K
  refine Kd.R_append_rows (Kd.int .u8) (Rr:=(Kd.int .u8).K w) (w0:=w) w.heap.size rfl _ _ _ 5 _ 1 rfl Tryd.underlying49 infoB rfl (by decide) (by decide) (.slice (some ⟨w.heap.size,0,none⟩) 0 0) [] l (some ad) l.length c0 (fun _ => True) (fun _ => False) rfl rfl hown (Kd.C_below hr hbel) (fun x cs h => h) (fun _ h => h.elim) (fun _ _ => trivial) hbel (by rw [World.size_alloc];omega) (by simp;omega) ?_
  intro v1 w1 h1 hb1 hg1 hat
  refine wpList_step (fun K hK => ?_)
  go_simp
  refine hK _ _ ?_
  clear hK K
  refine wpList_nil ?_
  go_wp2
  go_ret
  exact ⟨_,rfl,h1,hb1⟩
def slices_Clone_byte_byte.f (l : List Int) : Option (List Int):=if l.length ≤ 10000000 then some l else none
theorem slices_Clone_byte_byte.calls (A0 : Option Addr) (c0 : Nat) (l0 : List Int) (r : List Int) (w : World) (hr0 : Kd.C (Kd.int .u8) w A0 l0.length l0) (hc0 : l0.length ≤ c0) (h : slices_Clone_byte_byte.f l0 = some r) :
  Calls Tryd.prog 80 #[.slice A0 l0.length c0] w fun e w' => ∃ v0_ : Value,e = .returned (v0_) ∧ Kd.R (Kd.int .u8) 5 w' w.heap.size (fun _ => True) v0_ r ∧ Below w.heap.size w w':=by
 unfold slices_Clone_byte_byte.f at h
 split at h
 ·obtain rfl:=Option.some.inj h
  exact cloneB_calls A0 c0 l0 w hr0 hc0 (by assumption)
 ·exact absurd h (by simp)
end Go.Proofs.YtedfgkjimnjdpaaDoor.X
namespace Go.Proofs.YtedfgkjimnjdpaaDoor.X
open Go.RowKit Go.Proofs.YtedfgkjimnjdpaaDoorW.PrintWords Go.Proofs.YtedfgkjimnjdpaaDoorW.PrintLast Go.Proofs.YtedfgkjimnjdpaaDoorW.PrintMore
attribute [local go_sem] max2_int min2_int max_two min_two max_three min_three max_four min_four
set_option linter.unusedVariables false
set_option linter.unusedSimpArgs false
def octet_Num.j0 : Nat → List Int → Int → Bool → Option (List Int × Int)
 | 0,_,_,_ => none
 | k + 1,x0,x1,x11 => if x11 = true then (some (([] : List Int),2)) else ((slices_Clone_byte_byte.f x0).bind fun t137 => ((octet_num.f k t137 (IntKind.u64.wrap (x1))).bind fun t140 => (some (t140,0))))
def octet_Num.f (k : Nat) (l0 : List Int) (a1 : Int) : Option (List Int × Int):=if a1 < 0 then (octet_Num.j0 k l0 a1 true) else (octet_Num.j0 k l0 a1 (decide (a1 > 4611686018427387904)))
set_option maxHeartbeats 8000000 in
set_option maxRecDepth 100000 in
theorem octet_Num.calls (k : Nat) (A0 : Option Addr) (c0 : Nat) (l0 : List Int) (a1 : Int) (r1 : List Int) (r2 : Int) (w : World) (hr0 : Kd.C (Kd.int .u8) w A0 l0.length l0) (hc0 : l0.length ≤ c0) (h : octet_Num.f k l0 a1 = some (r1,r2)) :
  Calls Tryd.prog 39 #[.slice A0 l0.length c0,.int .i64 a1] w fun e w' => ∃ v0_ : Value,e = .returned (.tuple #[v0_,.int .i64 r2]) ∧ Kd.R (Kd.int .u8) 5 w' w.heap.size (fun _ => True) v0_ r1 ∧ Below w.heap.size w w':=by
 have HR0:=Aside0.mk hr0
 have HC0:=Aside0.mk hc0
 clear hr0 hc0
 have HB:=Aside0.mk (Below.refl w.heap.size w)
 have H : (if a1 < 0 then (octet_Num.j0 k l0 a1 true) else (octet_Num.j0 k l0 a1 (decide (a1 > 4611686018427387904)))) = some (r1,r2):=h
 clear h
 have HC3:=Aside0.mk H
 clear H
 go_enter Tryd.func39,Tryd.ntmps39
 go_upto_region 1 with (fail)
 go_cut [11] (fun v11 wc => ∃ (kq : Nat) (x11_2 : Bool),v11 = .bool x11_2 ∧ Aside0 (octet_Num.j0 kq l0 a1 x11_2 = some (r1,r2)) ∧ Aside0 (kq ≤ k) ∧ Aside0 (Below w.heap.size w wc))
 case first =>
  have H:=HC3.out
  clear HC3
  by_cases c4 : a1 < 0
  ·rw [if_pos c4] at H
   have c4b0 : decide (a1 < 0) = true:=decide_eq_true c4
   clear c4
   (first|rw [c4b0]|(simp only [i64_w,i32_w];rw [c4b0])|skip)
   have H':=Aside0.mk H
   clear H
   go_wp2
   go_meet
   case rel => exact ⟨_,(true),(by first|rfl|(simp;done)|(simp;decide +kernel)|(simp [*];done)),(by first|exact H'|(subst_vars;exact H')),⟨by first|omega|exact Nat.le_refl _⟩,⟨by repeat (first|(with_reducible first|exact HB.out|apply below_alloc|apply pw_below_drewN|apply below_drew1)|exact HB.out)⟩⟩
  ·rw [if_neg c4] at H
   have c4b0 : decide (a1 < 0) = false:=decide_eq_false c4
   clear c4
   (first|rw [c4b0]|(simp only [i64_w,i32_w];rw [c4b0])|skip)
   have H':=Aside0.mk H
   clear H
   go_wp2
   go_meet
   case rel => exact ⟨_,(decide (a1 > 4611686018427387904)),(by first|rfl|(simp;done)|(simp;decide +kernel)|(simp [*];done)),(by first|exact H'|(subst_vars;exact H')),⟨by first|omega|exact Nat.le_refl _⟩,⟨by repeat (first|(with_reducible first|exact HB.out|apply below_alloc|apply pw_below_drewN|apply below_drew1)|exact HB.out)⟩⟩
 case rest =>
  clear HC3
  try clear p2
  try clear c3
  try clear c4
  try clear c4b0
  obtain ⟨kq,x11_2,rfl,HA,HJ2,HB⟩:=hcut
  cases kq with
  | zero => exact absurd HA.out (by simp [octet_Num.j0])
  | succ kj2 =>
   have H:=HA.out
   clear HA
   simp only [octet_Num.j0] at H
   by_cases c5 : x11_2 = true
   ·subst c5
    have H1 : (some (([] : List Int),2)) = some (r1,r2):=by rw [if_pos rfl] at H;exact H
    clear H
    have H:=H1
    clear H1
    simp only [Option.some.injEq,Prod.mk.injEq] at H
    obtain ⟨rfl,rfl⟩:=H
    go_wp2
    go_ret2
    exact ⟨_,by first|rfl|(simp [errW_none,errW_some] <;> rfl)|(simp [*,errW_none,errW_some] <;> rfl),by first|exact Kd.R_nil _ _ _ _ _|exact Kd.N_nil _ _ _ _ _|exact Kd.V_nil _ _ _ _ _|exact Kd.Q_nil _ _ _ _ _|exact Kd.S_nil _ _ _ _ _,by repeat (first|(with_reducible first|exact HB.out|apply below_alloc|apply pw_below_drewN|apply below_drew1)|exact HB.out)⟩
   ·replace c5:=Bool.eq_false_iff.mpr c5
    subst c5
    have H1 : ((slices_Clone_byte_byte.f l0).bind fun t137 => ((octet_num.f kj2 t137 (IntKind.u64.wrap (a1))).bind fun t140 => (some (t140,0)))) = some (r1,r2):=by rw [if_neg (show ¬ (false = true) by decide)] at H;exact H
    clear H
    have H:=H1
    clear H1
    replace H:=Option.bind_eq_some_iff.mp H
    obtain ⟨t137,A60,H⟩:=H
    replace H : ((octet_num.f kj2 t137 (IntKind.u64.wrap (a1))).bind fun t140 => (some (t140,0))) = some (r1,r2):=H
    have A6:=Aside0.mk A60
    clear A60
    replace H:=Option.bind_eq_some_iff.mp H
    obtain ⟨t140,A70,H⟩:=H
    replace H : (some (t140,0)) = some (r1,r2):=H
    have A7:=Aside0.mk A70
    clear A70
    simp only [Option.some.injEq,Prod.mk.injEq] at H
    obtain ⟨rfl,rfl⟩:=H
    go_wp2_with (first|((with_reducible refine gate_callee (f:=80) rfl ?_);refine goesL_ (some 13) rfl rfl Tryd.func80 (by kernel_rfl) rfl #[.slice A0 l0.length c0] rfl (by (try simp only [List.map_toArray,List.map_cons,List.map_nil]);first|done|rfl|(simp only [List.length_drop,List.length_take];rfl)) ?_;(with_reducible refine (slices_Clone_byte_byte.calls _ _ l0 t137 _ ?side1 ?side2 A6.out).mono ?_);(case side1 => repeat (first|exact (Kd.C_below HR0.out HB.out)|(with_reducible refine Kd.C_alloc ?_ _)|(with_reducible refine Kd.C_drewN ?_ _)|(with_reducible refine Kd.C_drew ?_)));(case side2 => exact HC0.out);rintro e w8 ⟨v138,rfl,ho0,hb⟩;refine ⟨_,rfl,?_⟩;have n0_:=Aside0.mk (Kd.R_lower ho0 (below_size (by repeat (first|(with_reducible first|exact HB.out|apply below_alloc|apply pw_below_drewN|apply below_drew1)|exact HB.out))));have n1_:=Aside0.mk (below_step (by repeat (first|(with_reducible first|exact HB.out|apply below_alloc|apply pw_below_drewN|apply below_drew1)|exact HB.out)) hb);clear HB;have HO139:=n0_;have HB:=n1_;clear n0_ n1_;(try clear hb);(try clear hb2);(try clear hk);(try clear hi);(try clear ho0);obtain ⟨Ao9,co9,eo9⟩:=Kd.R_slice HO139.out;subst eo9)|((with_reducible refine gate_callee (f:=79) rfl ?_);refine goesL_ (some 16) rfl rfl Tryd.func79 (by kernel_rfl) rfl #[.slice Ao9 t137.length co9,.int .u64 (IntKind.u64.wrap (a1))] rfl (by (try simp only [List.map_toArray,List.map_cons,List.map_nil]);first|done|rfl|(simp only [List.length_drop,List.length_take];rfl)) ?_;(with_reducible refine (octet_num.calls kj2 (fun k_ => some k_ = (.slice Ao9 t137.length co9 : Value).ownBlock) (.slice Ao9 t137.length co9) t137 (IntKind.u64.wrap (a1)) t140 w _ ?side1 ?side2 A7.out).mono ?_);(case side1 => repeat (first|(with_reducible first|exact HB.out|apply below_alloc|apply pw_below_drewN|apply below_drew1)|exact HB.out));(case side2 => exact Kd.R_tight rfl HO139.out);rintro e w10 ⟨v141,rfl,ho0,hb,hkp⟩;refine ⟨_,rfl,?_⟩;have n0_:=Aside0.mk (Kd.R_mono (ok':=fun k_ => True) ho0 (fun k_ hk_ => trivial));have n1_:=Aside0.mk (hb);clear HB;clear HO139;have HO142:=n0_;have HB:=n1_;clear n0_ n1_;(try clear hb);(try clear hkp);(try clear ho0)))
    go_ret2
    exact ⟨_,by first|rfl|(simp [errW_none,errW_some] <;> rfl)|(simp [*,errW_none,errW_some] <;> rfl),by (with_reducible repeat (first|apply Kd.R_alloc|apply Kd.R_drewN|apply Kd.R_drew));exact HO142.out,by repeat (first|(with_reducible first|exact HB.out|apply below_alloc|apply pw_below_drewN|apply below_drew1)|exact HB.out)⟩
end Go.Proofs.YtedfgkjimnjdpaaDoor.X
namespace Go.Proofs.YtedfgkjimnjdpaaDoor.X
open Go.RowKit Go.Proofs.YtedfgkjimnjdpaaDoorW.PrintWords Go.Proofs.YtedfgkjimnjdpaaDoorW.PrintLast Go.Proofs.YtedfgkjimnjdpaaDoorW.PrintMore
attribute [local go_sem] max2_int min2_int max_two min_two max_three min_three max_four min_four
set_option linter.unusedVariables false
set_option linter.unusedSimpArgs false
def octet_Text.f (k : Nat) (l0 : List Int) (a1 : ByteArray) : Option (List Int × Int):=if (a1.size : Int) > 4096 then (some (([] : List Int),3)) else ((slices_Clone_byte_byte.f l0).bind fun t143 => ((octet_num.f k t143 (IntKind.u64.wrap ((a1.size : Int)))).bind fun t146 => (if t146.length + a1.size < 140737488355328 then (some ((t146 ++ bytesOf a1),0)) else (none))))
set_option maxHeartbeats 8000000 in
set_option maxRecDepth 100000 in
theorem octet_Text.calls (k : Nat) (A0 : Option Addr) (c0 : Nat) (l0 : List Int) (a1 : ByteArray) (r1 : List Int) (r2 : Int) (w : World) (hr0 : Kd.C (Kd.int .u8) w A0 l0.length l0) (hc0 : l0.length ≤ c0) (h : octet_Text.f k l0 a1 = some (r1,r2)) :
  Calls Tryd.prog 40 #[.slice A0 l0.length c0,.string a1] w fun e w' => ∃ v0_ : Value,e = .returned (.tuple #[v0_,.int .i64 r2]) ∧ Kd.R (Kd.int .u8) 5 w' w.heap.size (fun _ => True) v0_ r1 ∧ Below w.heap.size w w':=by
 have HR0:=Aside0.mk hr0
 have HC0:=Aside0.mk hc0
 clear hr0 hc0
 have HB:=Aside0.mk (Below.refl w.heap.size w)
 have H : (if (a1.size : Int) > 4096 then (some (([] : List Int),3)) else ((slices_Clone_byte_byte.f l0).bind fun t143 => ((octet_num.f k t143 (IntKind.u64.wrap ((a1.size : Int)))).bind fun t146 => (if t146.length + a1.size < 140737488355328 then (some ((t146 ++ bytesOf a1),0)) else (none))))) = some (r1,r2):=h
 clear h
 by_cases c3 : (a1.size : Int) > 4096
 ·rw [if_pos c3] at H
  have c3b0 : decide (4096 < (a1.size : Int)) = true:=decide_eq_true c3
  have c3b1 : decide (4096 < a1.size) = true:=decide_eq_true (by omega)
  clear c3
  simp only [Option.some.injEq,Prod.mk.injEq] at H
  obtain ⟨rfl,rfl⟩:=H
  go_enter Tryd.func40,Tryd.ntmps40
  go_wp2
  go_ret2
  exact ⟨_,by first|rfl|(simp [errW_none,errW_some] <;> rfl)|(simp [*,errW_none,errW_some] <;> rfl),by first|exact Kd.R_nil _ _ _ _ _|exact Kd.N_nil _ _ _ _ _|exact Kd.V_nil _ _ _ _ _|exact Kd.Q_nil _ _ _ _ _|exact Kd.S_nil _ _ _ _ _,by repeat (first|(with_reducible first|exact HB.out|apply below_alloc|apply pw_below_drewN|apply below_drew1)|exact HB.out)⟩
 ·rw [if_neg c3] at H
  have c3b0 : decide (4096 < (a1.size : Int)) = false:=decide_eq_false c3
  have c3b1 : decide (4096 < a1.size) = false:=decide_eq_false (by omega)
  clear c3
  replace H:=Option.bind_eq_some_iff.mp H
  obtain ⟨t143,A40,H⟩:=H
  replace H : ((octet_num.f k t143 (IntKind.u64.wrap ((a1.size : Int)))).bind fun t146 => (if t146.length + a1.size < 140737488355328 then (some ((t146 ++ bytesOf a1),0)) else (none))) = some (r1,r2):=H
  have A4:=Aside0.mk A40
  clear A40
  replace H:=Option.bind_eq_some_iff.mp H
  obtain ⟨t146,A50,H⟩:=H
  replace H : (if t146.length + a1.size < 140737488355328 then (some ((t146 ++ bytesOf a1),0)) else (none)) = some (r1,r2):=H
  have A5:=Aside0.mk A50
  clear A50
  by_cases c6 : t146.length + a1.size < 140737488355328
  ·rw [if_pos c6] at H
   have LMc6:=Aside0.mk c6
   clear c6
   obtain ⟨y149,hy149⟩ : ∃ y_ : List Int,y_ = (t146 ++ bytesOf a1):=⟨_,rfl⟩
   replace H : (some (y149,0)) = some (r1,r2):=by first|(rw [hy149];with_reducible exact H)|(have H2_:=(Option.bind_some _ _).symm.trans H;rw [hy149];with_reducible exact H2_)|(have H2_:=(Option.bind_some _ _).symm.trans H;with_reducible exact H2_)|with_reducible exact H|(rw [hy149];exact H)|exact H
   have Ny149:=Aside0.mk hy149
   clear hy149
   simp only [Option.some.injEq,Prod.mk.injEq] at H
   obtain ⟨rfl,rfl⟩:=H
   go_enter Tryd.func40,Tryd.ntmps40
   go_wp2_with (first|((with_reducible refine gate_callee (f:=80) rfl ?_);refine goesL_ (some 10) rfl rfl Tryd.func80 (by kernel_rfl) rfl #[.slice A0 l0.length c0] rfl (by (try simp only [List.map_toArray,List.map_cons,List.map_nil]);first|done|rfl|(simp only [List.length_drop,List.length_take];rfl)) ?_;(with_reducible refine (slices_Clone_byte_byte.calls _ _ l0 t143 _ ?side1 ?side2 A4.out).mono ?_);(case side1 => repeat (first|exact HR0.out|(with_reducible refine Kd.C_alloc ?_ _)|(with_reducible refine Kd.C_drewN ?_ _)|(with_reducible refine Kd.C_drew ?_)));(case side2 => exact HC0.out);rintro e w7 ⟨v144,rfl,ho0,hb⟩;refine ⟨_,rfl,?_⟩;have n0_:=Aside0.mk (Kd.R_lower ho0 (below_size (by repeat (first|(with_reducible first|exact HB.out|apply below_alloc|apply pw_below_drewN|apply below_drew1)|exact HB.out))));have n1_:=Aside0.mk (below_step (by repeat (first|(with_reducible first|exact HB.out|apply below_alloc|apply pw_below_drewN|apply below_drew1)|exact HB.out)) hb);clear HB;have HO145:=n0_;have HB:=n1_;clear n0_ n1_;(try clear hb);(try clear hb2);(try clear hk);(try clear hi);(try clear ho0);obtain ⟨Ao8,co8,eo8⟩:=Kd.R_slice HO145.out;subst eo8)|((with_reducible refine gate_callee (f:=79) rfl ?_);refine goesL_ (some 14) rfl rfl Tryd.func79 (by kernel_rfl) rfl #[.slice Ao8 t143.length co8,.int .u64 (IntKind.u64.wrap ((a1.size : Int)))] rfl (by (try simp only [List.map_toArray,List.map_cons,List.map_nil]);first|done|rfl|(simp only [List.length_drop,List.length_take];rfl)) ?_;(with_reducible refine (octet_num.calls k (fun k_ => some k_ = (.slice Ao8 t143.length co8 : Value).ownBlock) (.slice Ao8 t143.length co8) t143 (IntKind.u64.wrap ((a1.size : Int))) t146 w _ ?side1 ?side2 A5.out).mono ?_);(case side1 => repeat (first|(with_reducible first|exact HB.out|apply below_alloc|apply pw_below_drewN|apply below_drew1)|exact HB.out));(case side2 => exact Kd.R_tight rfl HO145.out);rintro e w9 ⟨v147,rfl,ho0,hb,hkp⟩;refine ⟨_,rfl,?_⟩;have n0_:=Aside0.mk (Kd.R_mono (ok':=fun k_ => True) ho0 (fun k_ hk_ => trivial));have n1_:=Aside0.mk (hb);clear HB;clear HO145;have HO148:=n0_;have HB:=n1_;clear n0_ n1_;(try clear hb);(try clear hkp);(try clear ho0))|(at_builtin;refine print_append_str (w0:=w) w.heap.size rfl (.tmp 14) _ 49 9 5 rfl Tryd.underlying49 Tryd.underlying9 info5 v147 t146 a1 rfl rfl ?aO ?aB ?aS ?aL ?_;(case aB => exact (by repeat (first|(with_reducible first|exact HB.out|apply below_alloc|apply pw_below_drewN|apply below_drew1)|exact HB.out)));(case aO => exact (Kd.own_of_R (by (with_reducible repeat (first|apply Kd.R_alloc|apply Kd.R_drewN|apply Kd.R_drew));exact HO148.out)));(case aS => exact (below_size (by repeat (first|(with_reducible first|exact HB.out|apply below_alloc|apply pw_below_drewN|apply below_drew1)|exact HB.out))));(case aL => have:=LMc6.out;omega);intro v150 w10 ho0 hb hg;have ho:=Kd.R_of_own (h1:=fun _ => rfl) (ok:=fun _ => True) ho0 (fun _ _ => trivial);clear ho0;have hat:=True.intro;rw [← Ny149.out] at ho;change Kd.R (Kd.int .u8) 5 w10 w.heap.size (fun _ => True) v150 y149 at ho;have n0_:=Aside0.mk (hb);have n1_:=Aside0.mk (ho);clear HB;clear HO148;have HB:=n0_;have HO151:=n1_;clear n0_ n1_;clear ho hb hg hat))
   go_ret2
   exact ⟨_,by first|rfl|(simp [errW_none,errW_some] <;> rfl)|(simp [*,errW_none,errW_some] <;> rfl),by (with_reducible repeat (first|apply Kd.R_alloc|apply Kd.R_drewN|apply Kd.R_drew));exact HO151.out,by repeat (first|(with_reducible first|exact HB.out|apply below_alloc|apply pw_below_drewN|apply below_drew1)|exact HB.out)⟩
  ·rw [if_neg c6] at H
   exact absurd H (by simp)
end Go.Proofs.YtedfgkjimnjdpaaDoor.X
namespace Go.Proofs.YtedfgkjimnjdpaaDoor.X
open Go.RowKit Go.Proofs.YtedfgkjimnjdpaaDoorW.PrintWords Go.Proofs.YtedfgkjimnjdpaaDoorW.PrintLast Go.Proofs.YtedfgkjimnjdpaaDoorW.PrintMore
attribute [local go_sem] max2_int min2_int max_two min_two max_three min_three max_four min_four
set_option linter.unusedVariables false
set_option linter.unusedSimpArgs false
def crc_four.f (a0 : Int) : Option (List Int):=some (([(a0) % 256,(a0 / 256) % 256,(a0 / 65536) % 256,(a0 / 16777216) % 256] : List Int))
set_option maxHeartbeats 8000000 in
set_option maxRecDepth 100000 in
theorem crc_four.calls (a0 : Int) (r : List Int) (w : World) (h : crc_four.f a0 = some r) :
  Calls Tryd.prog 81 #[.int .u32 a0] w fun e w' => ∃ v0_ : Value,e = .returned (v0_) ∧ Kd.R (Kd.int .u8) 5 w' w.heap.size (fun _ => True) v0_ r ∧ Below w.heap.size w w':=by
 have HB:=Aside0.mk (Below.refl w.heap.size w)
 have H : (some (([(a0) % 256,(a0 / 256) % 256,(a0 / 65536) % 256,(a0 / 16777216) % 256] : List Int))) = some r:=h
 clear h
 obtain ⟨y152,hy152⟩ : ∃ y_ : List Int,y_ = (([(a0) % 256,(a0 / 256) % 256,(a0 / 65536) % 256,(a0 / 16777216) % 256] : List Int)):=⟨_,rfl⟩
 replace H : (some y152) = some r:=by first|(rw [hy152];with_reducible exact H)|(have H2_:=(Option.bind_some _ _).symm.trans H;rw [hy152];with_reducible exact H2_)|(have H2_:=(Option.bind_some _ _).symm.trans H;with_reducible exact H2_)|with_reducible exact H|(rw [hy152];exact H)|exact H
 have Ny152:=Aside0.mk hy152
 clear hy152
 obtain rfl:=Option.some.inj H
 go_enter Tryd.func81,Tryd.ntmps81
 go_wp2_with (first|((with_reducible refine gate_dst (N:=14) rfl ?_);refine Kd.R_lit (Kd.int .u8) _ 5 ?hg (N:=14) ?hd (xs:=([(a0) % 256,(a0 / 256) % 256,(a0 / 65536) % 256,(a0 / 16777216) % 256] : List Int)) (inner:=[.int .u8 ((a0) % 256),.int .u8 ((a0 / 256) % 256),.int .u8 ((a0 / 65536) % 256),.int .u8 ((a0 / 16777216) % 256)]) (ok:=fun _ => True) (okp:=fun _ => True) ?hr ?hp (fun _ hk => hk) trivial (Below.refl _ _) (Nat.le_refl _) (by simp) ?_;(case hd => rfl);(case hg => rfl);(case hr => first|(go_simp;done)|(go_simp;rfl));(case hp => exact (Reps.one (show Kd.M (Kd.int .u8) _ _ _ ((a0) % 256) [.int .u8 ((a0) % 256)] from rfl) (Reps.one (show Kd.M (Kd.int .u8) _ _ _ ((a0 / 256) % 256) [.int .u8 ((a0 / 256) % 256)] from rfl) (Reps.one (show Kd.M (Kd.int .u8) _ _ _ ((a0 / 65536) % 256) [.int .u8 ((a0 / 65536) % 256)] from rfl) (Reps.one (show Kd.M (Kd.int .u8) _ _ _ ((a0 / 16777216) % 256) [.int .u8 ((a0 / 16777216) % 256)] from rfl) (Reps.none _ _))))));intro v153 w2 ho3 hb hg_ hnew_;clear hg_ hnew_;(first|rw [← Ny152.out] at ho3|(simp only [Int.reduceToNat] at ho3;rw [← Ny152.out] at ho3));have n0_:=Aside0.mk (Kd.R_lower ho3 (below_size (by repeat (first|(with_reducible first|exact HB.out|apply below_alloc|apply pw_below_drewN|apply below_drew1)|exact HB.out))));have n1_:=Aside0.mk (below_step (by repeat (first|(with_reducible first|exact HB.out|apply below_alloc|apply pw_below_drewN|apply below_drew1)|exact HB.out)) hb);clear HB;have HO154:=n0_;have HB:=n1_;clear n0_ n1_;clear hb ho3))
 go_ret
 exact ⟨_,by first|rfl|(simp [errW_none,errW_some] <;> rfl)|(simp [*,errW_none,errW_some] <;> rfl),by (with_reducible repeat (first|apply Kd.R_alloc|apply Kd.R_drewN|apply Kd.R_drew));exact HO154.out,by repeat (first|(with_reducible first|exact HB.out|apply below_alloc|apply pw_below_drewN|apply below_drew1)|exact HB.out)⟩
end Go.Proofs.YtedfgkjimnjdpaaDoor.X
namespace Go.Proofs.YtedfgkjimnjdpaaDoor.X
open Go.RowKit Go.Proofs.YtedfgkjimnjdpaaDoorW.PrintWords
set_option linter.unusedVariables false
def GlobMax (w : World) : Prop:=4 < w.heap.size ∧ ∃ m,w.cell? ⟨4,0,none⟩ = some (.int .i64 m)
theorem GlobMax.below {w w' : World} (h : GlobMax w) (hb : Below w.heap.size w w') : GlobMax w':=by
 obtain ⟨h1,m,h2⟩:=h
 exact ⟨Nat.lt_of_lt_of_le h1 hb.size,m,(hb.cell (p:=⟨4,0,none⟩) h1).trans h2⟩
theorem GlobMax.of {w : World} (h : ∃ m,w.cell? ⟨4,0,none⟩ = some (.int .i64 m)) : GlobMax w:=by
 refine ⟨?_,h⟩
 obtain ⟨m,hm⟩:=h
 unfold World.cell? at hm
 split at hm
 ·rename_i hh
  exact (Array.getElem?_eq_some_iff.mp hh).1
 ·cases hm
theorem GlobMax.drawn {w w' : World} (h : GlobMax w) (hb : Drawn0 w w') : GlobMax w':=by
 obtain ⟨n,rfl⟩:=hb.out
 exact h
def roundsL : List Int:=[0x428a2f98,0x71374491,0xb5c0fbcf,0xe9b5dba5,0x3956c25b,0x59f111f1,0x923f82a4,0xab1c5ed5,0xd807aa98,0x12835b01,0x243185be,0x550c7dc3,0x72be5d74,0x80deb1fe,0x9bdc06a7,0xc19bf174,0xe49b69c1,0xefbe4786,0x0fc19dc6,0x240ca1cc,0x2de92c6f,0x4a7484aa,0x5cb0a9dc,0x76f988da,0x983e5152,0xa831c66d,0xb00327c8,0xbf597fc7,0xc6e00bf3,0xd5a79147,0x06ca6351,0x14292967,0x27b70a85,0x2e1b2138,0x4d2c6dfc,0x53380d13,0x650a7354,0x766a0abb,0x81c2c92e,0x92722c85,0xa2bfe8a1,0xa81a664b,0xc24b8b70,0xc76c51a3,0xd192e819,0xd6990624,0xf40e3585,0x106aa070,0x19a4c116,0x1e376c08,0x2748774c,0x34b0bcb5,0x391c0cb3,0x4ed8aa4a,0x5b9cca4f,0x682e6ff3,0x748f82ee,0x78a5636f,0x84c87814,0x8cc70208,0x90befffa,0xa4506ceb,0xbef9a3f7,0xc67178f2]
def GlobDg (w : World) : Prop:=w.heap[1]? = some (.cells (nums .u32 roundsL).toArray 163 (0,0))
theorem GlobDg.below {w w' : World} (h : GlobDg w) (hb : Below w.heap.size w w') : GlobDg w':=(hb.block _ (Array.getElem?_eq_some_iff.mp h).1).trans h
theorem GlobDg.drawn {w w' : World} (h : GlobDg w) (hb : Drawn0 w w') : GlobDg w':=by
 obtain ⟨n,rfl⟩:=hb.out
 exact h
def halfL : List Int:=[0,498536548,997073096,651767980,1994146192,1802195444,1303535960,1342533948,3988292384,4027552580,3604390888,3412177804,2607071920,2262029012,2685067896,3183342108]
def GlobCr (w : World) : Prop:=w.heap[0]? = some (.cells (nums .u32 halfL).toArray 147 (0,0))
theorem GlobCr.below {w w' : World} (h : GlobCr w) (hb : Below w.heap.size w w') : GlobCr w':=(hb.block _ (Array.getElem?_eq_some_iff.mp h).1).trans h
theorem GlobCr.drawn {w w' : World} (h : GlobCr w) (hb : Drawn0 w w') : GlobCr w':=by
 obtain ⟨n,rfl⟩:=hb.out
 exact h
end Go.Proofs.YtedfgkjimnjdpaaDoor.X
namespace Go.Proofs.YtedfgkjimnjdpaaDoor.X
open Go.RowKit Go.Proofs.YtedfgkjimnjdpaaDoorW.PrintWords Go.Proofs.YtedfgkjimnjdpaaDoorW.PrintLast Go.Proofs.YtedfgkjimnjdpaaDoorW.PrintMore
set_option linter.unusedVariables false
set_option linter.unusedSimpArgs false
theorem bits_range (op : BinOp) (x y : Int) : 0 ≤ bits op .u32 x y ∧ bits op .u32 x y < 4294967296:=by
 unfold bits
 cases op <;> simp only [IntKind.wrap_u32] <;> omega
theorem and15 (x : Int) (h0 : 0 ≤ x) (h1 : x < 4294967296) : bits .and .u32 x 15 = x % 16 :=
 bits_mask .u32 32 (by decide) (fun n h0 h1 => by rw [IntKind.wrap_u32];omega) 4 (by decide) x h0 (by omega)
def crcH (r : Int) : Int:=bits .xor .u32 (r / 16) (halfL.getD (r % 16).toNat 0)
def crcB (r x : Int) : Int:=crcH (crcH (bits .xor .u32 r (x % 4294967296)))
def crcL (r : Int) (l : List Int) : Int:=l.foldl crcB r
def crcLL (r : Int) (ls : List (List Int)) : Int:=ls.foldl crcL r
def crc_Sum.f (ls : List (List Int)) : Option Int:=some (bits .xor .u32 IntKind.u32.max (crcLL 4294967295 ls))
theorem C_int {k : IntKind} {w : World} {A : Option Addr} {n : Nat} {l : List Int} (h : Kd.C (Kd.int k) w A n l) (hn : 0 < n) : ∃ ad,A = some ad ∧ ∀ (j : Nat) x,l[j]? = some x → w.cell? (ad.add j) = some (.int k x):=by
 obtain ⟨hl,_,hc0⟩:=h
 obtain ⟨ad,rfl,hc⟩:=hc0 hn
 refine ⟨ad,rfl,fun j x hx => ?_⟩
 obtain ⟨c,_,hk,hcell⟩:=hc j x hx
 have hk' : c = [Value.int k x]:=hk
 subst hk'
 have:=hcell 0 (.int k x) rfl
 have e : j * (Kd.int k).sz + 0 = j:=by show j * 1 + 0 = j;omega
 rw [e] at this
 exact this
theorem idx_slice (t e : TypeId) (ht : Tryd.prog.underlying t = some (.slice (Tryd.prog.elem t))) (hs : ∀ W,(sizeOf (Tryd.prog.elem t)).run Tryd.prog W = .ok 1 W) (ad : Addr) (len c : Nat) (i : Int) (j : Nat) (W : World) (hj : i = j) (hl : j < len) :
  (Instr.indexAt t (.slice (some ad) len c) (.int .i64 i)).run Tryd.prog W = .ok (.pointer (some (ad.add j))) W:=by
 rw [run_indexAt_slice W t ad len c .i64 i ht,hs,if_pos (by omega)]
 subst hj
 simp only [Result.andThen,Int.toNat_natCast,Nat.mul_one]
theorem half_at (w : World) (hT : GlobCr w) (j : Nat) (hj : j < 16) : w.cell? ⟨0,j,none⟩ = some (.int .u32 (halfL.getD j 0)):=by
 rw [blk_cell hT]
 rcases (show j = 0 ∨ j = 1 ∨ j = 2 ∨ j = 3 ∨ j = 4 ∨ j = 5 ∨ j = 6 ∨ j = 7 ∨ j = 8 ∨ j = 9 ∨ j = 10 ∨ j = 11 ∨ j = 12 ∨ j = 13 ∨ j = 14 ∨ j = 15 by omega) with rfl|rfl|rfl|rfl|rfl|rfl|rfl|rfl|rfl|rfl|rfl|rfl|rfl|rfl|rfl|rfl <;> rfl
theorem at_half (i : Int) (j : Nat) (W : World) (hj : i = j) (hl : j < 16) :
  (Instr.indexAt 147 (.pointer (some ⟨0,0,none⟩)) (.int .u32 i)).run Tryd.prog W = .ok (.pointer (some ⟨0,j,none⟩)) W:=by
 have hs : ∀ W,(sizeOf (Tryd.prog.elem 147)).run Tryd.prog W = .ok 1 W:=fun W => by kernel_rfl
 rw [run_indexAt_array W 147 ⟨0,0,none⟩ .u32 i (by kernel_rfl),show Tryd.prog.arrayLen 147 = 16 by kernel_rfl,hs,if_pos (by omega)]
 simp only [Result.andThen]
 subst hj
 simp only [Int.toNat_natCast,Nat.mul_one]
 unfold Addr.add
 split
 ·rename_i hz
  rw [hz]
 ·simp
theorem crcH_range (r : Int) : 0 ≤ crcH r ∧ crcH r < 4294967296:=bits_range _ _ _
theorem crcL_range {r : Int} (h : 0 ≤ r ∧ r < 4294967296) (l : List Int) : 0 ≤ crcL r l ∧ crcL r l < 4294967296:=by
 induction l generalizing r with
 | nil => exact h
 | cons x l ih => exact ih (crcH_range _)
theorem crcLL_range {r : Int} (h : 0 ≤ r ∧ r < 4294967296) (ls : List (List Int)) : 0 ≤ crcLL r ls ∧ crcLL r ls < 4294967296:=by
 induction ls generalizing r with
 | nil => exact h
 | cons x l ih => exact ih (crcL_range h x)
set_option maxHeartbeats 4000000 in
set_option maxRecDepth 100000 in
theorem crc_Sum.calls (A0 : Option Addr) (c0 : Nat) (l0 : List (List Int)) (r : Int) (w : World) (hG : GlobCr w) (hr0 : Kd.C (Kd.slice 5 (Kd.int .u8)) w A0 l0.length l0) (hc0 : l0.length ≤ c0) (h : crc_Sum.f l0 = some r) :
  Calls Tryd.prog 83 #[.slice A0 l0.length c0] w fun e w' => e = .returned (.int .u32 r) ∧ Drawn0 w w':=by
 obtain rfl:=Option.some.inj h
 have HG:=Lib.hid hG
 have hlb : l0.length ≤ 9223372036854775807:=hr0.2.1
 have HR:=Lib.hid hr0
 clear hG hr0 h
 go_enter Tryd.func83,Tryd.ntmps83
 go_wp2
 go_loop [3,10] (fun r i => ∃ (j : Nat),i = .int .i64 j ∧ j ≤ l0.length ∧ r = .int .u32 (crcLL 4294967295 (l0.take j)))
  (fun _ i => (l0.length - intOf i).toNat)
 case atStart => exact ⟨0,rfl,by omega,rfl⟩
 case round =>
  obtain ⟨j,rfl,hj,rfl⟩:=hrel
  by_cases hlt : j < l0.length
  ·have hd : decide ((j : Int) < l0.length) = true:=by simp;omega
   obtain ⟨ad,A1,c1,rfl,hcell,hC1,hl1⟩:=at_L3 HR.out (j : Int) (by omega) (by omega)
   rw [Int.toNat_natCast] at hcell
   have hLe : l0[j]? = some (rd_L3 l0 (j : Int)):=by
    unfold rd_L3
    rw [Int.toNat_natCast,List.getD_eq_getElem?_getD,List.getElem?_eq_getElem hlt]
    rfl
   obtain ⟨L,hL⟩ : ∃ L,rd_L3 l0 (j : Int) = L:=⟨_,rfl⟩
   rw [hL] at hcell hC1 hl1 hLe
   have hnext : crcLL 4294967295 (l0.take (j + 1)) = crcL (crcLL 4294967295 (l0.take j)) L:=by
    rw [List.take_add_one,hLe]
    simp [crcLL]
   have hrng:=crcLL_range (r:=4294967295) (by decide) (l0.take j)
   generalize crcLL 4294967295 (l0.take j) = r0 at *
   have HN:=Lib.hid hnext
   have hLb : L.length ≤ 9223372036854775807:=hl1.2.1
   have HC:=Lib.hid hl1
   clear hnext hl1 hL hLe
   have la:=fun W => idx_slice 145 49 (by kernel_rfl) (fun W => by kernel_rfl) ad l0.length c0 (j : Int) j W rfl hlt
   go_wp2
   go_loop [3,16] (fun r i => ∃ (m : Nat),i = .int .i64 m ∧ m ≤ L.length ∧ r = .int .u32 (crcL r0 (L.take m)))
    (fun _ i => (L.length - intOf i).toNat)
   case atStart => exact ⟨0,rfl,by omega,rfl⟩
   case round =>
    obtain ⟨m,rfl,hm,rfl⟩:=hrel
    by_cases hmt : m < L.length
    ·have hd2 : decide ((m : Int) < L.length) = true:=by simp;omega
     obtain ⟨ad1,rfl,hx⟩:=C_int HC.out (by omega)
     have hxm:=hx m _ (List.getElem?_eq_getElem hmt)
     have hnx : crcL r0 (L.take (m + 1)) = crcB (crcL r0 (L.take m)) L[m]:=by
      unfold crcL
      rw [List.take_succ_eq_append_getElem hmt,List.foldl_append]
      rfl
     have hr1:=crcL_range hrng (L.take m)
     generalize crcL r0 (L.take m) = R at *
     generalize L[m] = x at *
     have lb:=fun W => idx_slice 49 5 (by kernel_rfl) (fun W => by kernel_rfl) ad1 L.length c1 (m : Int) m W rfl hmt
     unfold crcB at hnx
     have hb1:=bits_range .xor R (x % 4294967296)
     obtain ⟨R1,hR1⟩ : ∃ R1,bits .xor .u32 R (x % 4294967296) = R1:=⟨_,rfl⟩
     rw [hR1] at hnx hb1
     have hb2:=crcH_range R1
     obtain ⟨R2,hR2⟩ : ∃ R2,crcH R1 = R2:=⟨_,rfl⟩
     rw [hR2] at hnx hb2
     obtain ⟨R3,hR3⟩ : ∃ R3,crcH R2 = R3:=⟨_,rfl⟩
     rw [hR3] at hnx
     unfold crcH at hR2 hR3
     obtain ⟨t1,ht1⟩ : ∃ t,halfL.getD (R1 % 16).toNat 0 = t:=⟨_,rfl⟩
     obtain ⟨t2,ht2⟩ : ∃ t,halfL.getD (R2 % 16).toNat 0 = t:=⟨_,rfl⟩
     rw [ht1] at hR2
     rw [ht2] at hR3
     have a1:=and15 R1 hb1.1 hb1.2
     have a2:=and15 R2 hb2.1 hb2.2
     have ha1:=half_at w HG.out (R1 % 16).toNat (by omega)
     have ha2:=half_at w HG.out (R2 % 16).toNat (by omega)
     rw [ht1] at ha1
     rw [ht2] at ha2
     have i1:=fun W => at_half (R1 % 16) (R1 % 16).toNat W (by omega) (by omega)
     have i2:=fun W => at_half (R2 % 16) (R2 % 16).toNat W (by omega) (by omega)
     have HNX:=Lib.hid hnx
     clear hnx hx ht1 ht2
     go_wp2
     go_round
     case rel => exact ⟨m + 1,rfl,by omega,by rw [HNX.out]⟩
     case measure => simp [intOf];omega
    ·have hml : m = L.length:=by omega
     subst hml
     have hfin : crcL r0 (L.take L.length) = crcL r0 L:=by rw [List.take_length]
     rw [hfin]
     clear hfin hmt hm la
     go_wp2
     go_round
     case rel => exact ⟨j + 1,rfl,by omega,by rw [HN.out]⟩
     case measure => simp [intOf];omega
  ·have hjl : j = l0.length:=by omega
   subst hjl
   rw [List.take_length]
   go_wp2
   go_ret
   exact ⟨rfl,Drawn0.refl _⟩
end Go.Proofs.YtedfgkjimnjdpaaDoor.X
namespace Go.Proofs.YtedfgkjimnjdpaaDoor.X
open Go.RowKit Go.Proofs.YtedfgkjimnjdpaaDoorW.PrintWords Go.Proofs.YtedfgkjimnjdpaaDoorW.PrintLast Go.Proofs.YtedfgkjimnjdpaaDoorW.PrintMore
set_option linter.unusedVariables false
set_option linter.unusedSimpArgs false
theorem wpList_append_run {P : Program} (w : World) {ops : Array Oper} {rest : List Oper} {o : Oper} {a : Act} {Q : Exit → Act → World → Prop} (hgd : o.guard = none) (s x : Operand) (t t' : TypeId)
  (ho : o.op = .call { callee:=.builtin .append,args:=#[s,x],argTypes:=#[t,t'] }) (u v : Value) (hs : a.eval s = u) (hx : a.eval x = v) {v' : Value} {w' : World}
  (hr : (Builtin.append_ #[t,t'] o.type #[u,v]).run P w = .ok v' w') (h : wpList P ops Q rest (a.put o.dst v') w') : wpList P ops Q (o :: rest) a w :=
 wpList_plain hgd fun K hK => by
  unfold Oper.wp execOp
  simp only [ho,resolve,invoke,builtin,Sem.run_bind,Sem.run_pure,Result.andThen_ok,List.map_toArray,List.map_cons,List.map_nil,hs,hx,hr]
  exact hK _ _ h
set_option maxHeartbeats 2000000 in
set_option maxRecDepth 100000 in
theorem grow_calls (n : Nat) (hn : n ≤ 10000000) (w : World) :
  Calls Tryd.prog 114 #[.slice none 0 0,.int .i64 n] w fun e w' => ∃ v : Value,e = .returned v ∧ Kd.R (Kd.int .u8) 5 w' w.heap.size (fun _ => True) v [] ∧ Below w.heap.size w w':=by
 obtain ⟨i,hi,hz⟩:=Option.map_eq_some_iff.1 infoB
 simp only [Prod.mk.injEq] at hz
 by_cases h0 : 0 < n
 ·have hr:=fun ty => Lib.run_append_nil_zeros (P:=Tryd.prog) w 49 3 ty 5 i (.int .u8 0) .i64 .i64 Tryd.underlying49 Tryd.underlying3 hi hz.1 n h0 (by rw [hz.2.1];omega) (by omega) (by rw [hz.2.2];omega)
  have hge:=grownCap_ge w n 0 5
  have hle:=grownCap_le_maxLen w n 0 5 (by unfold maxLen;omega)
  obtain ⟨cp,hcp⟩ : ∃ cp,grownCap w n 0 5 = cp:=⟨_,rfl⟩
  rw [hcp] at hr hge hle
  have hsz : (Builtin.zeroCells (Value.int .u8 0).cells n ++ Builtin.zeroCells (Value.int .u8 0).cells (cp - n)).size = cp:=by
   rw [Array.size_append,size_zeroCells,size_zeroCells,show (Value.int .u8 0).cells.size = 1 from rfl]
   omega
  generalize Builtin.zeroCells (Value.int .u8 0).cells n ++ Builtin.zeroCells (Value.int .u8 0).cells (cp - n) = Z at *
  have hnew:=heap_alloc_new w.drew (.cells Z 5 (0,0))
  have hbel : Below w.heap.size w (w.drew.alloc (.cells Z 5 (0,0))):=(Below.refl _ _).drew.alloc (Nat.le_refl _) _
  have hR : Kd.R (Kd.int .u8) 5 (w.drew.alloc (.cells Z 5 (0,0))) w.heap.size (fun _ => True) (.slice (some ⟨w.heap.size,0,none⟩) 0 cp) []:=by
   refine ⟨fun _ _ => trivial,[],⟨rfl,.inr ⟨w.heap.size,cp,_,rfl,Nat.le_refl _,hnew,Nat.zero_le _,hle,by rw [hsz];exact (Nat.mul_one _).symm,rfl⟩⟩,Reps.none _ _⟩
  have hd : decide ((0 : Int) < (n : Int)) = true:=by simp;omega
  have HR:=Lib.hid hR
  have HB:=Lib.hid hbel
  clear hR hbel hnew hi hz hsz hcp
  go_enter Tryd.func114,Tryd.ntmps114
  go_upto_region 5 with (fail)
  refine wp_region_lit ?_
  iterate 5 (refine wpList_step (fun K hK => ?_);go_simp;refine hK _ _ ?_;clear hK K)
  refine wpList_append_run _ rfl (.tmp 20) (.tmp 21) 49 3 rfl (.slice none 0 0) (.int .i64 n) rfl rfl (hr _) ?_
  clear hr
  simp only [Act.put]
  have hcn : (0 : Int) ≤ cp:=by omega
  iterate 4 (refine wpList_step (fun K hK => ?_);go_simp;refine hK _ _ ?_;clear hK K)
  refine wpList_nil ?_
  go_wp2
  go_ret
  exact ⟨_,rfl,HR.out,HB.out⟩
 ·obtain rfl : n = 0:=by omega
  go_enter Tryd.func114,Tryd.ntmps114
  go_wp2
  go_ret
  exact ⟨_,rfl,Kd.R_nil _ _ _ _ _,Below.refl _ _⟩
def slices_Concat_byte_byte.f (ls : List (List Int)) : Option (List Int):=if ls.flatten.length ≤ 10000000 ∧ ls.length ≤ 1000 then some ls.flatten else none
theorem row_at {A0 : Option Addr} {l0 : List (List Int)} {w wr : World} (h : Kd.C (Kd.slice 5 (Kd.int .u8)) w A0 l0.length l0) (hb : Below w.heap.size w wr) (j : Nat) (hj : j < l0.length) :
  ∃ ad A1 c1,A0 = some ad ∧ wr.cell? (ad.add j) = some (.slice A1 l0[j].length c1) ∧ l0[j].length ≤ c1 ∧ Kd.C (Kd.int .u8) w A1 l0[j].length l0[j]:=by
 obtain ⟨ad,A1,c1,rfl,hcell,hC1,hl1⟩:=at_L3 h (j : Int) (by omega) (by omega)
 have e : rd_L3 l0 (j : Int) = l0[j]:=by
  unfold rd_L3
  rw [Int.toNat_natCast,List.getD_eq_getElem?_getD,List.getElem?_eq_getElem hj]
  rfl
 rw [Int.toNat_natCast] at hcell
 rw [e] at hcell hC1 hl1
 exact ⟨ad,A1,c1,rfl,(hb.cell (World.block_lt_of_cell? _ _ hcell)).trans hcell,hC1,hl1⟩
theorem flat_take (ls : List (List Int)) (j : Nat) (hj : j < ls.length) : (ls.take (j + 1)).flatten = (ls.take j).flatten ++ ls[j]:=by
 rw [List.take_succ_eq_append_getElem hj,List.flatten_append]
 simp
theorem flat_le (ls : List (List Int)) (j : Nat) : (ls.take j).flatten.length ≤ ls.flatten.length:=by
 conv => rhs;rw [← List.take_append_drop j ls]
 rw [List.flatten_append,List.length_append]
 omega
set_option maxHeartbeats 4000000 in
set_option maxRecDepth 100000 in
theorem slices_Concat_byte_byte.calls (A0 : Option Addr) (c0 : Nat) (l0 : List (List Int)) (r : List Int) (w : World) (hr0 : Kd.C (Kd.slice 5 (Kd.int .u8)) w A0 l0.length l0) (hc0 : l0.length ≤ c0) (h : slices_Concat_byte_byte.f l0 = some r) :
  Calls Tryd.prog 82 #[.slice A0 l0.length c0] w fun e w' => ∃ v0_ : Value,e = .returned (v0_) ∧ Kd.R (Kd.int .u8) 5 w' w.heap.size (fun _ => True) v0_ r ∧ Below w.heap.size w w':=by
 unfold slices_Concat_byte_byte.f at h
 split at h
 ·rename_i hh
  obtain rfl:=Option.some.inj h
  obtain ⟨hf,hl⟩:=hh
  have HR:=Lib.hid hr0
  clear hr0 h
  have hfl:=flat_le l0
  go_enter Tryd.func82,Tryd.ntmps82
  go_wp2
  go_loop [3,11] (fun s i => ∃ (j : Nat),i = .int .i64 j ∧ j ≤ l0.length ∧ s = .int .i64 (((l0.take j).flatten.length : Nat) : Int))
   (fun _ i => (l0.length - intOf i).toNat)
  case atStart => exact ⟨0,rfl,by omega,rfl⟩
  case round =>
   obtain ⟨j,rfl,hj,rfl⟩:=hrel
   have hfj:=hfl j
   have hfj1:=hfl (j + 1)
   have HF:=Lib.hid hfl
   clear hfl
   by_cases hlt : j < l0.length
   ·have hd : decide ((j : Int) < l0.length) = true:=by simp;omega
    obtain ⟨ad,A1,c1,rfl,hcell,hC1,hl1⟩:=row_at HR.out (Below.refl _ _) j hlt
    have hnext:=flat_take l0 j hlt
    generalize l0[j] = L at *
    have hlen : (l0.take (j + 1)).flatten.length = (l0.take j).flatten.length + L.length:=by rw [hnext,List.length_append]
    obtain ⟨s,hs⟩ : ∃ s,(l0.take j).flatten.length = s:=⟨_,rfl⟩
    rw [hs] at hlen hfj ⊢
    have hsum : s + L.length ≤ 10000000:=by omega
    have HN:=Lib.hid hlen
    clear hnext hl1 hs hlen hfj hfj1
    have la:=fun W => idx_slice 145 49 (by kernel_rfl) (fun W => by kernel_rfl) ad l0.length c0 (j : Int) j W rfl hlt
    have hneg : decide ((s : Int) + (L.length : Int) < 0) = false:=by simp;omega
    go_wp2
    go_round
    case rel => exact ⟨j + 1,rfl,by omega,by rw [HN.out];rfl⟩
    case measure => simp [intOf];omega
   ·have hjl : j = l0.length:=by omega
    subst hjl
    have et : (l0.take l0.length).flatten.length = l0.flatten.length:=by rw [List.take_length]
    rw [et]
    clear et hlt hj hfj hfj1
    obtain ⟨n,hn⟩ : ∃ n,l0.flatten.length = n:=⟨_,rfl⟩
    rw [hn] at hf ⊢
    have HN:=Lib.hid hn
    clear hn
    go_wp2_with (go_at_call 114;refine (grow_calls n hf _).mono ?_;rintro e w1 ⟨v1,rfl,hR1,hb1⟩)
    have HB1:=Lib.hid hb1
    have HR1:=Lib.hid hR1
    clear hR1 hb1
    go_loopw [6,27] (fun v i wr => ∃ (j : Nat),i = .int .i64 j ∧ j ≤ l0.length ∧ Kd.R (Kd.int .u8) 5 wr w.heap.size (fun _ => True) v (l0.take j).flatten ∧ Below w.heap.size w wr)
     (fun _ i _ => (l0.length - intOf i).toNat)
    case atStart => exact ⟨0,rfl,by omega,HR1.out,HB1.out⟩
    case round =>
     obtain ⟨j,rfl,hj,hR,hb⟩:=hrel
     by_cases hlt : j < l0.length
     ·have hd : decide ((j : Int) < l0.length) = true:=by simp;omega
      have hfj1:=HF.out (j + 1)
      rw [HN.out] at hfj1
      obtain ⟨ad,A1,c1,rfl,hcell,hC1,hl1⟩:=row_at HR.out hb j hlt
      have hnext:=flat_take l0 j hlt
      rw [hnext,List.length_append] at hfj1
      generalize l0[j] = L at *
      generalize (l0.take j).flatten = xs at *
      have hCb:=Kd.C_below hl1 hb
      have HNX:=Lib.hid hnext
      clear hnext hl1
      have la:=fun W => idx_slice 145 49 (by kernel_rfl) (fun W => by kernel_rfl) ad l0.length c0 (j : Int) j W rfl hlt
      obtain ⟨Av,cv,rfl⟩:=Kd.R_slice hR
      have HQ:=Lib.hid hR
      have HBq:=Lib.hid hb
      have HCq:=Lib.hid hCb
      clear hR hb hCb
      go_upto_region 13 with (fail)
      refine wp_region_lit ?_
      iterate 2 (refine wpList_step (fun K hK => ?_);go_simp;refine hK _ _ ?_;clear hK K)
      refine Kd.R_append_rows (Kd.int .u8) (Rr:=(Kd.int .u8).K wr) (w0:=w) w.heap.size rfl _ _ _ 5 _ 1 rfl Tryd.underlying49 infoB rfl (by decide) (by decide) (.slice Av xs.length cv) xs L A1 L.length c1 (fun _ => True) (fun _ => False) rfl rfl HQ.out HCq.out (fun x cs h => h) (fun _ h => h.elim) (fun _ _ => trivial) HBq.out HBq.out.size (by omega) ?_
      intro v2 w2 h2 hb2 hg2 hat
      refine wpList_step (fun K hK => ?_)
      go_simp
      refine hK _ _ ?_
      clear hK K
      refine wpList_nil ?_
      clear hcell la hg2 hat
      have H2:=Lib.hid h2
      clear h2
      go_wp2
      go_roundw
      case rel => exact ⟨j + 1,rfl,by omega,by rw [HNX.out];exact H2.out,hb2⟩
      case measure => simp [intOf];omega
     ·have hjl : j = l0.length:=by omega
      subst hjl
      rw [List.take_length] at hR
      have H2:=Lib.hid hR
      clear hR hlt hj
      go_wp2
      go_ret
      exact ⟨_,rfl,H2.out,hb⟩
 ·exact absurd h (by simp)
end Go.Proofs.YtedfgkjimnjdpaaDoor.X
namespace Go.Proofs.YtedfgkjimnjdpaaDoor.X
open Go.RowKit Go.Proofs.YtedfgkjimnjdpaaDoorW.PrintWords Go.Proofs.YtedfgkjimnjdpaaDoorW.PrintLast Go.Proofs.YtedfgkjimnjdpaaDoorW.PrintMore
attribute [local go_sem] max2_int min2_int max_two min_two max_three min_three max_four min_four
set_option linter.unusedVariables false
set_option linter.unusedSimpArgs false
def crc_Frame.f (l0 : List Int) : Option (List Int × Int):=if (l0.length : Int) > 65536 then (some (([] : List Int),3)) else ((crc_four.f (((l0.length : Int)) % 4294967296)).bind fun t155 => ((crc_Sum.f (([t155] : List (List Int)))).bind fun t161 => ((crc_four.f t161).bind fun t162 => ((crc_Sum.f (([l0] : List (List Int)))).bind fun t168 => ((crc_four.f t168).bind fun t169 => ((slices_Concat_byte_byte.f (([t155,t162,t169,l0] : List (List Int)))).bind fun t175 => (some (t175,0))))))))
set_option maxHeartbeats 8000000 in
set_option maxRecDepth 100000 in
theorem crc_Frame.calls (P0_ : Nat → Prop) (A0 : Option Addr) (c0 : Nat) (l0 : List Int) (r1 : List Int) (r2 : Int) (w : World) (hGCr : GlobCr w) (hs0 : Kd.V (Kd.int .u8) 5 w w.heap.size (fun k_ => P0_ k_) (.slice A0 l0.length c0) l0) (h : crc_Frame.f l0 = some (r1,r2)) :
  Calls Tryd.prog 41 #[.slice A0 l0.length c0] w fun e w' => ∃ v0_ : Value,e = .returned (.tuple #[v0_,.int .i64 r2]) ∧ Kd.R (Kd.int .u8) 5 w' w.heap.size (fun k_ => (w.heap.size ≤ k_)) v0_ r1 ∧ Below w.heap.size w w':=by
 have HGCr:=Aside0.mk hGCr
 clear hGCr
 have HO0:=Aside0.mk (show Kd.V (Kd.int .u8) 5 w w.heap.size (fun k_ => (P0_ k_ ∨ w.heap.size ≤ k_)) (.slice A0 l0.length c0) l0 from Kd.V_mono hs0 (fun k_ hk => .inl hk))
 have HB:=Aside0.mk (Below.refl w.heap.size w)
 have H : (if (l0.length : Int) > 65536 then (some (([] : List Int),3)) else ((crc_four.f (((l0.length : Int)) % 4294967296)).bind fun t155 => ((crc_Sum.f (([t155] : List (List Int)))).bind fun t161 => ((crc_four.f t161).bind fun t162 => ((crc_Sum.f (([l0] : List (List Int)))).bind fun t168 => ((crc_four.f t168).bind fun t169 => ((slices_Concat_byte_byte.f (([t155,t162,t169,l0] : List (List Int)))).bind fun t175 => (some (t175,0))))))))) = some (r1,r2):=h
 clear h
 by_cases c2 : (l0.length : Int) > 65536
 ·rw [if_pos c2] at H
  have c2b0 : decide (65536 < (l0.length : Int)) = true:=decide_eq_true c2
  have c2b1 : decide (65536 < l0.length) = true:=decide_eq_true (by omega)
  clear c2
  simp only [Option.some.injEq,Prod.mk.injEq] at H
  obtain ⟨rfl,rfl⟩:=H
  go_enter Tryd.func41,Tryd.ntmps41
  go_wp2
  go_ret2
  exact ⟨_,by first|rfl|(simp [errW_none,errW_some] <;> rfl)|(simp [*,errW_none,errW_some] <;> rfl),by first|exact Kd.R_nil _ _ _ _ _|exact Kd.N_nil _ _ _ _ _|exact Kd.V_nil _ _ _ _ _|exact Kd.Q_nil _ _ _ _ _|exact Kd.S_nil _ _ _ _ _,by repeat (first|(with_reducible first|exact HB.out|apply below_alloc|apply pw_below_drewN|apply below_drew1)|exact HB.out)⟩
 ·rw [if_neg c2] at H
  have c2b0 : decide (65536 < (l0.length : Int)) = false:=decide_eq_false c2
  have c2b1 : decide (65536 < l0.length) = false:=decide_eq_false (by omega)
  clear c2
  replace H:=Option.bind_eq_some_iff.mp H
  obtain ⟨t155,A30,H⟩:=H
  replace H : ((crc_Sum.f (([t155] : List (List Int)))).bind fun t161 => ((crc_four.f t161).bind fun t162 => ((crc_Sum.f (([l0] : List (List Int)))).bind fun t168 => ((crc_four.f t168).bind fun t169 => ((slices_Concat_byte_byte.f (([t155,t162,t169,l0] : List (List Int)))).bind fun t175 => (some (t175,0))))))) = some (r1,r2):=H
  have A3:=Aside0.mk A30
  clear A30
  obtain ⟨y158,hy158⟩ : ∃ y_ : List (List Int),y_ = (([t155] : List (List Int))):=⟨_,rfl⟩
  replace H : ((crc_Sum.f y158).bind fun t161 => ((crc_four.f t161).bind fun t162 => ((crc_Sum.f (([l0] : List (List Int)))).bind fun t168 => ((crc_four.f t168).bind fun t169 => ((slices_Concat_byte_byte.f (([t155,t162,t169,l0] : List (List Int)))).bind fun t175 => (some (t175,0))))))) = some (r1,r2):=by first|(rw [hy158];with_reducible exact H)|(have H2_:=(Option.bind_some _ _).symm.trans H;rw [hy158];with_reducible exact H2_)|(have H2_:=(Option.bind_some _ _).symm.trans H;with_reducible exact H2_)|with_reducible exact H|(rw [hy158];exact H)|exact H
  have Ny158:=Aside0.mk hy158
  clear hy158
  replace H:=Option.bind_eq_some_iff.mp H
  obtain ⟨t161,A40,H⟩:=H
  replace H : ((crc_four.f t161).bind fun t162 => ((crc_Sum.f (([l0] : List (List Int)))).bind fun t168 => ((crc_four.f t168).bind fun t169 => ((slices_Concat_byte_byte.f (([t155,t162,t169,l0] : List (List Int)))).bind fun t175 => (some (t175,0)))))) = some (r1,r2):=H
  have A4:=Aside0.mk A40
  clear A40
  replace H:=Option.bind_eq_some_iff.mp H
  obtain ⟨t162,A50,H⟩:=H
  replace H : ((crc_Sum.f (([l0] : List (List Int)))).bind fun t168 => ((crc_four.f t168).bind fun t169 => ((slices_Concat_byte_byte.f (([t155,t162,t169,l0] : List (List Int)))).bind fun t175 => (some (t175,0))))) = some (r1,r2):=H
  have A5:=Aside0.mk A50
  clear A50
  obtain ⟨y165,hy165⟩ : ∃ y_ : List (List Int),y_ = (([l0] : List (List Int))):=⟨_,rfl⟩
  replace H : ((crc_Sum.f y165).bind fun t168 => ((crc_four.f t168).bind fun t169 => ((slices_Concat_byte_byte.f (([t155,t162,t169,l0] : List (List Int)))).bind fun t175 => (some (t175,0))))) = some (r1,r2):=by first|(rw [hy165];with_reducible exact H)|(have H2_:=(Option.bind_some _ _).symm.trans H;rw [hy165];with_reducible exact H2_)|(have H2_:=(Option.bind_some _ _).symm.trans H;with_reducible exact H2_)|with_reducible exact H|(rw [hy165];exact H)|exact H
  have Ny165:=Aside0.mk hy165
  clear hy165
  replace H:=Option.bind_eq_some_iff.mp H
  obtain ⟨t168,A60,H⟩:=H
  replace H : ((crc_four.f t168).bind fun t169 => ((slices_Concat_byte_byte.f (([t155,t162,t169,l0] : List (List Int)))).bind fun t175 => (some (t175,0)))) = some (r1,r2):=H
  have A6:=Aside0.mk A60
  clear A60
  replace H:=Option.bind_eq_some_iff.mp H
  obtain ⟨t169,A70,H⟩:=H
  replace H : ((slices_Concat_byte_byte.f (([t155,t162,t169,l0] : List (List Int)))).bind fun t175 => (some (t175,0))) = some (r1,r2):=H
  have A7:=Aside0.mk A70
  clear A70
  obtain ⟨y172,hy172⟩ : ∃ y_ : List (List Int),y_ = (([t155,t162,t169,l0] : List (List Int))):=⟨_,rfl⟩
  replace H : ((slices_Concat_byte_byte.f y172).bind fun t175 => (some (t175,0))) = some (r1,r2):=by first|(rw [hy172];with_reducible exact H)|(have H2_:=(Option.bind_some _ _).symm.trans H;rw [hy172];with_reducible exact H2_)|(have H2_:=(Option.bind_some _ _).symm.trans H;with_reducible exact H2_)|with_reducible exact H|(rw [hy172];exact H)|exact H
  have Ny172:=Aside0.mk hy172
  clear hy172
  replace H:=Option.bind_eq_some_iff.mp H
  obtain ⟨t175,A80,H⟩:=H
  replace H : (some (t175,0)) = some (r1,r2):=H
  have A8:=Aside0.mk A80
  clear A80
  simp only [Option.some.injEq,Prod.mk.injEq] at H
  obtain ⟨rfl,rfl⟩:=H
  go_enter Tryd.func41,Tryd.ntmps41
  go_wp2_with (first|((with_reducible refine gate_callee (f:=81) rfl ?_);refine goesL_ (some 11) rfl rfl Tryd.func81 (by kernel_rfl) rfl #[.int .u32 (((l0.length : Int)) % 4294967296)] rfl (by (try simp only [List.map_toArray,List.map_cons,List.map_nil]);first|done|rfl|(simp only [List.length_drop,List.length_take];rfl)) ?_;(with_reducible refine (crc_four.calls (((l0.length : Int)) % 4294967296) t155 _ A3.out).mono ?_);rintro e w9 ⟨v156,rfl,ho0,hb⟩;refine ⟨_,rfl,?_⟩;have n0_:=Aside0.mk (Kd.V_elder' (by (with_reducible repeat (first|apply Kd.V_alloc|apply Kd.V_drewN|apply Kd.V_drew));exact HO0.out) (Kd.R_base ho0) hb);have n1_:=Aside0.mk (Kd.R_lower (Kd.R_newM (M:=fun k_ => (w.heap.size ≤ k_)) ho0 (below_size (by repeat (first|(with_reducible first|exact HB.out|apply below_alloc|apply pw_below_drewN|apply below_drew1)|exact HB.out))) (fun k_ h_ => h_)) (below_size (by repeat (first|(with_reducible first|exact HB.out|apply below_alloc|apply pw_below_drewN|apply below_drew1)|exact HB.out))));have n2_:=Aside0.mk (below_step (by repeat (first|(with_reducible first|exact HB.out|apply below_alloc|apply pw_below_drewN|apply below_drew1)|exact HB.out)) hb);clear HO0;clear HB;have HO0:=n0_;have HO157:=n1_;have HB:=n2_;clear n0_ n1_ n2_;(try clear hb);(try clear hb2);(try clear hk);(try clear hi);(try clear ho0);obtain ⟨Ao10,co10,eo10⟩:=Kd.R_slice HO157.out;subst eo10)|((with_reducible refine gate_dst (N:=14) rfl ?_);refine Kd.N_lit (Kd.slice 5 (Kd.int .u8)) _ 49 ?hg (N':=14) ?hd (xs:=([t155] : List (List Int))) (inner:=[.slice Ao10 t155.length co10]) (ok:=(fun k_ => (P0_ k_ ∨ w.heap.size ≤ k_))) (okp:=(fun k_ => (P0_ k_ ∨ w.heap.size ≤ k_))) ?hr ?hp (fun _ hk => hk) ((show ∀ k_,w9.heap.size ≤ k_ → (fun k_ => (P0_ k_ ∨ w.heap.size ≤ k_)) k_ from fun k_ hk => (.inr (Nat.le_trans (below_size (by repeat (first|(with_reducible first|exact HB.out|apply below_alloc|apply pw_below_drewN|apply below_drew1)|exact HB.out))) hk))) _ (Nat.le_refl _)) (Below.refl _ _) (Nat.le_refl _) (by simp) ?_;(case hd => rfl);(case hg => rfl);(case hr => first|(go_simp;done)|(go_simp;rfl));(case hp => exact (Reps.one (show Kd.FK (Kd.slice 5 (Kd.int .u8)) _ _ t155 [.slice Ao10 t155.length co10] from (Kd.FK_slice_mk (Kd.R_reads' (Kd.R_mono (ok':=(fun k_ => (P0_ k_ ∨ w.heap.size ≤ k_))) (HO157.out) (fun k_ hk => (.inr (hk.1))))).2.1 (Kd.R_F (Kd.R_mono (ok':=(fun k_ => (P0_ k_ ∨ w.heap.size ≤ k_))) (HO157.out) (fun k_ hk => (.inr (hk.1))))))) (Reps.none _ _)));intro v159 w11 ho12 hb hg_ hnew_;clear hg_ hnew_;(first|rw [← Ny158.out] at ho12|(simp only [Int.reduceToNat] at ho12;rw [← Ny158.out] at ho12));have n0_:=Aside0.mk (Kd.V_elder' (by (with_reducible repeat (first|apply Kd.V_alloc|apply Kd.V_drewN|apply Kd.V_drew));exact HO0.out) (Kd.N_base ho12) hb);have n1_:=Aside0.mk (Kd.R_below (by (with_reducible repeat (first|apply Kd.R_alloc|apply Kd.R_drewN|apply Kd.R_drew));exact HO157.out) hb);have n2_:=Aside0.mk (Kd.N_lower ho12 (below_size (by repeat (first|(with_reducible first|exact HB.out|apply below_alloc|apply pw_below_drewN|apply below_drew1)|exact HB.out))));have n3_:=Aside0.mk (below_step (by repeat (first|(with_reducible first|exact HB.out|apply below_alloc|apply pw_below_drewN|apply below_drew1)|exact HB.out)) hb);clear HO0;clear HO157;clear HB;have HO0:=n0_;have HO157:=n1_;have HO160:=n2_;have HB:=n3_;clear n0_ n1_ n2_ n3_;clear hb ho12;obtain ⟨Ao13,co13,eo13⟩:=Kd.N_slice HO160.out;subst eo13)|((with_reducible refine gate_callee (f:=83) rfl ?_);refine goesL_ (some 15) rfl rfl Tryd.func83 (by kernel_rfl) rfl #[.slice Ao13 y158.length co13] rfl (by (try simp only [List.map_toArray,List.map_cons,List.map_nil]);first|done|rfl|(simp only [List.length_drop,List.length_take];rfl)) ?_;(with_reducible refine (crc_Sum.calls _ _ y158 t161 _ ?side3 ?side1 ?side2 A4.out).mono ?_);(case side1 => repeat (first|exact (Kd.N_reads' HO160.out).2.2|(with_reducible refine Kd.C_alloc ?_ _)|(with_reducible refine Kd.C_drewN ?_ _)|(with_reducible refine Kd.C_drew ?_)));(case side2 => exact (Kd.N_reads' HO160.out).2.1);(case side3 => first|exact HGCr.out|exact GlobCr.below HGCr.out (by repeat (first|(with_reducible first|exact HB.out|apply below_alloc|apply pw_below_drewN|apply below_drew1)|exact HB.out))|exact GlobCr.drawn HGCr.out (by repeat (first|exact Drawn0.refl _|apply Drawn0.step)));rintro e w' ⟨rfl,⟨nd,rfl⟩⟩;refine ⟨_,rfl,?_⟩)|((with_reducible refine gate_callee (f:=81) rfl ?_);refine goesL_ (some 16) rfl rfl Tryd.func81 (by kernel_rfl) rfl #[.int .u32 t161] rfl (by (try simp only [List.map_toArray,List.map_cons,List.map_nil]);first|done|rfl|(simp only [List.length_drop,List.length_take];rfl)) ?_;(with_reducible refine (crc_four.calls t161 t162 _ A5.out).mono ?_);rintro e w14 ⟨v163,rfl,ho0,hb⟩;refine ⟨_,rfl,?_⟩;have n0_:=Aside0.mk (Kd.V_elder' (by (with_reducible repeat (first|apply Kd.V_alloc|apply Kd.V_drewN|apply Kd.V_drew));exact HO0.out) (Kd.R_base ho0) hb);have n1_:=Aside0.mk (Kd.R_elder' (by (with_reducible repeat (first|apply Kd.R_alloc|apply Kd.R_drewN|apply Kd.R_drew));exact HO157.out) (Kd.R_base ho0) hb);have n2_:=Aside0.mk (Kd.N_elder' (by (with_reducible repeat (first|apply Kd.N_alloc|apply Kd.N_drewN|apply Kd.N_drew));exact HO160.out) (Kd.R_base ho0) hb);have n3_:=Aside0.mk (Kd.R_lower (Kd.R_new' (Kd.R_newM (M:=fun k_ => (w.heap.size ≤ k_)) ho0 (below_size (by repeat (first|(with_reducible first|exact HB.out|apply below_alloc|apply pw_below_drewN|apply below_drew1)|exact HB.out))) (fun k_ h_ => h_)) (Kd.R_lt (by (with_reducible repeat (first|apply Kd.R_alloc|apply Kd.R_drewN|apply Kd.R_drew));exact HO157.out))) (below_size (by repeat (first|(with_reducible first|exact HB.out|apply below_alloc|apply pw_below_drewN|apply below_drew1)|exact HB.out))));have n4_:=Aside0.mk (below_step (by repeat (first|(with_reducible first|exact HB.out|apply below_alloc|apply pw_below_drewN|apply below_drew1)|exact HB.out)) hb);clear HO0;clear HO157;clear HO160;clear HB;have HO0:=n0_;have HO157:=n1_;have HO160:=n2_;have HO164:=n3_;have HB:=n4_;clear n0_ n1_ n2_ n3_ n4_;(try clear hb);(try clear hb2);(try clear hk);(try clear hi);(try clear ho0))|((with_reducible refine gate_dst (N:=18) rfl ?_);refine Kd.N_lit (Kd.slice 5 (Kd.int .u8)) _ 49 ?hg (N':=18) ?hd (xs:=([l0] : List (List Int))) (inner:=[.slice A0 l0.length c0]) (ok:=(fun k_ => (P0_ k_ ∨ w.heap.size ≤ k_) ∧ some k_ ≠ (.slice Ao10 t155.length co10 : Value).ownBlock ∧ some k_ ≠ (.slice Ao13 y158.length co13 : Value).ownBlock ∧ some k_ ≠ (v163 : Value).ownBlock)) (okp:=(fun k_ => (P0_ k_ ∨ w.heap.size ≤ k_) ∧ some k_ ≠ (.slice Ao10 t155.length co10 : Value).ownBlock ∧ some k_ ≠ (.slice Ao13 y158.length co13 : Value).ownBlock ∧ some k_ ≠ (v163 : Value).ownBlock)) ?hr ?hp (fun _ hk => hk) ((show ∀ k_,w14.heap.size ≤ k_ → (fun k_ => (P0_ k_ ∨ w.heap.size ≤ k_) ∧ some k_ ≠ (.slice Ao10 t155.length co10 : Value).ownBlock ∧ some k_ ≠ (.slice Ao13 y158.length co13 : Value).ownBlock ∧ some k_ ≠ (v163 : Value).ownBlock) k_ from fun k_ hk => ⟨(.inr (Nat.le_trans (below_size (by repeat (first|(with_reducible first|exact HB.out|apply below_alloc|apply pw_below_drewN|apply below_drew1)|exact HB.out))) hk)),Kd.fresh' (Kd.R_lt (by (with_reducible repeat (first|apply Kd.R_alloc|apply Kd.R_drewN|apply Kd.R_drew));exact HO157.out)) k_ hk,Kd.fresh' (Kd.N_lt (by (with_reducible repeat (first|apply Kd.N_alloc|apply Kd.N_drewN|apply Kd.N_drew));exact HO160.out)) k_ hk,Kd.fresh' (Kd.R_lt (by (with_reducible repeat (first|apply Kd.R_alloc|apply Kd.R_drewN|apply Kd.R_drew));exact HO164.out)) k_ hk⟩) _ (Nat.le_refl _)) (Below.refl _ _) (Nat.le_refl _) (by simp) ?_;(case hd => rfl);(case hg => rfl);(case hr => first|(go_simp;done)|(go_simp;rfl));(case hp => exact (Reps.one (show Kd.FK (Kd.slice 5 (Kd.int .u8)) _ _ l0 [.slice A0 l0.length c0] from (Kd.FK_slice_mk (Kd.V_reads' (Kd.V_mono (ok':=(fun k_ => (P0_ k_ ∨ w.heap.size ≤ k_) ∧ some k_ ≠ (.slice Ao10 t155.length co10 : Value).ownBlock ∧ some k_ ≠ (.slice Ao13 y158.length co13 : Value).ownBlock ∧ some k_ ≠ (v163 : Value).ownBlock)) (HO0.out) (fun k_ hk => ⟨hk.1.1.1,⟨hk.1.1.2,⟨hk.1.2,hk.2⟩⟩⟩))).2.1 (Kd.V_F (Kd.V_mono (ok':=(fun k_ => (P0_ k_ ∨ w.heap.size ≤ k_) ∧ some k_ ≠ (.slice Ao10 t155.length co10 : Value).ownBlock ∧ some k_ ≠ (.slice Ao13 y158.length co13 : Value).ownBlock ∧ some k_ ≠ (v163 : Value).ownBlock)) (HO0.out) (fun k_ hk => ⟨hk.1.1.1,⟨hk.1.1.2,⟨hk.1.2,hk.2⟩⟩⟩))))) (Reps.none _ _)));intro v166 w15 ho16 hb hg_ hnew_;clear hg_ hnew_;(first|rw [← Ny165.out] at ho16|(simp only [Int.reduceToNat] at ho16;rw [← Ny165.out] at ho16));have n0_:=Aside0.mk (Kd.V_elder' (by (with_reducible repeat (first|apply Kd.V_alloc|apply Kd.V_drewN|apply Kd.V_drew));exact HO0.out) (Kd.N_base ho16) hb);have n1_:=Aside0.mk (Kd.R_below (by (with_reducible repeat (first|apply Kd.R_alloc|apply Kd.R_drewN|apply Kd.R_drew));exact HO157.out) hb);have n2_:=Aside0.mk (Kd.N_elder' (by (with_reducible repeat (first|apply Kd.N_alloc|apply Kd.N_drewN|apply Kd.N_drew));exact HO160.out) (Kd.N_base ho16) hb);have n3_:=Aside0.mk (Kd.R_below (by (with_reducible repeat (first|apply Kd.R_alloc|apply Kd.R_drewN|apply Kd.R_drew));exact HO164.out) hb);have n4_:=Aside0.mk (Kd.N_lower ho16 (below_size (by repeat (first|(with_reducible first|exact HB.out|apply below_alloc|apply pw_below_drewN|apply below_drew1)|exact HB.out))));have n5_:=Aside0.mk (below_step (by repeat (first|(with_reducible first|exact HB.out|apply below_alloc|apply pw_below_drewN|apply below_drew1)|exact HB.out)) hb);clear HO0;clear HO157;clear HO160;clear HO164;clear HB;have HO0:=n0_;have HO157:=n1_;have HO160:=n2_;have HO164:=n3_;have HO167:=n4_;have HB:=n5_;clear n0_ n1_ n2_ n3_ n4_ n5_;clear hb ho16;obtain ⟨Ao17,co17,eo17⟩:=Kd.N_slice HO167.out;subst eo17)|((with_reducible refine gate_callee (f:=83) rfl ?_);refine goesL_ (some 19) rfl rfl Tryd.func83 (by kernel_rfl) rfl #[.slice Ao17 y165.length co17] rfl (by (try simp only [List.map_toArray,List.map_cons,List.map_nil]);first|done|rfl|(simp only [List.length_drop,List.length_take];rfl)) ?_;(with_reducible refine (crc_Sum.calls _ _ y165 t168 _ ?side3 ?side1 ?side2 A6.out).mono ?_);(case side1 => repeat (first|exact (Kd.N_reads' HO167.out).2.2|(with_reducible refine Kd.C_alloc ?_ _)|(with_reducible refine Kd.C_drewN ?_ _)|(with_reducible refine Kd.C_drew ?_)));(case side2 => exact (Kd.N_reads' HO167.out).2.1);(case side3 => first|exact HGCr.out|exact GlobCr.below HGCr.out (by repeat (first|(with_reducible first|exact HB.out|apply below_alloc|apply pw_below_drewN|apply below_drew1)|exact HB.out))|exact GlobCr.drawn HGCr.out (by repeat (first|exact Drawn0.refl _|apply Drawn0.step)));rintro e w' ⟨rfl,⟨nd,rfl⟩⟩;refine ⟨_,rfl,?_⟩)|((with_reducible refine gate_callee (f:=81) rfl ?_);refine goesL_ (some 20) rfl rfl Tryd.func81 (by kernel_rfl) rfl #[.int .u32 t168] rfl (by (try simp only [List.map_toArray,List.map_cons,List.map_nil]);first|done|rfl|(simp only [List.length_drop,List.length_take];rfl)) ?_;(with_reducible refine (crc_four.calls t168 t169 _ A7.out).mono ?_);rintro e w18 ⟨v170,rfl,ho0,hb⟩;refine ⟨_,rfl,?_⟩;have n0_:=Aside0.mk (Kd.V_elder' (by (with_reducible repeat (first|apply Kd.V_alloc|apply Kd.V_drewN|apply Kd.V_drew));exact HO0.out) (Kd.R_base ho0) hb);have n1_:=Aside0.mk (Kd.R_elder' (by (with_reducible repeat (first|apply Kd.R_alloc|apply Kd.R_drewN|apply Kd.R_drew));exact HO157.out) (Kd.R_base ho0) hb);have n2_:=Aside0.mk (Kd.N_elder' (by (with_reducible repeat (first|apply Kd.N_alloc|apply Kd.N_drewN|apply Kd.N_drew));exact HO160.out) (Kd.R_base ho0) hb);have n3_:=Aside0.mk (Kd.R_elder' (by (with_reducible repeat (first|apply Kd.R_alloc|apply Kd.R_drewN|apply Kd.R_drew));exact HO164.out) (Kd.R_base ho0) hb);have n4_:=Aside0.mk (Kd.N_elder' (by (with_reducible repeat (first|apply Kd.N_alloc|apply Kd.N_drewN|apply Kd.N_drew));exact HO167.out) (Kd.R_base ho0) hb);have n5_:=Aside0.mk (Kd.R_lower (Kd.R_new' (Kd.R_new' (Kd.R_newM (M:=fun k_ => (w.heap.size ≤ k_)) ho0 (below_size (by repeat (first|(with_reducible first|exact HB.out|apply below_alloc|apply pw_below_drewN|apply below_drew1)|exact HB.out))) (fun k_ h_ => h_)) (Kd.R_lt (by (with_reducible repeat (first|apply Kd.R_alloc|apply Kd.R_drewN|apply Kd.R_drew));exact HO157.out))) (Kd.R_lt (by (with_reducible repeat (first|apply Kd.R_alloc|apply Kd.R_drewN|apply Kd.R_drew));exact HO164.out))) (below_size (by repeat (first|(with_reducible first|exact HB.out|apply below_alloc|apply pw_below_drewN|apply below_drew1)|exact HB.out))));have n6_:=Aside0.mk (below_step (by repeat (first|(with_reducible first|exact HB.out|apply below_alloc|apply pw_below_drewN|apply below_drew1)|exact HB.out)) hb);clear HO0;clear HO157;clear HO160;clear HO164;clear HO167;clear HB;have HO0:=n0_;have HO157:=n1_;have HO160:=n2_;have HO164:=n3_;have HO167:=n4_;have HO171:=n5_;have HB:=n6_;clear n0_ n1_ n2_ n3_ n4_ n5_ n6_;(try clear hb);(try clear hb2);(try clear hk);(try clear hi);(try clear ho0);obtain ⟨Ao19,co19,eo19⟩:=Kd.R_slice HO164.out;subst eo19;obtain ⟨Ao20,co20,eo20⟩:=Kd.R_slice HO171.out;subst eo20)|((with_reducible refine gate_dst (N:=22) rfl ?_);refine Kd.N_lit (Kd.slice 5 (Kd.int .u8)) _ 49 ?hg (N':=22) ?hd (xs:=([t155,t162,t169,l0] : List (List Int))) (inner:=[.slice Ao10 t155.length co10,.slice Ao19 t162.length co19,.slice Ao20 t169.length co20,.slice A0 l0.length c0]) (ok:=(fun k_ => (P0_ k_ ∨ w.heap.size ≤ k_) ∧ some k_ ≠ (.slice Ao13 y158.length co13 : Value).ownBlock ∧ some k_ ≠ (.slice Ao17 y165.length co17 : Value).ownBlock)) (okp:=(fun k_ => (P0_ k_ ∨ w.heap.size ≤ k_) ∧ some k_ ≠ (.slice Ao13 y158.length co13 : Value).ownBlock ∧ some k_ ≠ (.slice Ao17 y165.length co17 : Value).ownBlock)) ?hr ?hp (fun _ hk => hk) ((show ∀ k_,w18.heap.size ≤ k_ → (fun k_ => (P0_ k_ ∨ w.heap.size ≤ k_) ∧ some k_ ≠ (.slice Ao13 y158.length co13 : Value).ownBlock ∧ some k_ ≠ (.slice Ao17 y165.length co17 : Value).ownBlock) k_ from fun k_ hk => ⟨(.inr (Nat.le_trans (below_size (by repeat (first|(with_reducible first|exact HB.out|apply below_alloc|apply pw_below_drewN|apply below_drew1)|exact HB.out))) hk)),Kd.fresh' (Kd.N_lt (by (with_reducible repeat (first|apply Kd.N_alloc|apply Kd.N_drewN|apply Kd.N_drew));exact HO160.out)) k_ hk,Kd.fresh' (Kd.N_lt (by (with_reducible repeat (first|apply Kd.N_alloc|apply Kd.N_drewN|apply Kd.N_drew));exact HO167.out)) k_ hk⟩) _ (Nat.le_refl _)) (Below.refl _ _) (Nat.le_refl _) (by simp) ?_;(case hd => rfl);(case hg => rfl);(case hr => first|(go_simp;done)|(go_simp;rfl));(case hp => exact (Reps.one (show Kd.FK (Kd.slice 5 (Kd.int .u8)) _ _ t155 [.slice Ao10 t155.length co10] from (Kd.FK_slice_mk (Kd.R_reads' (Kd.R_mono (ok':=(fun k_ => (P0_ k_ ∨ w.heap.size ≤ k_) ∧ some k_ ≠ (.slice Ao13 y158.length co13 : Value).ownBlock ∧ some k_ ≠ (.slice Ao17 y165.length co17 : Value).ownBlock)) (Kd.R_apart' (Kd.R_apart' (HO157.out) (Kd.N_typed HO160.out) (by decide)) (Kd.N_typed HO167.out) (by decide)) (fun k_ hk => ⟨(.inr (hk.1.1.1.1.1)),⟨hk.1.2,hk.2⟩⟩))).2.1 (Kd.R_F (Kd.R_mono (ok':=(fun k_ => (P0_ k_ ∨ w.heap.size ≤ k_) ∧ some k_ ≠ (.slice Ao13 y158.length co13 : Value).ownBlock ∧ some k_ ≠ (.slice Ao17 y165.length co17 : Value).ownBlock)) (Kd.R_apart' (Kd.R_apart' (HO157.out) (Kd.N_typed HO160.out) (by decide)) (Kd.N_typed HO167.out) (by decide)) (fun k_ hk => ⟨(.inr (hk.1.1.1.1.1)),⟨hk.1.2,hk.2⟩⟩))))) (Reps.one (show Kd.FK (Kd.slice 5 (Kd.int .u8)) _ _ t162 [.slice Ao19 t162.length co19] from (Kd.FK_slice_mk (Kd.R_reads' (Kd.R_mono (ok':=(fun k_ => (P0_ k_ ∨ w.heap.size ≤ k_) ∧ some k_ ≠ (.slice Ao13 y158.length co13 : Value).ownBlock ∧ some k_ ≠ (.slice Ao17 y165.length co17 : Value).ownBlock)) (Kd.R_apart' (Kd.R_apart' (HO164.out) (Kd.N_typed HO160.out) (by decide)) (Kd.N_typed HO167.out) (by decide)) (fun k_ hk => ⟨(.inr (hk.1.1.1.1.1)),⟨hk.1.2,hk.2⟩⟩))).2.1 (Kd.R_F (Kd.R_mono (ok':=(fun k_ => (P0_ k_ ∨ w.heap.size ≤ k_) ∧ some k_ ≠ (.slice Ao13 y158.length co13 : Value).ownBlock ∧ some k_ ≠ (.slice Ao17 y165.length co17 : Value).ownBlock)) (Kd.R_apart' (Kd.R_apart' (HO164.out) (Kd.N_typed HO160.out) (by decide)) (Kd.N_typed HO167.out) (by decide)) (fun k_ hk => ⟨(.inr (hk.1.1.1.1.1)),⟨hk.1.2,hk.2⟩⟩))))) (Reps.one (show Kd.FK (Kd.slice 5 (Kd.int .u8)) _ _ t169 [.slice Ao20 t169.length co20] from (Kd.FK_slice_mk (Kd.R_reads' (Kd.R_mono (ok':=(fun k_ => (P0_ k_ ∨ w.heap.size ≤ k_) ∧ some k_ ≠ (.slice Ao13 y158.length co13 : Value).ownBlock ∧ some k_ ≠ (.slice Ao17 y165.length co17 : Value).ownBlock)) (Kd.R_apart' (Kd.R_apart' (HO171.out) (Kd.N_typed HO160.out) (by decide)) (Kd.N_typed HO167.out) (by decide)) (fun k_ hk => ⟨(.inr (hk.1.1.1.1.1)),⟨hk.1.2,hk.2⟩⟩))).2.1 (Kd.R_F (Kd.R_mono (ok':=(fun k_ => (P0_ k_ ∨ w.heap.size ≤ k_) ∧ some k_ ≠ (.slice Ao13 y158.length co13 : Value).ownBlock ∧ some k_ ≠ (.slice Ao17 y165.length co17 : Value).ownBlock)) (Kd.R_apart' (Kd.R_apart' (HO171.out) (Kd.N_typed HO160.out) (by decide)) (Kd.N_typed HO167.out) (by decide)) (fun k_ hk => ⟨(.inr (hk.1.1.1.1.1)),⟨hk.1.2,hk.2⟩⟩))))) (Reps.one (show Kd.FK (Kd.slice 5 (Kd.int .u8)) _ _ l0 [.slice A0 l0.length c0] from (Kd.FK_slice_mk (Kd.V_reads' (Kd.V_mono (ok':=(fun k_ => (P0_ k_ ∨ w.heap.size ≤ k_) ∧ some k_ ≠ (.slice Ao13 y158.length co13 : Value).ownBlock ∧ some k_ ≠ (.slice Ao17 y165.length co17 : Value).ownBlock)) (HO0.out) (fun k_ hk => ⟨hk.1.1.1.1.1,⟨hk.1.1.1.2,hk.1.2⟩⟩))).2.1 (Kd.V_F (Kd.V_mono (ok':=(fun k_ => (P0_ k_ ∨ w.heap.size ≤ k_) ∧ some k_ ≠ (.slice Ao13 y158.length co13 : Value).ownBlock ∧ some k_ ≠ (.slice Ao17 y165.length co17 : Value).ownBlock)) (HO0.out) (fun k_ hk => ⟨hk.1.1.1.1.1,⟨hk.1.1.1.2,hk.1.2⟩⟩))))) (Reps.none _ _))))));intro v173 w21 ho22 hb hg_ hnew_;clear hg_ hnew_;(first|rw [← Ny172.out] at ho22|(simp only [Int.reduceToNat] at ho22;rw [← Ny172.out] at ho22));have n0_:=Aside0.mk (Kd.V_elder' (by (with_reducible repeat (first|apply Kd.V_alloc|apply Kd.V_drewN|apply Kd.V_drew));exact HO0.out) (Kd.N_base ho22) hb);have n1_:=Aside0.mk (Kd.R_below (by (with_reducible repeat (first|apply Kd.R_alloc|apply Kd.R_drewN|apply Kd.R_drew));exact HO157.out) hb);have n2_:=Aside0.mk (Kd.N_elder' (by (with_reducible repeat (first|apply Kd.N_alloc|apply Kd.N_drewN|apply Kd.N_drew));exact HO160.out) (Kd.N_base ho22) hb);have n3_:=Aside0.mk (Kd.R_below (by (with_reducible repeat (first|apply Kd.R_alloc|apply Kd.R_drewN|apply Kd.R_drew));exact HO164.out) hb);have n4_:=Aside0.mk (Kd.N_elder' (by (with_reducible repeat (first|apply Kd.N_alloc|apply Kd.N_drewN|apply Kd.N_drew));exact HO167.out) (Kd.N_base ho22) hb);have n5_:=Aside0.mk (Kd.R_below (by (with_reducible repeat (first|apply Kd.R_alloc|apply Kd.R_drewN|apply Kd.R_drew));exact HO171.out) hb);have n6_:=Aside0.mk (Kd.N_lower ho22 (below_size (by repeat (first|(with_reducible first|exact HB.out|apply below_alloc|apply pw_below_drewN|apply below_drew1)|exact HB.out))));have n7_:=Aside0.mk (below_step (by repeat (first|(with_reducible first|exact HB.out|apply below_alloc|apply pw_below_drewN|apply below_drew1)|exact HB.out)) hb);clear HO0;clear HO157;clear HO160;clear HO164;clear HO167;clear HO171;clear HB;have HO0:=n0_;have HO157:=n1_;have HO160:=n2_;have HO164:=n3_;have HO167:=n4_;have HO171:=n5_;have HO174:=n6_;have HB:=n7_;clear n0_ n1_ n2_ n3_ n4_ n5_ n6_ n7_;clear hb ho22;obtain ⟨Ao23,co23,eo23⟩:=Kd.N_slice HO174.out;subst eo23)|((with_reducible refine gate_callee (f:=82) rfl ?_);refine goesL_ (some 23) rfl rfl Tryd.func82 (by kernel_rfl) rfl #[.slice Ao23 y172.length co23] rfl (by (try simp only [List.map_toArray,List.map_cons,List.map_nil]);first|done|rfl|(simp only [List.length_drop,List.length_take];rfl)) ?_;(with_reducible refine (slices_Concat_byte_byte.calls _ _ y172 t175 _ ?side1 ?side2 A8.out).mono ?_);(case side1 => repeat (first|exact (Kd.N_reads' HO174.out).2.2|(with_reducible refine Kd.C_alloc ?_ _)|(with_reducible refine Kd.C_drewN ?_ _)|(with_reducible refine Kd.C_drew ?_)));(case side2 => exact (Kd.N_reads' HO174.out).2.1);rintro e w24 ⟨v176,rfl,ho0,hb⟩;refine ⟨_,rfl,?_⟩;have n0_:=Aside0.mk (Kd.V_elder' (by (with_reducible repeat (first|apply Kd.V_alloc|apply Kd.V_drewN|apply Kd.V_drew));exact HO0.out) (Kd.R_base ho0) hb);have n1_:=Aside0.mk (Kd.R_elder' (by (with_reducible repeat (first|apply Kd.R_alloc|apply Kd.R_drewN|apply Kd.R_drew));exact HO157.out) (Kd.R_base ho0) hb);have n2_:=Aside0.mk (Kd.N_elder' (by (with_reducible repeat (first|apply Kd.N_alloc|apply Kd.N_drewN|apply Kd.N_drew));exact HO160.out) (Kd.R_base ho0) hb);have n3_:=Aside0.mk (Kd.R_elder' (by (with_reducible repeat (first|apply Kd.R_alloc|apply Kd.R_drewN|apply Kd.R_drew));exact HO164.out) (Kd.R_base ho0) hb);have n4_:=Aside0.mk (Kd.N_elder' (by (with_reducible repeat (first|apply Kd.N_alloc|apply Kd.N_drewN|apply Kd.N_drew));exact HO167.out) (Kd.R_base ho0) hb);have n5_:=Aside0.mk (Kd.R_elder' (by (with_reducible repeat (first|apply Kd.R_alloc|apply Kd.R_drewN|apply Kd.R_drew));exact HO171.out) (Kd.R_base ho0) hb);have n6_:=Aside0.mk (Kd.N_elder' (by (with_reducible repeat (first|apply Kd.N_alloc|apply Kd.N_drewN|apply Kd.N_drew));exact HO174.out) (Kd.R_base ho0) hb);have n7_:=Aside0.mk (Kd.R_lower (Kd.R_new' (Kd.R_new' (Kd.R_new' (Kd.R_newM (M:=fun k_ => (w.heap.size ≤ k_)) ho0 (below_size (by repeat (first|(with_reducible first|exact HB.out|apply below_alloc|apply pw_below_drewN|apply below_drew1)|exact HB.out))) (fun k_ h_ => h_)) (Kd.R_lt (by (with_reducible repeat (first|apply Kd.R_alloc|apply Kd.R_drewN|apply Kd.R_drew));exact HO157.out))) (Kd.R_lt (by (with_reducible repeat (first|apply Kd.R_alloc|apply Kd.R_drewN|apply Kd.R_drew));exact HO164.out))) (Kd.R_lt (by (with_reducible repeat (first|apply Kd.R_alloc|apply Kd.R_drewN|apply Kd.R_drew));exact HO171.out))) (below_size (by repeat (first|(with_reducible first|exact HB.out|apply below_alloc|apply pw_below_drewN|apply below_drew1)|exact HB.out))));have n8_:=Aside0.mk (below_step (by repeat (first|(with_reducible first|exact HB.out|apply below_alloc|apply pw_below_drewN|apply below_drew1)|exact HB.out)) hb);clear HO0;clear HO157;clear HO160;clear HO164;clear HO167;clear HO171;clear HO174;clear HB;have HO0:=n0_;have HO157:=n1_;have HO160:=n2_;have HO164:=n3_;have HO167:=n4_;have HO171:=n5_;have HO174:=n6_;have HO177:=n7_;have HB:=n8_;clear n0_ n1_ n2_ n3_ n4_ n5_ n6_ n7_ n8_;(try clear hb);(try clear hb2);(try clear hk);(try clear hi);(try clear ho0)))
  go_ret2
  exact ⟨_,by first|rfl|(simp [errW_none,errW_some] <;> rfl)|(simp [*,errW_none,errW_some] <;> rfl),by (with_reducible repeat (first|apply Kd.R_alloc|apply Kd.R_drewN|apply Kd.R_drew));exact Kd.R_mono HO177.out (fun _ hk => hk.1.1.1.1),by repeat (first|(with_reducible first|exact HB.out|apply below_alloc|apply pw_below_drewN|apply below_drew1)|exact HB.out)⟩
end Go.Proofs.YtedfgkjimnjdpaaDoor.X
namespace Go.Proofs.YtedfgkjimnjdpaaDoor.X
open Go.RowKit Go.Shelf Go.Proofs.YtedfgkjimnjdpaaDoorW.PrintWords Go.Proofs.YtedfgkjimnjdpaaDoorW.PrintMore
attribute [local go_sem] min2_int min_two
attribute [local go_sem] Oper.semAt_some
set_option linter.unusedVariables false
set_option linter.unusedSimpArgs false
def pieceV (M o len i : Nat) : Value:=.slice (some ⟨M,o + 3 * i,none⟩) (min 3 (len - 3 * i)) (min 3 (len - 3 * i))
def pieceN (len : Nat) : Nat:=(len + 2) / 3
theorem add_at3 (M o k : Nat) : (⟨M,o,none⟩ : Addr).add k = ⟨M,o + k,none⟩:=by
 unfold Addr.add
 split
 ·rename_i h
  rw [h,Nat.add_zero]
 ·rfl
set_option maxHeartbeats 4000000 in
set_option maxRecDepth 100000 in
theorem pieces_in (F : Fence) (n : Nat) (hF : F.fn 115) (hro : F.round = none) (hn : 1 ≤ n) (l Bb Bn M o len cap : Nat) (hlc : len ≤ cap) (hmx : len ≤ 1000000000) (J : Nat → World → Prop)
  (hJb : ∀ i W v,J i W → J i (W.setCell ⟨Bb,0,none⟩ v))
  (hY : ∀ i W,J i W → i < pieceN len → YieldAt F (n - 1) Tryd.prog l #[pieceV M o len i] W fun e W' => e = .returned (.bool true) ∧ J (i + 1) W' ∧ W'.heap[Bb]? = W.heap[Bb]? ∧ W'.heap[Bn]? = W.heap[Bn]?)
  (hbn : Bb ≠ Bn) (W : World) (A0 : Option Addr) (hA0 : 0 < len → A0 = some ⟨M,o,none⟩) (hb : W.heap[Bb]? = some (.cells #[.slice A0 len cap] 49 (0,0))) (hc : W.heap[Bn]? = some (.cells #[.int .i64 3] 3 (0,0))) (h0 : J 0 W) :
  CallsIn F n Tryd.prog 115 #[.func (.yield l) #[] #[],.pointer (some ⟨Bb,0,none⟩),.pointer (some ⟨Bn,0,none⟩)] W fun e W' => (∃ v,e = .returned v) ∧ J (pieceN len) W':=by
 refine callsIn_of_wp Tryd.func115 rfl hF ?_ hro
 simp only [Tryd.ntmps115,List.size_toArray,List.length_cons,List.length_nil,Nat.reduceAdd,Nat.reduceSub,Array.replicate_succ,Array.replicate_zero,List.push_toArray,List.append_toArray,List.nil_append,List.cons_append]
 gi_wp2
 gi_loopw [] (fun wr => ∃ (i : Nat) (A' : Option Addr) (c' : Nat),i ≤ pieceN len ∧ J i wr ∧ wr.heap[Bb]? = some (.cells #[.slice A' (len - 3 * i) c'] 49 (0,0)) ∧ wr.heap[Bn]? = some (.cells #[.int .i64 3] 3 (0,0)) ∧ len - 3 * i ≤ c' ∧ (i < pieceN len → A' = some ⟨M,o + 3 * i,none⟩))
  (fun wr => match wr.cell? ⟨Bb,0,none⟩ with|some (.slice _ n _) => n|_ => 0)
 case atStart =>
  refine ⟨0,A0,cap,Nat.zero_le _,h0,hb,hc,hlc,fun h => ?_⟩
  unfold pieceN at h
  exact hA0 (by omega)
 case round =>
  obtain ⟨i,A',c',hi,hJ,hb1,hc1,hlc1,hA⟩:=hrel
  have cb : wr.cell? ⟨Bb,0,none⟩ = some (.slice A' (len - 3 * i) c'):=by rw [blk_cell hb1];rfl
  have cn : wr.cell? ⟨Bn,0,none⟩ = some (.int .i64 3):=by rw [blk_cell hc1];rfl
  by_cases hlt : i < pieceN len
  ·have hd : decide ((0 : Int) < ((len - 3 * i : Nat) : Int)) = true:=by unfold pieceN at hlt;simp;omega
   obtain rfl:=hA hlt
   obtain ⟨fn,tmps,assign,body,hy,hR⟩:=hY i wr hJ hlt
   unfold pieceV at hy
   obtain ⟨K,hK⟩ : ∃ K,min 3 (len - 3 * i) = K:=⟨_,rfl⟩
   rw [hK] at hy
   obtain ⟨R,hRe⟩ : ∃ R,len - 3 * i = R:=⟨_,rfl⟩
   rw [hRe] at hK hlc1 cb hb1 hd
   have hdn : decide (0 < R) = true:=by unfold pieceN at hlt;simp;omega
   have hK0 : 0 < K ∧ K ≤ 3 ∧ K ≤ R:=by unfold pieceN at hlt;omega
   have hRb : R ≤ 1000000000:=by omega
   have hkI : (K : Int) ≤ (c' : Int):=by omega
   have hmin : (if (R : Int) < 3 then (R : Int) else 3) = (K : Int):=by split <;> omega
   have hs1 : ∀ W,(Instr.sliceAt 49 (.slice (some ⟨M,o + 3 * i,none⟩) R c') none (some (.int .i64 (K : Int))) (some (.int .i64 (K : Int)))).run Tryd.prog W = .ok (.slice (some ⟨M,o + 3 * i,none⟩) K K) W:=by
    intro W
    rw [run_sliceAt_slice (P:=Tryd.prog) W 49 _ _ _ _ Tryd.underlying49,run_slice_hm (P:=Tryd.prog) W 49 (some ⟨M,o + 3 * i,none⟩) R c' Tryd.underlying49 .i64 .i64 (K : Int) (K : Int) (by omega) (by omega) hkI]
    rw [show ∀ W,(sizeOf (Tryd.prog.elem 49)).run Tryd.prog W = .ok 1 W from fun W => by kernel_rfl]
    simp only [Result.andThen,sliced,Int.toNat_natCast,Nat.zero_mul,Nat.sub_zero,Option.map_some,add_at3,Nat.add_zero]
    split <;> rfl
   obtain ⟨A2,hA2⟩ : ∃ A2 : Option Addr,A2 = if c' = K then some ⟨M,o + 3 * i,none⟩ else some ⟨M,o + 3 * i + K,none⟩:=⟨_,rfl⟩
   have hs2 : ∀ W,(Instr.sliceAt 49 (.slice (some ⟨M,o + 3 * i,none⟩) R c') (some (.int .i64 (K : Int))) none none).run Tryd.prog W = .ok (.slice A2 (R - K) (c' - K)) W:=by
    intro W
    rw [run_sliceAt_slice (P:=Tryd.prog) W 49 _ _ _ _ Tryd.underlying49,run_slice_l (P:=Tryd.prog) W 49 (some ⟨M,o + 3 * i,none⟩) R c' Tryd.underlying49 .i64 (K : Int) (by omega) (by omega)]
    rw [show ∀ W,(sizeOf (Tryd.prog.elem 49)).run Tryd.prog W = .ok 1 W from fun W => by kernel_rfl]
    simp only [Result.andThen,sliced,Int.toNat_natCast,Nat.mul_one,Option.map_some,add_at3]
    rw [hA2]
   have HA2:=Lib.hid hA2
   have HB1:=Lib.hid hb1
   have HC1:=Lib.hid hc1
   have HK:=Lib.hid hK
   have HRe:=Lib.hid hRe
   clear hA2 hb1 hc1 hK hRe hA hb hc cb cn hK0
   have cb : wr.cell? ⟨Bb,0,none⟩ = some (.slice (some ⟨M,o + 3 * i,none⟩) R c'):=by rw [blk_cell HB1.out];rfl
   have cn : wr.cell? ⟨Bn,0,none⟩ = some (.int .i64 3):=by rw [blk_cell HC1.out];rfl
   gi_wp2
   refine hR.mono ?_
   rintro e W1 ⟨rfl,hJ1,hB1,hC1⟩
   have hb2 : W1.heap[Bb]? = some (.cells #[.slice (some ⟨M,o + 3 * i,none⟩) R c'] 49 (0,0)):=hB1.trans HB1.out
   have hc2 : W1.heap[Bn]? = some (.cells #[.int .i64 3] 3 (0,0)):=hC1.trans HC1.out
   have cb1 : W1.cell? ⟨Bb,0,none⟩ = some (.slice (some ⟨M,o + 3 * i,none⟩) R c'):=by rw [blk_cell hb2];rfl
   have fb1 : W1.frozen? ⟨Bb,0,none⟩ = false:=blk_frozen hb2 _
   have hb3 : (W1.setCell ⟨Bb,0,none⟩ (.slice A2 (R - K) (c' - K))).heap[Bb]? = some (.cells #[.slice A2 (R - K) (c' - K)] 49 (0,0)):=blk_set (cs:=#[_]) hb2 0 _
   have hc3 : (W1.setCell ⟨Bb,0,none⟩ (.slice A2 (R - K) (c' - K))).heap[Bn]? = some (.cells #[.int .i64 3] 3 (0,0)):=(Below.heap_setCell _ _ _ Bn (fun e => hbn e.symm)).trans hc2
   have hJ3:=hJb (i + 1) W1 (.slice A2 (R - K) (c' - K)) hJ1
   have H1:=Lib.hid hb3
   have H2:=Lib.hid hc3
   have H3:=Lib.hid hJ3
   clear hb3 hc3 hJ3 hB1 hC1 hb2 hc2 hJ1 hJ cb cn
   gi_wp2
   go_roundw
   case rel =>
    have hN : pieceN len = (len + 2) / 3:=rfl
    have hKq:=HK.out
    have hRq:=HRe.out
    refine ⟨i + 1,A2,c' - K,hlt,H3.out,?_,H2.out,?_,fun hl => ?_⟩
    ·rw [show len - 3 * (i + 1) = R - K by omega]
     exact H1.out
    ·omega
    ·rw [HA2.out,if_neg (by omega),show o + 3 * i + K = o + 3 * (i + 1) by omega]
   case measure =>
    have hcl : (W1.setCell ⟨Bb,0,none⟩ (.slice A2 (R - K) (c' - K))).cell? ⟨Bb,0,none⟩ = some (.slice A2 (R - K) (c' - K)):=by rw [blk_cell H1.out];rfl
    have hcw : wr.cell? ⟨Bb,0,none⟩ = some (.slice (some ⟨M,o + 3 * i,none⟩) R c'):=by rw [blk_cell HB1.out];rfl
    rw [hcl,hcw]
    have hKq:=HK.out
    have hRq:=HRe.out
    have hN : pieceN len = (len + 2) / 3:=rfl
    show R - K < R
    omega
  ·have hR0 : len - 3 * i = 0:=by unfold pieceN at hlt hi;omega
   rw [hR0] at cb
   have hie : i = pieceN len:=by omega
   have HJ:=Lib.hid hJ
   have HI:=Lib.hid hie
   clear hJ hie hb1 hc1 hlt hi hA hR0
   gi_wp2
   go_end0
   exact ⟨⟨_,rfl⟩,by rw [← HI.out];exact HJ.out⟩
end Go.Proofs.YtedfgkjimnjdpaaDoor.X
namespace Go.Proofs.YtedfgkjimnjdpaaDoor.X
open Go.RowKit Go.Shelf Go.Proofs.YtedfgkjimnjdpaaDoorW.PrintWords Go.Proofs.YtedfgkjimnjdpaaDoorW.PrintMore
set_option linter.unusedVariables false
set_option linter.unusedSimpArgs false
set_option maxHeartbeats 2000000 in
theorem pieces_calls (A0 : Option Addr) (len cap : Nat) (w : World) :
  Calls Tryd.prog 84 #[.slice A0 len cap,.int .i64 3] w fun e w' => e = .returned (.func (.func 115) #[] #[.pointer (some ⟨w.heap.size,0,none⟩),.pointer (some ⟨w.heap.size + 1,0,none⟩)]) ∧ w' = (w.alloc (.cells #[.slice A0 len cap] 49 (0,0))).alloc (.cells #[.int .i64 3] 3 (0,0)):=by
 go_enter Tryd.func84,Tryd.ntmps84
 go_wp2
 go_ret
 exact ⟨rfl,rfl⟩
def roundEnd (Bb Bn : Nat) (I : Nat → World → Prop) (i : Nat) (W : World) : Exit → Act → World → Prop
 | .normal,_,W' => KeepsOthers W W' ∧ W'.heap[Bb]? = W.heap[Bb]? ∧ W'.heap[Bn]? = W.heap[Bn]? ∧ I (i + 1) W'
 | _,_,_ => False
theorem range_pieces {g : Operand} {ps : Array Tmp} {assign body : Code} {Q : Exit → Act → World → Prop} {a : Act} {w : World} {n : Nat} (h3 : 3 ≤ n) (hps : ps.size = 1)
  (Bb Bn M o len cap : Nat) (hlc : len ≤ cap) (hmx : len ≤ 1000000000) (hbn : Bb ≠ Bn) (hg : a.eval g = .func (.func 115) #[] #[.pointer (some ⟨Bb,0,none⟩),.pointer (some ⟨Bn,0,none⟩)])
  (A0 : Option Addr) (hA0 : 0 < len → A0 = some ⟨M,o,none⟩) (hb : w.heap[Bb]? = some (.cells #[.slice A0 len cap] 49 (0,0))) (hc : w.heap[Bn]? = some (.cells #[.int .i64 3] 3 (0,0)))
  (I : Nat → World → Prop) (hI : OwnFrom w.heap.size I) (hIb : ∀ i W v,I i W → I i (W.setCell ⟨Bb,0,none⟩ v)) (h0 : I 0 w) (a₁ : Nat → Act)
  (hassign : ∀ (l i : Nat) (W : World) (K : Act → World → Prop),K (a₁ i) W →
   assign.wpIn (Fence.wide.inRound l) (n - 1 - 1) Tryd.prog (Exit.then K (fun _ _ _ => False)) { tmps:=(ps.zip #[pieceV M o len i]).foldl (fun t (p,v) => t.setIfInBounds p v) a.tmps,defers:=[] } W)
  (hbody : ∀ (l i : Nat) (W : World),I i W → i < pieceN len → body.wpIn (Fence.wide.inRound l) (n - 1 - 1) Tryd.prog (roundEnd Bb Bn I i W) (a₁ i) W)
  (hdone : ∀ (W : World),I (pieceN len) W → W.heap[w.heap.size]? = some (.deferred (some [])) → Q .normal { a with defers:={ target:=.collected w.heap.size,args:=#[] } :: a.defers } W) :
  (Code.rangeFunc g ps assign body).wpIn Fence.wide n Tryd.prog Q a w:=by
 have hBb : Bb < w.heap.size:=(Array.getElem?_eq_some_iff.mp hb).1
 have hBn : Bn < w.heap.size:=(Array.getElem?_eq_some_iff.mp hc).1
 have eg : ∀ args w,(callFunc 115 args).run Tryd.prog w = .ok (.enter 115 args) w:=enters_of Tryd.func115 (by kernel_rfl) rfl
 refine wpIn_rangeFunc fun fn hfn => ?_
 obtain ⟨rec,hrec⟩ : ∃ rec : LoopState → Loop,rec = fun st => { state:=st,pending:=none,fn,tmps:=a.tmps,params:=ps,assign,body,defers:=w.heap.size }:=⟨_,rfl⟩
 obtain ⟨W1,hW1⟩ : ∃ W1,(w.alloc (.deferred (some []))).alloc (.loop (rec .ready)) = W1:=⟨_,rfl⟩
 have hsz : (w.alloc (.deferred (some []))).heap.size = w.heap.size + 1:=World.size_alloc _ _
 have hL1 : W1.heap[w.heap.size + 1]? = some (.loop (rec .ready)):=by
  rw [← hW1,← hsz];exact heap_alloc_new _ _
 have hD1 : W1.heap[w.heap.size]? = some (.deferred (some [])):=by
  rw [← hW1];exact (Below.heap_alloc _ _ _ (by omega)).trans (heap_alloc_new w _)
 have hI1 : I 0 W1:=by rw [← hW1];exact hI.alloc _ (hI.alloc _ h0)
 have hbel : Below w.heap.size w W1:=by rw [← hW1];exact ((Below.refl _ w).alloc (Nat.le_refl _) _).alloc (by omega) _
 refine ⟨w.heap.size + 1,[{ target:=.collected w.heap.size,args:=#[] }],W1,{ target:=.fn (.func 115) #[.pointer (some ⟨Bb,0,none⟩),.pointer (some ⟨Bn,0,none⟩)],args:=#[.func (.yield (w.heap.size + 1)) #[] #[]] },W1,115,
  #[.func (.yield (w.heap.size + 1)) #[] #[],.pointer (some ⟨Bb,0,none⟩),.pointer (some ⟨Bn,0,none⟩)],W1,?_,?_,fun _ _ => trivial,?_,fun _ => by omega,?_⟩
 ·rw [← hW1,hrec];exact run_enterLoop_outer _ _ _ _ _
 ·simp only [resolve,hg]
  simp [go_sem]
 ·simp [invoke,go_sem,eg]
 ·refine (pieces_in Fence.wide (n - 1) trivial rfl (by omega) (w.heap.size + 1) Bb Bn M o len cap hlc hmx
   (fun i W => I i W ∧ W.heap[w.heap.size + 1]? = some (.loop (rec .ready)) ∧ W.heap[w.heap.size]? = some (.deferred (some [])))
   (fun i W v h => ⟨hIb i W v h.1,(Below.heap_setCell _ _ _ _ (by show _ ≠ Bb;omega)).trans h.2.1,(Below.heap_setCell _ _ _ _ (by show _ ≠ Bb;omega)).trans h.2.2⟩)
   ?_ hbn W1 A0 hA0 ((hbel.block _ hBb).trans hb) ((hbel.block _ hBn).trans hc) ⟨hI1,hL1,hD1⟩).mono ?_
  ·rintro i W ⟨hi,hl,hd⟩ hlt
   have hlz : w.heap.size + 1 < W.heap.size:=(Array.getElem?_eq_some_iff.1 hl).1
   have hy:=run_yield (P:=Tryd.prog) (args:=#[pieceV M o len i]) hl (by rw [hrec];exact hps.symm)
   rw [hrec] at hy
   refine ⟨fn,_,assign,body,hy,roundIn_of_wpIn hfn (hassign _ i W _ ⟨_,run_beginRound hl (by rw [hrec]),?_⟩)⟩
   have hl2 : (W.putObj (w.heap.size + 1) (.loop { rec .ready with state:=.busy })).heap[w.heap.size + 1]? = some (.loop { rec .ready with state:=.busy }):=World.putObj_heap_same hlz
   have hd2 : (W.putObj (w.heap.size + 1) (.loop { rec .ready with state:=.busy })).heap[w.heap.size]? = some (.deferred (some [])):=(World.putObj_heap_other (by omega)).trans hd
   refine wpIn_mono (hbody _ i _ (hI.putObj _ hi (by omega) hl rfl) hlt) ?_
   rintro e a3 W3 hp
   cases e with
   | normal =>
    obtain ⟨hk3,hB3,hC3,hi3⟩:=hp
    have hl3:=hk3.same _ _ hl2 rfl
    have hr:=run_endRound (P:=Tryd.prog) none hl3
    refine ⟨_,_,hr,rfl,⟨hI.putObj _ hi3 (by omega) hl3 rfl,?_,?_⟩,?_,?_⟩
    ·rw [World.putObj_heap_same (Array.getElem?_eq_some_iff.1 hl3).1,hrec]
     rfl
    ·exact (World.putObj_heap_other (by omega)).trans (hk3.same _ _ hd2 rfl)
    ·exact (World.putObj_heap_other (by omega)).trans (hB3.trans (World.putObj_heap_other (by omega)))
    ·exact (World.putObj_heap_other (by omega)).trans (hC3.trans (World.putObj_heap_other (by omega)))
   | ret => exact hp.elim
   | exit id => exact hp.elim
   | goto t => exact hp.elim
   | panic ch => exact hp.elim
   | outgrown => exact hp.elim
  ·rintro e W2 ⟨⟨v,rfl⟩,hi,hl,hd⟩
   have he:=run_endLoop (P:=Tryd.prog) hl (by rw [hrec];simp)
   have hpn : (rec .ready).pending = none:=by rw [hrec]
   rw [hpn] at he
   refine ⟨none,_,he,hdone _ (hI.putObj _ hi (by omega) hl rfl) ((World.putObj_heap_other (by omega)).trans hd)⟩
end Go.Proofs.YtedfgkjimnjdpaaDoor.X
