/-
  What the claim's law rests on, part 2 of 6: printed walks, externals, plain lemmas; conditions: none of its own.
-/
import Derived.ArgAppend
import Derived.Below
import Derived.BigQuiet
import Derived.Deep.AppendLies
import Derived.Deep.CutBlock
import Derived.Deep.DeepCutAuto
import Derived.Deep.Draws
import Derived.Deep.LoopGhost
import Derived.Deep.OwnRows
import Derived.Deep.QuietTactic
import Derived.Deep.RegionHeld3
import Derived.KernelRfl
import Derived.Laws.BitsLemmas
import Derived.Laws.BytesArg
import Derived.Laws.IdiomCopy
import Derived.Laws.MakeOwn
import Derived.Laws.OwnMore
import Derived.Laws.Rows
import Derived.Laws.Slices
import Derived.Lib.AppendStr
import Derived.Lib.Bytealg
import Derived.Lib.ConvBytes
import Derived.Lib.Hide
import Derived.Lib.ItoaLen
import Derived.Lib.ItoaNum
import Derived.Lib.SplitLaws
import Derived.Lib.Strings
import Derived.Maps.AppendAt
import Derived.OrdersHeld
import Derived.OwnWalk
import Derived.RowKit
import Derived.RowKit3
import Derived.Shelf.Bits.Mul64
import Derived.Shelf.LaysM
import Derived.Shelf.Small.Strs
import Derived.Shelf.Small.Utf8
import Derived.Shelf.Small.Wraps
import Derived.Shelf.Strings.AsciiSet
import Derived.Shelf.Strings.Builder1
import Derived.Shelf.Strings.Builder2
import Derived.Shelf.Strings.Builder2Cap
import Derived.Shelf.Strings.BuilderCap
import Derived.Shelf.Strings.BuilderF
import Derived.Shelf.Strings.BuilderK
import Derived.Shelf.Strings.Count
import Derived.Shelf.Strings.Explode
import Derived.Shelf.Strings.OnBuilder
import Derived.Shelf.Strings.Prefix
import Derived.Shelf.Strings.Repeat
import Derived.Shelf.Strings.RuneCount
import Derived.Shelf.Strings.Runes
import Derived.Shelf.Strings.Search1
import Derived.Shelf.Strings.Search2
import Derived.Shelf.Strings.Search3
import Derived.Shelf.Strings.Shaped
import Derived.Shelf.Strings.Split
import Derived.Shelf.Strings.SplitShaped
import Derived.Shelf.Strings.Trim
import Derived.Shelf.Unicode.Decode
import Derived.Shelf.Utf8.RuneCount
import Derived.StillTailTactics
import Derived.Tactics
import Derived.Test.YtedfgkjimnjdpaaDoorProg
import Derived.WalkKit
import Derived.WalkLawsBesides
import Derived.WalkSpells
import Derived.WideLaws
import Derived.Test.YtedfgkjimnjdpaaDoorTi1
namespace Go.Proofs.YtedfgkjimnjdpaaDoor.X
open Go.RowKit Go.Proofs.YtedfgkjimnjdpaaDoorW.PrintWords Go.Proofs.YtedfgkjimnjdpaaDoorW.PrintLast Go.Proofs.YtedfgkjimnjdpaaDoorW.PrintMore
attribute [local go_sem] max2_int min2_int max_two min_two max_three min_three max_four min_four
set_option linter.unusedVariables false
set_option linter.unusedSimpArgs false
def errW : Option Int → Value
 | none => .nilIface
 | some c => .iface 0 (.int .i64 c)
theorem errW_none : errW none = .nilIface:=rfl
theorem errW_some (c : Int) : errW (some c) = .iface 0 (.int .i64 c):=rfl
theorem info5 : (Tryd.prog.info? 5).map (fun i => (i.zero,i.size,i.bytes)) = some (some (.int .u8 0),1,1):=by kernel_rfl
theorem info107 : (Tryd.prog.info? 107).map (fun i => (i.zero,i.size,i.bytes)) = some (some (.int .u32 0),1,4):=by kernel_rfl
end Go.Proofs.YtedfgkjimnjdpaaDoor.X
namespace Go.Proofs.YtedfgkjimnjdpaaDoor.X
open Go.RowKit Go.Proofs.YtedfgkjimnjdpaaDoorW.PrintWords
set_option linter.unusedVariables false
set_option linter.unusedSimpArgs false
structure ItoaInv (u k v : Nat) (d : List Int) : Prop where
 len : d.length = 20
 le : k ≤ 20
 pos : 2 ≤ k
 rest : v = u / 10 ^ (20 - k)
 more : k = 20 ∨ v ≠ 0
 small : v < 10 ^ (k - 1)
 done : ∀ t,k ≤ t → t < 20 → d.getD t 0 = ((Lib.dg u (19 - t)).toNat : Int)
theorem ItoaInv.start {u : Nat} (h : u < 10 ^ 19) (d : List Int) (hd : d.length = 20) : ItoaInv u 20 u d :=
 ⟨hd,Nat.le_refl _,by omega,by simp,.inl rfl,h,fun t h1 h2 => by omega⟩
theorem itoa_digit (v : Nat) : ((UInt8.ofNat (48 + v % 10)).toNat : Int) = 48 + (v : Int) % 10:=by
 rw [UInt8.toNat_ofNat']
 omega
theorem getD_set_same {d : List Int} {i : Nat} {x : Int} (h : i < d.length) : (d.set i x).getD i 0 = x:=by
 simp [List.getD_eq_getElem?_getD,h]
theorem getD_set_other {d : List Int} {i j : Nat} {x : Int} (h : j ≠ i) : (d.set i x).getD j 0 = d.getD j 0:=by
 simp [List.getD_eq_getElem?_getD,Ne.symm h]
theorem ItoaInv.digit {u k v : Nat} {d : List Int} (h : ItoaInv u k v d) : ∀ t,k - 1 ≤ t → t < 20 → (d.set (k - 1) (48 + (v : Int) % 10)).getD t 0 = ((Lib.dg u (19 - t)).toNat : Int):=by
 intro t h1 h2
 have hp:=h.pos
 have hl:=h.le
 by_cases e : t = k - 1
 ·subst e
  rw [getD_set_same (by rw [h.len];omega)]
  unfold Lib.dg
  rw [show 19 - (k - 1) = 20 - k by omega,← h.rest,itoa_digit]
 ·rw [getD_set_other e]
  exact h.done t (by omega) h2
theorem ItoaInv.next {u k v : Nat} {d : List Int} (h : ItoaInv u k v d) (hv : v / 10 ≠ 0) : ItoaInv u (k - 1) (v / 10) (d.set (k - 1) (48 + (v : Int) % 10)):=by
 have hp:=h.pos
 have hl:=h.le
 have hs:=h.small
 have hk3 : 3 ≤ k:=by
  rcases Nat.lt_or_ge k 3 with h3|h3
  ·have : k = 2:=by omega
   subst this
   have : v < 10:=by simpa using hs
   omega
  ·exact h3
 refine ⟨by simp [h.len],by omega,by omega,?_,.inr hv,?_,h.digit⟩
 ·rw [h.rest,Nat.div_div_eq_div_mul,show 20 - (k - 1) = 20 - k + 1 by omega,Nat.pow_succ]
 ·rw [show k - 1 = k - 1 - 1 + 1 by omega,Nat.pow_succ,Nat.mul_comm] at hs
  exact Nat.div_lt_of_lt_mul hs
theorem ItoaInv.digits {u k v : Nat} {d : List Int} (h : ItoaInv u k v d) (hv : v / 10 = 0) : Lib.nDigits u = 21 - k:=by
 have hp:=h.pos
 have hl:=h.le
 have h1 : u < 10 ^ (21 - k):=by
  have hr:=h.rest
  rw [hr,Nat.div_div_eq_div_mul,← Nat.pow_succ,show (20 - k).succ = 21 - k by omega] at hv
  exact (Nat.div_eq_zero_iff.mp hv).resolve_left (by have:=Nat.pow_pos (n:=21 - k) (show 0 < 10 by omega);omega)
 rcases h.more with e|e
 ·subst e
  exact Lib.nDigits_small (by simpa using h1)
 ·rw [Lib.nDigits_unique (20 - k) u ?_ (by rw [show 20 - k + 1 = 21 - k by omega];exact h1)]
  ·omega
  ·rw [h.rest] at e
   rcases Nat.lt_or_ge u (10 ^ (20 - k)) with hh|hh
   ·exact absurd (Nat.div_eq_of_lt hh) e
   ·exact hh
theorem ItoaInv.result {u k v : Nat} {d : List Int} (h : ItoaInv u k v d) (hv : v / 10 = 0) :
  (d.set (k - 1) (48 + (v : Int) % 10)).drop (k - 1) = (Lib.decDigits u).map fun b => (b.toNat : Int):=by
 have hp:=h.pos
 have hl:=h.le
 have hn:=h.digits hv
 apply List.ext_getElem?
 intro i
 rw [Lib.decDigits_eq,hn,List.getElem?_drop]
 by_cases hi : i < 21 - k
 ·have:=h.digit (k - 1 + i) (by omega) (by omega)
  rw [List.getD_eq_getElem?_getD,List.getElem?_eq_getElem (by simp [h.len];omega)] at this
  rw [List.getElem?_eq_getElem (by simp [h.len];omega)]
  simp only [List.map_map,List.getElem?_map,List.getElem?_range hi,Option.map_some,Function.comp]
  simp only [Option.getD_some] at this
  rw [this,show 19 - (k - 1 + i) = 21 - k - 1 - i by omega]
 ·rw [List.getElem?_eq_none (by simp [h.len];omega),List.getElem?_eq_none (by simp;omega)]
theorem ItoaInv.resultN {u k v : Nat} {d : List Int} (h : ItoaInv u k v d) (hd : d.length = 20) (hv : v / 10 = 0) :
  ((d.set (k - 1) (48 + (v : Int) % 10)).set (k - 2) 45).drop (k - 2) = 45 :: (Lib.decDigits u).map fun b => (b.toNat : Int):=by
 have hp:=h.pos
 have hl:=h.le
 rw [← h.result hv]
 rw [List.drop_eq_getElem_cons (by simp [hd];omega),List.getElem_set_self,show k - 2 + 1 = k - 1 by omega,List.drop_set,if_pos (by omega)]
theorem strOfNums_map (l : List UInt8) : strOfNums (l.map fun b => (b.toNat : Int)) = ⟨l.toArray⟩:=by
 unfold strOfNums
 congr 1
 congr 1
 rw [List.map_map]
 conv => rhs;rw [← List.map_id l]
 apply List.map_congr_left
 intro b _
 simp
end Go.Proofs.YtedfgkjimnjdpaaDoor.X
namespace Go.Proofs.YtedfgkjimnjdpaaDoor.X
open Go.RowKit Go.Proofs.YtedfgkjimnjdpaaDoorW.PrintWords
set_option linter.unusedVariables false
set_option linter.unusedSimpArgs false
theorem itoa_arr : Tryd.prog.underlying 131 = some (.array (Tryd.prog.arrayLen 131) (Tryd.prog.elem 131)):=by kernel_rfl
theorem itoa_len : Tryd.prog.arrayLen 131 = 20:=by kernel_rfl
theorem itoa_size (W : World) : (sizeOf (Tryd.prog.elem 131)).run Tryd.prog W = .ok 1 W:=by kernel_rfl
theorem itoa_slice (B : Nat) (k : Int) (h0 : 0 ≤ k) (h1 : k ≤ 19) (W : World) :
  (Instr.sliceAt 131 (.pointer (some ⟨B,0,none⟩)) (some (.int .i64 k)) none none).run Tryd.prog W = .ok (.slice (some ⟨B,k.toNat,none⟩) (20 - k.toNat) (20 - k.toNat)) W:=by
 rw [run_sliceAt_array_l W 131 ⟨B,0,none⟩ itoa_arr .i64 k h0 (by rw [itoa_len];omega),itoa_size,itoa_len]
 simp only [Result.andThen,slicedAt]
 rw [if_neg (by omega)]
 unfold Addr.add
 split
 ·rename_i hz
  have : k.toNat = 0:=by omega
  rw [this]
 ·simp
theorem itoa_conv (B p : Nat) (d : List Int) (hl : d.length = 20) (hp : p < 20) (W : World) (hb : W.heap[B]? = some (.cells (nums .u8 d).toArray 131 (0,0))) :
  (convert 49 9 (.slice (some ⟨B,p,none⟩) (20 - p) (20 - p))).run Tryd.prog W = .ok (.string (strOfNums (d.drop p))) W:=by
 refine string_of_reads Tryd.underlying49 Tryd.underlying5 Tryd.underlying9 ⟨by rw [List.length_drop,hl],by omega,fun _ => ⟨_,rfl,fun j hj => ?_⟩⟩
 have:=blk_cell hb (p + j)
 have e : (Addr.add ⟨B,p,none⟩ j) = ⟨B,p + j,none⟩:=by unfold Addr.add;split <;> simp_all
 rw [e,this]
 simp only [nums,List.getElem?_toArray,List.getElem?_map,List.getD_eq_getElem?_getD,List.getElem?_drop]
 rw [List.getElem?_eq_getElem (by omega)]
 rfl
theorem itoa_set (d : List Int) (j : Nat) (x : Int) : (nums .u8 d).toArray.setIfInBounds j (.int .u8 x) = (nums .u8 (d.set j x)).toArray:=by
 simp [nums,List.map_set]
theorem ret_str {a b : ByteArray} (h : a = b) : Ending.returned (.string a) = .returned (.string b):=by rw [h]
set_option maxHeartbeats 1000000 in
set_option maxRecDepth 100000 in
theorem itoa_pos (n : Int) (h0 : 0 ≤ n) (h1 : n ≤ 9223372036854775807) (w : World) : Calls Tryd.prog 60 #[.int .i64 n] w fun e w' => e = .returned (.string ⟨(Lib.decDigits n.toNat).toArray⟩) ∧ Below w.heap.size w w':=by
 have hd : decide (n < 0) = false:=by simpa using h0
 go_enter Tryd.func60,Tryd.ntmps60
 go_wp2
 go_loopw [4,5] (fun i x wr => ∃ (k v : Nat) (d : List Int),i = .int .i64 k ∧ x = .int .u64 v ∧ wr.heap[w.heap.size]? = some (.cells (nums .u8 d).toArray 131 (0,0)) ∧ ItoaInv n.toNat k v d ∧ Below w.heap.size w wr)
  (fun i _ _ => (intOf i).toNat)
 case atStart => exact ⟨20,n.toNat,List.replicate 20 0,rfl,by rw [Int.toNat_of_nonneg h0],heap_alloc_new w _,ItoaInv.start (by omega) _ (by simp),(Below.refl _ _).alloc (Nat.le_refl _) _⟩
 case round =>
  obtain ⟨k,v,d,rfl,rfl,hb,hinv,hbel⟩:=hrel
  have hk1:=hinv.pos
  have hk2:=hinv.le
  have hlen:=hinv.len
  have hv0 : (0 : Int) ≤ (v : Int):=by omega
  have hv1 : (v : Int) ≤ 18446744073709551615:=by
   have:=Nat.div_le_self n.toNat (10 ^ (20 - k))
   have:=hinv.rest
   omega
  have hcell : wr.cell? ⟨w.heap.size,k - 1,none⟩ = some (.int .u8 (d.getD (k - 1) 0)):=by
   rw [blk_cell hb]
   simp only [nums,List.getElem?_toArray,List.getElem?_map,List.getD_eq_getElem?_getD]
   rw [List.getElem?_eq_getElem (by omega)]
   rfl
  have hfr : wr.frozen? ⟨w.heap.size,k - 1,none⟩ = false:=blk_frozen hb _
  have hsl:=itoa_slice w.heap.size ((k : Int) - 1) (by omega) (by omega)
  have hb2 : (wr.setCell ⟨w.heap.size,k - 1,none⟩ (.int .u8 (48 + (v : Int) % 10))).heap[w.heap.size]? = some (.cells (nums .u8 (d.set (k - 1) (48 + (v : Int) % 10))).toArray 131 (0,0)):=by
   rw [← itoa_set];exact blk_set hb _ _
  have hcv:=itoa_conv w.heap.size (k - 1) _ (by rw [List.length_set];exact hlen) (by omega) _ hb2
  rw [show ((k : Int) - 1).toNat = k - 1 by omega] at hsl
  have hB2:=Lib.hid hb2
  have hB:=Lib.hid hb
  have hL:=Lib.hid hlen
  clear hb2 hb hlen
  by_cases hv : v / 10 = 0
  ·have hq : ((v : Int) / 10 == 0) = true:=by simp;omega
   go_wp2
   go_ret
   exact ⟨ret_str (by rw [hinv.result hv,strOfNums_map]),hbel.setCell (by simp) _⟩
  ·have hq : ((v : Int) / 10 == 0) = false:=by simp;omega
   go_wp2
   go_roundw
   case rel => exact ⟨k - 1,v / 10,_,by rw [show ((k - 1 : Nat) : Int) = (k : Int) - 1 by omega],by rw [show ((v / 10 : Nat) : Int) = (v : Int) / 10 by omega],hB2.out,hinv.next hv,hbel.setCell (by simp) _⟩
   case measure => simp [intOf];omega
set_option maxHeartbeats 1000000 in
set_option maxRecDepth 100000 in
theorem itoa_neg (m : Nat) (h0 : 0 < m) (h1 : m ≤ 9223372036854775808) (w : World) : Calls Tryd.prog 60 #[.int .i64 (-(m : Int))] w fun e w' => e = .returned (.string ⟨(45 :: Lib.decDigits m).toArray⟩) ∧ Below w.heap.size w w':=by
 have hd : decide (-(m : Int) < 0) = true:=by simp;omega
 have hw : IntKind.u64.wrap (-IntKind.u64.wrap (-(m : Int))) = (m : Int):=by unfold IntKind.wrap;simp [IntKind.signed,IntKind.bits];omega
 go_enter Tryd.func60,Tryd.ntmps60
 go_wp2
 go_loopw [4,5] (fun i x wr => ∃ (k v : Nat) (d : List Int),i = .int .i64 k ∧ x = .int .u64 v ∧ wr.heap[w.heap.size]? = some (.cells (nums .u8 d).toArray 131 (0,0)) ∧ ItoaInv m k v d ∧ Below w.heap.size w wr)
  (fun i _ _ => (intOf i).toNat)
 case atStart => exact ⟨20,m,List.replicate 20 0,rfl,rfl,heap_alloc_new w _,ItoaInv.start (by omega) _ (by simp),(Below.refl _ _).alloc (Nat.le_refl _) _⟩
 case round =>
  obtain ⟨k,v,d,rfl,rfl,hb,hinv,hbel⟩:=hrel
  have hk1:=hinv.pos
  have hk2:=hinv.le
  have hlen:=hinv.len
  have hv0 : (0 : Int) ≤ (v : Int):=by omega
  have hv1 : (v : Int) ≤ 18446744073709551615:=by
   have:=Nat.div_le_self m (10 ^ (20 - k))
   have:=hinv.rest
   omega
  have hcell : wr.cell? ⟨w.heap.size,k - 1,none⟩ = some (.int .u8 (d.getD (k - 1) 0)):=by
   rw [blk_cell hb]
   simp only [nums,List.getElem?_toArray,List.getElem?_map,List.getD_eq_getElem?_getD]
   rw [List.getElem?_eq_getElem (by omega)]
   rfl
  have hfr : wr.frozen? ⟨w.heap.size,k - 1,none⟩ = false:=blk_frozen hb _
  have hcell2 : wr.cell? ⟨w.heap.size,k - 1 - 1,none⟩ = some (.int .u8 (d.getD (k - 1 - 1) 0)):=by
   rw [blk_cell hb]
   simp only [nums,List.getElem?_toArray,List.getElem?_map,List.getD_eq_getElem?_getD]
   rw [List.getElem?_eq_getElem (by omega)]
   rfl
  have hfr2 : wr.frozen? ⟨w.heap.size,k - 1 - 1,none⟩ = false:=blk_frozen hb _
  have hsl:=itoa_slice w.heap.size ((k : Int) - 1 - 1) (by omega) (by omega)
  have hb2 : (wr.setCell ⟨w.heap.size,k - 1,none⟩ (.int .u8 (48 + (v : Int) % 10))).heap[w.heap.size]? = some (.cells (nums .u8 (d.set (k - 1) (48 + (v : Int) % 10))).toArray 131 (0,0)):=by
   rw [← itoa_set];exact blk_set hb _ _
  have hb3 : ((wr.setCell ⟨w.heap.size,k - 1,none⟩ (.int .u8 (48 + (v : Int) % 10))).setCell ⟨w.heap.size,k - 1 - 1,none⟩ (.int .u8 45)).heap[w.heap.size]? = some (.cells (nums .u8 ((d.set (k - 1) (48 + (v : Int) % 10)).set (k - 1 - 1) 45)).toArray 131 (0,0)):=by
   rw [← itoa_set];exact blk_set hb2 _ _
  have hcv:=itoa_conv w.heap.size (k - 1 - 1) _ (by rw [List.length_set,List.length_set];exact hlen) (by omega) _ hb3
  have hcell3 : (wr.setCell ⟨w.heap.size,k - 1,none⟩ (.int .u8 (48 + (v : Int) % 10))).cell? ⟨w.heap.size,k - 1 - 1,none⟩ = some (.int .u8 ((d.set (k - 1) (48 + (v : Int) % 10)).getD (k - 1 - 1) 0)):=by
   rw [blk_cell hb2]
   simp only [nums,List.getElem?_toArray,List.getElem?_map,List.getD_eq_getElem?_getD]
   rw [List.getElem?_eq_getElem (by rw [List.length_set];omega)]
   rfl
  have hfr3 : (wr.setCell ⟨w.heap.size,k - 1,none⟩ (.int .u8 (48 + (v : Int) % 10))).frozen? ⟨w.heap.size,k - 1 - 1,none⟩ = false:=blk_frozen hb2 _
  clear hb3
  rw [show ((k : Int) - 1 - 1).toNat = k - 1 - 1 by omega] at hsl
  have hB2:=Lib.hid hb2
  have hB:=Lib.hid hb
  have hL:=Lib.hid hlen
  clear hb2 hb hlen
  by_cases hv : v / 10 = 0
  ·have hq : ((v : Int) / 10 == 0) = true:=by simp;omega
   go_wp2
   go_ret
   exact ⟨ret_str (by rw [show k - 1 - 1 = k - 2 by omega,hinv.resultN hL.out hv];exact strOfNums_map (45 :: Lib.decDigits m)),(hbel.setCell (by simp) _).setCell (by simp) _⟩
  ·have hq : ((v : Int) / 10 == 0) = false:=by simp;omega
   go_wp2
   go_roundw
   case rel => exact ⟨k - 1,v / 10,_,by rw [show ((k - 1 : Nat) : Int) = (k : Int) - 1 by omega],by rw [show ((v / 10 : Nat) : Int) = (v : Int) / 10 by omega],hB2.out,hinv.next hv,hbel.setCell (by simp) _⟩
   case measure => simp [intOf];omega
def basic_Itoa.f (n : Int) : Option ByteArray:=if -9223372036854775808 ≤ n ∧ n ≤ 9223372036854775807 then some ⟨(Lib.itoa n).toArray⟩ else none
theorem basic_Itoa.calls (a0 : Int) (r : ByteArray) (w : World) (h : basic_Itoa.f a0 = some r) :
  Calls Tryd.prog 60 #[.int .i64 a0] w fun e w' => e = .returned (.string r) ∧ Below w.heap.size w w':=by
 unfold basic_Itoa.f at h
 split at h
 ·rename_i hh
  obtain rfl:=Option.some.inj h
  unfold Lib.itoa
  by_cases hn : a0 < 0
  ·rw [if_pos hn]
   obtain ⟨m,rfl⟩ : ∃ m : Nat,a0 = -(m : Int):=⟨a0.natAbs,by omega⟩
   rw [Int.natAbs_neg,Int.natAbs_natCast]
   exact itoa_neg m (by omega) (by omega) w
  ·rw [if_neg hn]
   exact itoa_pos a0 (by omega) hh.2 w
 ·exact absurd h (by simp)
end Go.Proofs.YtedfgkjimnjdpaaDoor.X
namespace Go.Proofs
open Go.Shelf
def Tryd.lays156_ren : Go.Shelf.Ren:=⟨fun|156 => 77|165 => 107|166 => 108|169 => 86|240 => 116|241 => 126|276 => 131|277 => 136|n => n,fun|31 => 30|9 => 9|3 => 3|4 => 4|0 => 0|20 => 20|72 => 112|76 => 142|70 => 110|37 => 49|75 => 120|127 => 149|164 => 161|5 => 5|80 => 122|n => n,fun|n => n⟩
theorem Tryd.lays156 : Go.Proofs.Lays.n156 Tryd.prog Tryd.lays156_ren:={
 mixed:=by kernel_rfl
 f156:=Tryd.func77.trans (congrArg some (by kernel_rfl))
 f165:=Tryd.func107.trans (congrArg some (by kernel_rfl))
 f166:=Tryd.func108.trans (congrArg some (by kernel_rfl))
 f169:=Tryd.func86.trans (congrArg some (by kernel_rfl))
 f240:=Tryd.func116.trans (congrArg some (by kernel_rfl))
 f241:=Tryd.func126.trans (congrArg some (by kernel_rfl))
 f276:=Tryd.func131.trans (congrArg some (by kernel_rfl))
 f277:=Tryd.func136.trans (congrArg some (by kernel_rfl))
 t0:=Tryd.underlying0
 a0:=Tryd.isAgg0
 z0:=Tryd.sizeOf0
 v0:=Tryd.zeroValue0
 t3:=Tryd.underlying3
 a3:=Tryd.isAgg3
 z3:=Tryd.sizeOf3
 v3:=Tryd.zeroValue3
 t4:=Tryd.underlying4
 a4:=Tryd.isAgg4
 z4:=Tryd.sizeOf4
 v4:=Tryd.zeroValue4
 t9:=Tryd.underlying9
 a9:=Tryd.isAgg9
 z9:=Tryd.sizeOf9
 v9:=Tryd.zeroValue9
 t20:=Tryd.underlying20
 a20:=Tryd.isAgg20
 z20:=Tryd.sizeOf20
 v20:=Tryd.zeroValue20
 t31:=Tryd.underlying30
 a31:=Tryd.isAgg30
 z31:=Tryd.sizeOf30
 v31:=Tryd.zeroValue30
 t37:=Tryd.underlying49
 a37:=Tryd.isAgg49
 z37:=Tryd.sizeOf49
 v37:=Tryd.zeroValue49
 t70:=Tryd.underlying110
 a70:=Tryd.isAgg110
 z70:=Tryd.sizeOf110
 v70:=Tryd.zeroValue110
 t72:=Tryd.underlying112
 a72:=Tryd.isAgg112
 z72:=Tryd.sizeOf112
 v72:=Tryd.zeroValue112
 t75:=Tryd.underlying120
 a75:=Tryd.isAgg120
 z75:=Tryd.sizeOf120
 v75:=Tryd.zeroValue120
 t76:=Tryd.underlying142
 a76:=Tryd.isAgg142
 z76:=Tryd.sizeOf142
 v76:=Tryd.zeroValue142
 t127:=Tryd.underlying149
 a127:=Tryd.isAgg149
 z127:=Tryd.sizeOf149
 v127:=Tryd.zeroValue149
 t164:=Tryd.underlying161
 a164:=Tryd.isAgg161
 z164:=Tryd.sizeOf161
 v164:=Tryd.zeroValue161 }
theorem Tryd.Builder_Extra_156 : Builder.Extra Tryd.prog Tryd.lays156_ren:={
 sizeBuilder:=by kernel_rfl
 liesBuilder:=by kernel_rfl
 t5:=Tryd.underlying5
 a5:=Tryd.isAgg5
 z5:=Tryd.sizeOf5
 v5:=Tryd.zeroValue5
 infoByte:=by kernel_rfl
 cellsByte:=by kernel_rfl
 sizeByte:=by kernel_rfl
 neB5:=by decide }
open Go.RowKit in
theorem Tryd.strings_Join_none (a : Option Addr) (c : Nat) (sep : ByteArray) (w : World) :
  Calls Tryd.prog 77 #[.slice a 0 c,.string sep] w fun e w' => e = .returned (.string ⟨#[]⟩) ∧ w' = w:=Any.strings_Join_none Tryd.lays156 Tryd.Builder_Extra_156 a c sep w
open Go.RowKit in
theorem Tryd.strings_Join (bk o c : Nat) (xs : List ByteArray) (sep : ByteArray) (w : World) (hcells : ∀ (j : Nat) x,xs[j]? = some x → w.cell? ⟨bk,o + j,none⟩ = some (.string x)) (hbk : bk < w.heap.size) (hN : xs.length ≤ 140737488355328) (hcap : xs.length ≤ c) (hlen : (Lib.join (xs.map (·.data.toList)) sep.data.toList).length ≤ 140737488355328) :
  Calls Tryd.prog 77 #[.slice (some ⟨bk,o,none⟩) xs.length c,.string sep] w fun e w' => e = .returned (.string ⟨(Lib.join (xs.map (·.data.toList)) sep.data.toList).toArray⟩) ∧ Below w.heap.size w w':=Any.strings_Join Tryd.lays156 Tryd.Builder_Extra_156 bk o c xs sep w hcells hbk hN hcap hlen
def Tryd.lays161_ren : Go.Shelf.Ren:=⟨fun|161 => 28|231 => 66|227 => 67|233 => 68|235 => 69|228 => 101|197 => 102|151 => 103|260 => 121|152 => 122|137 => 78|119 => 133|224 => 134|225 => 135|217 => 113|266 => 130|n => n,fun|9 => 9|4 => 4|3 => 3|5 => 5|117 => 95|116 => 94|0 => 0|124 => 98|105 => 136|21 => 21|119 => 164|46 => 117|139 => 167|138 => 166|n => n,fun|3 => 2|4 => 3|n => n⟩
theorem Tryd.lays161 : Go.Proofs.Lays.n161 Tryd.prog Tryd.lays161_ren:={
 mixed:=by kernel_rfl
 f119:=Tryd.func133.trans (congrArg some (by kernel_rfl))
 f137:=Tryd.func78.trans (congrArg some (by kernel_rfl))
 f151:=Tryd.func103.trans (congrArg some (by kernel_rfl))
 f152:=Tryd.func122.trans (congrArg some (by kernel_rfl))
 f161:=Tryd.func28.trans (congrArg some (by kernel_rfl))
 f197:=Tryd.func102.trans (congrArg some (by kernel_rfl))
 f217:=Tryd.func113.trans (congrArg some (by kernel_rfl))
 f224:=Tryd.func134.trans (congrArg some (by kernel_rfl))
 f225:=Tryd.func135.trans (congrArg some (by kernel_rfl))
 f227:=Tryd.func67.trans (congrArg some (by kernel_rfl))
 f228:=Tryd.func101.trans (congrArg some (by kernel_rfl))
 f231:=Tryd.func66.trans (congrArg some (by kernel_rfl))
 f233:=Tryd.func68.trans (congrArg some (by kernel_rfl))
 f235:=Tryd.func69.trans (congrArg some (by kernel_rfl))
 f260:=Tryd.func121.trans (congrArg some (by kernel_rfl))
 f266:=Tryd.func130.trans (congrArg some (by kernel_rfl))
 t0:=Tryd.underlying0
 a0:=Tryd.isAgg0
 z0:=Tryd.sizeOf0
 v0:=Tryd.zeroValue0
 t3:=Tryd.underlying3
 a3:=Tryd.isAgg3
 z3:=Tryd.sizeOf3
 v3:=Tryd.zeroValue3
 t4:=Tryd.underlying4
 a4:=Tryd.isAgg4
 z4:=Tryd.sizeOf4
 v4:=Tryd.zeroValue4
 t5:=Tryd.underlying5
 a5:=Tryd.isAgg5
 z5:=Tryd.sizeOf5
 v5:=Tryd.zeroValue5
 t9:=Tryd.underlying9
 a9:=Tryd.isAgg9
 z9:=Tryd.sizeOf9
 v9:=Tryd.zeroValue9
 t21:=Tryd.underlying21
 a21:=Tryd.isAgg21
 z21:=Tryd.sizeOf21
 v21:=Tryd.zeroValue21
 t46:=Tryd.underlying117
 a46:=Tryd.isAgg117
 z46:=Tryd.sizeOf117
 v46:=Tryd.zeroValue117
 t105:=Tryd.underlying136
 a105:=Tryd.isAgg136
 z105:=Tryd.sizeOf136
 v105:=Tryd.zeroValue136
 t116:=Tryd.underlying94
 a116:=Tryd.isAgg94
 z116:=Tryd.sizeOf94
 t117:=Tryd.underlying95
 a117:=Tryd.isAgg95
 z117:=Tryd.sizeOf95
 v117:=Tryd.zeroValue95
 t119:=Tryd.underlying164
 a119:=Tryd.isAgg164
 z119:=Tryd.sizeOf164
 t124:=Tryd.underlying98
 a124:=Tryd.isAgg98
 z124:=Tryd.sizeOf98
 v124:=Tryd.zeroValue98
 t138:=Tryd.underlying166
 a138:=Tryd.isAgg166
 z138:=Tryd.sizeOf166
 v138:=Tryd.zeroValue166
 t139:=Tryd.underlying167
 a139:=Tryd.isAgg167
 z139:=Tryd.sizeOf167
 v139:=Tryd.zeroValue167
 g3:=by kernel_rfl
 g4:=by kernel_rfl }
open Go.RowKit in
theorem Tryd.strings_TrimLeft_one (s : ByteArray) (c : UInt8) (hc : c.toNat < 128) (w : World) :
  Calls Tryd.prog 28 #[.string s,.string ⟨#[c]⟩] w fun e w' => e = .returned (.string ⟨(Lib.trimLeftB s.data.toList c).toArray⟩) ∧ w' = w:=Any.strings_TrimLeft_one Tryd.lays161 s c hc w
def Tryd.lays137_ren : Go.Shelf.Ren:=⟨fun|137 => 78|217 => 113|266 => 130|n => n,fun|9 => 9|5 => 5|3 => 3|n => n,fun|n => n⟩
theorem Tryd.lays137 : Go.Proofs.Lays.n137 Tryd.prog Tryd.lays137_ren:={
 mixed:=by kernel_rfl
 f137:=Tryd.func78.trans (congrArg some (by kernel_rfl))
 f217:=Tryd.func113.trans (congrArg some (by kernel_rfl))
 f266:=Tryd.func130.trans (congrArg some (by kernel_rfl))
 t3:=Tryd.underlying3
 a3:=Tryd.isAgg3
 z3:=Tryd.sizeOf3
 v3:=Tryd.zeroValue3
 t5:=Tryd.underlying5
 a5:=Tryd.isAgg5
 z5:=Tryd.sizeOf5
 v5:=Tryd.zeroValue5
 t9:=Tryd.underlying9
 a9:=Tryd.isAgg9
 z9:=Tryd.sizeOf9
 v9:=Tryd.zeroValue9 }
open Go.RowKit in
theorem Tryd.strings_IndexByte (s : ByteArray) (c : Int) (w : World) :
  Calls Tryd.prog 78 #[.string s,.int .u8 c] w fun e w' => e = .returned (.int .i64 (Lib.indexByte s.data.toList c.toNat.toUInt8)) ∧ w' = w:=Any.strings_IndexByte Tryd.lays137 s c w
def Tryd.lays211_ren : Go.Shelf.Ren:=⟨fun|211 => 76|207 => 112|n => n,fun|9 => 9|4 => 4|3 => 3|n => n,fun|n => n⟩
theorem Tryd.lays211 : Go.Proofs.Lays.n211 Tryd.prog Tryd.lays211_ren:={
 mixed:=by kernel_rfl
 f207:=Tryd.func112.trans (congrArg some (by kernel_rfl))
 f211:=Tryd.func76.trans (congrArg some (by kernel_rfl))
 t3:=Tryd.underlying3
 a3:=Tryd.isAgg3
 z3:=Tryd.sizeOf3
 v3:=Tryd.zeroValue3
 t4:=Tryd.underlying4
 a4:=Tryd.isAgg4
 z4:=Tryd.sizeOf4
 v4:=Tryd.zeroValue4
 t9:=Tryd.underlying9
 a9:=Tryd.isAgg9
 z9:=Tryd.sizeOf9
 v9:=Tryd.zeroValue9 }
open Go.RowKit in
theorem Tryd.stringslite_CutSuffix (s p : ByteArray) (w : World) (hs : s.size ≤ 9223372036854775807) :
  Calls Tryd.prog 76 #[.string s,.string p] w fun e w' => e = .returned (.tuple #[.string ⟨(Lib.trimSuffix s.data.toList p.data.toList).toArray⟩,.bool (Lib.hasSuffix s.data.toList p.data.toList)]) ∧ w' = w:=Any.stringslite_CutSuffix Tryd.lays211 s p w hs
def Tryd.lays104_ren : Go.Shelf.Ren:=⟨fun|104 => 37|211 => 76|207 => 112|n => n,fun|9 => 9|4 => 4|24 => 59|3 => 3|n => n,fun|n => n⟩
theorem Tryd.lays104 : Go.Proofs.Lays.n104 Tryd.prog Tryd.lays104_ren:={
 mixed:=by kernel_rfl
 f104:=Tryd.func37.trans (congrArg some (by kernel_rfl))
 f207:=Tryd.func112.trans (congrArg some (by kernel_rfl))
 f211:=Tryd.func76.trans (congrArg some (by kernel_rfl))
 t3:=Tryd.underlying3
 a3:=Tryd.isAgg3
 z3:=Tryd.sizeOf3
 v3:=Tryd.zeroValue3
 t4:=Tryd.underlying4
 a4:=Tryd.isAgg4
 z4:=Tryd.sizeOf4
 v4:=Tryd.zeroValue4
 t9:=Tryd.underlying9
 a9:=Tryd.isAgg9
 z9:=Tryd.sizeOf9
 v9:=Tryd.zeroValue9
 t24:=Tryd.underlying59
 a24:=Tryd.isAgg59
 z24:=Tryd.sizeOf59
 v24:=Tryd.zeroValue59 }
open Go.RowKit in
theorem Tryd.strings_CutSuffix (s p : ByteArray) (w : World) (hs : s.size ≤ 9223372036854775807) :
  Calls Tryd.prog 37 #[.string s,.string p] w fun e w' => e = .returned (.tuple #[.string ⟨(Lib.trimSuffix s.data.toList p.data.toList).toArray⟩,.bool (Lib.hasSuffix s.data.toList p.data.toList)]) ∧ w' = w:=Any.strings_CutSuffix Tryd.lays104 s p w hs
def Tryd.lays207_ren : Go.Shelf.Ren:=⟨fun|207 => 112|n => n,fun|9 => 9|4 => 4|3 => 3|n => n,fun|n => n⟩
theorem Tryd.lays207 : Go.Proofs.Lays.n207 Tryd.prog Tryd.lays207_ren:={
 mixed:=by kernel_rfl
 f207:=Tryd.func112.trans (congrArg some (by kernel_rfl))
 t3:=Tryd.underlying3
 a3:=Tryd.isAgg3
 z3:=Tryd.sizeOf3
 v3:=Tryd.zeroValue3
 t4:=Tryd.underlying4
 a4:=Tryd.isAgg4
 z4:=Tryd.sizeOf4
 v4:=Tryd.zeroValue4
 t9:=Tryd.underlying9
 a9:=Tryd.isAgg9
 z9:=Tryd.sizeOf9
 v9:=Tryd.zeroValue9 }
open Go.RowKit Go.Lib in
theorem Tryd.stringslite_HasSuffix (s p : ByteArray) (w : World) (hs : s.size ≤ 9223372036854775807) :
  Calls Tryd.prog 112 #[.string s,.string p] w fun e w' => e = .returned (.bool (Lib.hasSuffix s.data.toList p.data.toList)) ∧ w' = w:=Any.stringslite_HasSuffix Tryd.lays207 s p w hs
def Tryd.lays101_ren : Go.Shelf.Ren:=⟨fun|101 => 70|208 => 104|206 => 123|n => n,fun|9 => 9|4 => 4|3 => 3|n => n,fun|n => n⟩
theorem Tryd.lays101 : Go.Proofs.Lays.n101 Tryd.prog Tryd.lays101_ren:={
 mixed:=by kernel_rfl
 f101:=Tryd.func70.trans (congrArg some (by kernel_rfl))
 f206:=Tryd.func123.trans (congrArg some (by kernel_rfl))
 f208:=Tryd.func104.trans (congrArg some (by kernel_rfl))
 t3:=Tryd.underlying3
 a3:=Tryd.isAgg3
 z3:=Tryd.sizeOf3
 v3:=Tryd.zeroValue3
 t4:=Tryd.underlying4
 a4:=Tryd.isAgg4
 z4:=Tryd.sizeOf4
 v4:=Tryd.zeroValue4
 t9:=Tryd.underlying9
 a9:=Tryd.isAgg9
 z9:=Tryd.sizeOf9
 v9:=Tryd.zeroValue9 }
open Go.RowKit Go.Lib in
theorem Tryd.strings_TrimPrefix (s p : ByteArray) (w : World) :
  Calls Tryd.prog 70 #[.string s,.string p] w fun e w' => e = .returned (.string ⟨(Lib.trimPrefix s.data.toList p.data.toList).toArray⟩) ∧ w' = w:=Any.strings_TrimPrefix Tryd.lays101 s p w
def Tryd.lays105_ren : Go.Shelf.Ren:=⟨fun|105 => 71|212 => 105|99 => 106|165 => 107|166 => 108|170 => 109|169 => 86|263 => 124|264 => 125|206 => 123|240 => 116|241 => 126|276 => 131|277 => 136|n => n,fun|9 => 9|3 => 3|4 => 4|20 => 20|0 => 0|46 => 117|109 => 139|5 => 5|72 => 112|76 => 142|51 => 107|146 => 155|53 => 99|148 => 157|70 => 110|37 => 49|75 => 120|127 => 149|164 => 161|80 => 122|n => n,fun|n => n⟩
theorem Tryd.lays105 : Go.Proofs.Lays.n105 Tryd.prog Tryd.lays105_ren:={
 mixed:=by kernel_rfl
 f99:=Tryd.func106.trans (congrArg some (by kernel_rfl))
 f105:=Tryd.func71.trans (congrArg some (by kernel_rfl))
 f165:=Tryd.func107.trans (congrArg some (by kernel_rfl))
 f166:=Tryd.func108.trans (congrArg some (by kernel_rfl))
 f169:=Tryd.func86.trans (congrArg some (by kernel_rfl))
 f170:=Tryd.func109.trans (congrArg some (by kernel_rfl))
 f206:=Tryd.func123.trans (congrArg some (by kernel_rfl))
 f212:=Tryd.func105.trans (congrArg some (by kernel_rfl))
 f240:=Tryd.func116.trans (congrArg some (by kernel_rfl))
 f241:=Tryd.func126.trans (congrArg some (by kernel_rfl))
 f263:=Tryd.func124.trans (congrArg some (by kernel_rfl))
 f264:=Tryd.func125.trans (congrArg some (by kernel_rfl))
 f276:=Tryd.func131.trans (congrArg some (by kernel_rfl))
 f277:=Tryd.func136.trans (congrArg some (by kernel_rfl))
 t0:=Tryd.underlying0
 a0:=Tryd.isAgg0
 z0:=Tryd.sizeOf0
 v0:=Tryd.zeroValue0
 t3:=Tryd.underlying3
 a3:=Tryd.isAgg3
 z3:=Tryd.sizeOf3
 v3:=Tryd.zeroValue3
 t4:=Tryd.underlying4
 a4:=Tryd.isAgg4
 z4:=Tryd.sizeOf4
 v4:=Tryd.zeroValue4
 t5:=Tryd.underlying5
 a5:=Tryd.isAgg5
 z5:=Tryd.sizeOf5
 v5:=Tryd.zeroValue5
 t9:=Tryd.underlying9
 a9:=Tryd.isAgg9
 z9:=Tryd.sizeOf9
 v9:=Tryd.zeroValue9
 t20:=Tryd.underlying20
 a20:=Tryd.isAgg20
 z20:=Tryd.sizeOf20
 v20:=Tryd.zeroValue20
 t37:=Tryd.underlying49
 a37:=Tryd.isAgg49
 z37:=Tryd.sizeOf49
 v37:=Tryd.zeroValue49
 t46:=Tryd.underlying117
 a46:=Tryd.isAgg117
 z46:=Tryd.sizeOf117
 v46:=Tryd.zeroValue117
 t51:=Tryd.underlying107
 a51:=Tryd.isAgg107
 z51:=Tryd.sizeOf107
 v51:=Tryd.zeroValue107
 t53:=Tryd.underlying99
 a53:=Tryd.isAgg99
 z53:=Tryd.sizeOf99
 v53:=Tryd.zeroValue99
 t70:=Tryd.underlying110
 a70:=Tryd.isAgg110
 z70:=Tryd.sizeOf110
 v70:=Tryd.zeroValue110
 t72:=Tryd.underlying112
 a72:=Tryd.isAgg112
 z72:=Tryd.sizeOf112
 v72:=Tryd.zeroValue112
 t75:=Tryd.underlying120
 a75:=Tryd.isAgg120
 z75:=Tryd.sizeOf120
 v75:=Tryd.zeroValue120
 t76:=Tryd.underlying142
 a76:=Tryd.isAgg142
 z76:=Tryd.sizeOf142
 v76:=Tryd.zeroValue142
 t109:=Tryd.underlying139
 a109:=Tryd.isAgg139
 z109:=Tryd.sizeOf139
 v109:=Tryd.zeroValue139
 t127:=Tryd.underlying149
 a127:=Tryd.isAgg149
 z127:=Tryd.sizeOf149
 v127:=Tryd.zeroValue149
 t146:=Tryd.underlying155
 a146:=Tryd.isAgg155
 z146:=Tryd.sizeOf155
 v146:=Tryd.zeroValue155
 t148:=Tryd.underlying157
 a148:=Tryd.isAgg157
 z148:=Tryd.sizeOf157
 v148:=Tryd.zeroValue157
 t164:=Tryd.underlying161
 a164:=Tryd.isAgg161
 z164:=Tryd.sizeOf161
 v164:=Tryd.zeroValue161 }
theorem Tryd.Builder_Extra_105 : Builder.Extra Tryd.prog Tryd.lays105_ren:={
 sizeBuilder:=by kernel_rfl
 liesBuilder:=by kernel_rfl
 t5:=Tryd.underlying5
 a5:=Tryd.isAgg5
 z5:=Tryd.sizeOf5
 v5:=Tryd.zeroValue5
 infoByte:=by kernel_rfl
 cellsByte:=by kernel_rfl
 sizeByte:=by kernel_rfl
 neB5:=by decide }
open Go.RowKit Go.Lib in
theorem Tryd.strings_Repeat (s : ByteArray) (c : Nat) (w : World) (hc : c ≤ 9223372036854775807) (hlen : s.size * c ≤ 140737488355328) :
  Calls Tryd.prog 71 #[.string s,.int .i64 c] w fun e w' => e = .returned (.string ⟨(Lib.repeatL s.data.toList c).toArray⟩) ∧ Below w.heap.size w w':=Any.strings_Repeat Tryd.lays105 Tryd.Builder_Extra_105 s c w hc hlen
end Go.Proofs
namespace Go.Proofs.YtedfgkjimnjdpaaDoor.X
open Go.RowKit Go.Proofs.YtedfgkjimnjdpaaDoorW.PrintWords
set_option linter.unusedVariables false
set_option linter.unusedSimpArgs false
theorem str_cells {w : World} {A : Option Addr} {n : Nat} {l : List ByteArray} (h : Kd.C Kd.string w A n l) (hn : 0 < n) :
  ∃ bk o,A = some ⟨bk,o,none⟩ ∧ bk < w.heap.size ∧ ∀ (j : Nat) x,l[j]? = some x → w.cell? ⟨bk,o + j,none⟩ = some (.string x):=by
 obtain ⟨hl,_,hc0⟩:=h
 obtain ⟨ad,rfl,hc⟩:=hc0 hn
 clear hc0
 have h0 : 0 < l.length:=by omega
 obtain ⟨bk,o,sp⟩:=ad
 have key : ∀ (j : Nat) x,l[j]? = some x → w.cell? (Addr.add ⟨bk,o,sp⟩ j) = some (.string x):=by
  intro j x hx
  obtain ⟨c,_,hk,hcell⟩:=hc j x hx
  have hk' : c = [Value.string x]:=hk
  subst hk'
  have:=hcell 0 (.string x) rfl
  simpa [Kd.string,Kd.scalar] using this
 have k0:=key 0 _ (List.getElem?_eq_getElem h0)
 simp only [Addr.add,if_pos] at k0
 have hb : bk < w.heap.size ∧ sp = none:=by
  unfold World.cell? at k0
  simp only at k0
  split at k0
  ·rename_i hh
   refine ⟨(Array.getElem?_eq_some_iff.mp hh).1,?_⟩
   cases sp with
   | none => rfl
   | some v => simp at k0
  ·simp at k0
 obtain ⟨hb,rfl⟩:=hb
 refine ⟨bk,o,rfl,hb,fun j x hx => ?_⟩
 have:=key j x hx
 unfold Addr.add at this
 split at this
 ·subst j
  simpa using this
 ·simpa using this
def joinB (l : List ByteArray) (sep : ByteArray) : List UInt8:=Lib.join (l.map (·.data.toList)) sep.data.toList
def strings_Join.f (l : List ByteArray) (sep : ByteArray) : Option ByteArray :=
 if l.length ≤ 140737488355328 ∧ (joinB l sep).length ≤ 140737488355328 then some ⟨(joinB l sep).toArray⟩ else none
theorem strings_Join.calls (A0 : Option Addr) (c0 : Nat) (l0 : List ByteArray) (a1 : ByteArray) (r : ByteArray) (w : World) (hr0 : Kd.C Kd.string w A0 l0.length l0) (hc0 : l0.length ≤ c0) (h : strings_Join.f l0 a1 = some r) :
  Calls Tryd.prog 77 #[.slice A0 l0.length c0,.string a1] w fun e w' => e = .returned (.string r) ∧ Below w.heap.size w w':=by
 unfold strings_Join.f at h
 split at h
 ·rename_i hh
  obtain rfl:=Option.some.inj h
  by_cases hn : 0 < l0.length
  ·obtain ⟨bk,o,rfl,hb,hcells⟩:=str_cells hr0 hn
   exact Tryd.strings_Join bk o c0 l0 a1 w hcells hb hh.1 hc0 hh.2
  ·have : l0 = []:=List.length_eq_zero_iff.mp (by omega)
   subst this
   refine (Tryd.strings_Join_none A0 c0 a1 w).mono ?_
   rintro e w' ⟨rfl,rfl⟩
   exact ⟨by simp [joinB,Lib.join,List.intercalate],Below.refl _ _⟩
 ·exact absurd h (by simp)
def strings_IndexByte.f (s : ByteArray) (c : Int) : Option Int:=some (Lib.indexByte s.data.toList c.toNat.toUInt8)
theorem strings_IndexByte.calls (a0 : ByteArray) (a1 : Int) (r : Int) (w : World) (h : strings_IndexByte.f a0 a1 = some r) :
  Calls Tryd.prog 78 #[.string a0,.int .u8 a1] w fun e w' => e = .returned (.int .i64 r) ∧ Drawn0 w w':=by
 obtain rfl:=Option.some.inj h
 refine (Tryd.strings_IndexByte a0 a1 w).mono ?_
 rintro e w' ⟨rfl,rfl⟩
 exact ⟨rfl,Drawn0.refl _⟩
def strings_Repeat.f (s : ByteArray) (n : Int) : Option ByteArray :=
 if 0 ≤ n ∧ n ≤ 9223372036854775807 ∧ s.size * n.toNat ≤ 140737488355328 then some ⟨(Lib.repeatL s.data.toList n.toNat).toArray⟩ else none
theorem strings_Repeat.calls (a0 : ByteArray) (a1 : Int) (r : ByteArray) (w : World) (h : strings_Repeat.f a0 a1 = some r) :
  Calls Tryd.prog 71 #[.string a0,.int .i64 a1] w fun e w' => e = .returned (.string r) ∧ Below w.heap.size w w':=by
 unfold strings_Repeat.f at h
 split at h
 ·rename_i hh
  obtain rfl:=Option.some.inj h
  obtain ⟨n,rfl⟩:=Int.eq_ofNat_of_zero_le hh.1
  exact Tryd.strings_Repeat a0 n w (by omega) hh.2.2
 ·exact absurd h (by simp)
end Go.Proofs.YtedfgkjimnjdpaaDoor.X
namespace Go.Proofs.YtedfgkjimnjdpaaDoor.X
open Go.RowKit Go.Proofs.YtedfgkjimnjdpaaDoorW.PrintWords
set_option linter.unusedVariables false
set_option linter.unusedSimpArgs false
def padN (w : Int) (n : Nat) : Int:=max 0 (min (max w 1) 100 - (n : Int))
theorem padN_bd (w : Int) (n : Nat) : 0 ≤ padN w n ∧ padN w n ≤ 100:=by unfold padN;omega
theorem repeat_one (c : Nat) : Lib.repeatL [48] c = List.replicate c 48:=by
 induction c with
 | zero => rfl
 | succ c ih => simp [Lib.repeatL,ih,List.replicate_succ]
def padB (s : ByteArray) (w : Int) : ByteArray:=(⟨(List.replicate (padN w s.size).toNat 48).toArray⟩ : ByteArray) ++ s
def basic_Pad.f (n : Int) (w : Int) : Option ByteArray:=(basic_Itoa.f n).bind fun s => if n < 0 then some s else some (padB s w)
theorem itoa_size21 {n : Int} {s : ByteArray} (h : basic_Itoa.f n = some s) : s.size ≤ 21:=by
 unfold basic_Itoa.f at h
 split at h
 ·rename_i hh
  obtain rfl:=Option.some.inj h
  have:=Lib.itoa_length_le n hh.1 hh.2
  simpa [ByteArray.size] using this
 ·exact absurd h (by simp)
theorem repeat_pad (c : Nat) (h : c ≤ 100) : strings_Repeat.f ⟨#[48]⟩ (c : Int) = some ⟨(List.replicate c 48).toArray⟩:=by
 unfold strings_Repeat.f
 rw [if_pos ⟨by omega,by omega,by simp [ByteArray.size];omega⟩,Int.toNat_natCast,repeat_one]
set_option maxHeartbeats 1000000 in
set_option maxRecDepth 100000 in
theorem basic_Pad.calls (a0 a1 : Int) (r : ByteArray) (w : World) (h : basic_Pad.f a0 a1 = some r) :
  Calls Tryd.prog 30 #[.int .i64 a0,.int .i64 a1] w fun e w' => e = .returned (.string r) ∧ Below w.heap.size w w':=by
 unfold basic_Pad.f at h
 obtain ⟨s,h1,h⟩:=Option.bind_eq_some_iff.mp h
 have hs:=itoa_size21 h1
 have H1:=Lib.hid h1
 clear h1
 by_cases hn : a0 < 0
 ·rw [if_pos hn] at h
  obtain rfl:=Option.some.inj h
  have hd : decide (a0 < 0) = true:=by simpa using hn
  go_enter Tryd.func30,Tryd.ntmps30
  go_wp2_with (go_at_call 60;refine (basic_Itoa.calls a0 s _ H1.out).mono ?_;rintro e w1 ⟨rfl,hb⟩)
  go_ret
  exact ⟨rfl,hb⟩
 ·rw [if_neg hn] at h
  obtain rfl:=Option.some.inj h
  have hd : decide (a0 < 0) = false:=by simpa using hn
  obtain ⟨hw1,hw2⟩:=padN_bd a1 s.size
  obtain ⟨m,hm⟩ : ∃ m : Nat,padN a1 s.size = m:=⟨(padN a1 s.size).toNat,by omega⟩
  have hrep:=repeat_pad m (by omega)
  have hsz : (⟨(List.replicate m 48).toArray⟩ : ByteArray).size = m:=by simp [ByteArray.size]
  have hfin : padB s a1 = (⟨(List.replicate m 48).toArray⟩ : ByteArray) ++ s:=by unfold padB;rw [hm,Int.toNat_natCast]
  rw [← hm] at hrep
  generalize (⟨(List.replicate m 48).toArray⟩ : ByteArray) = t at hrep hsz hfin
  have hcat : t.size + s.size ≤ 9223372036854775807:=by omega
  have HR : Hid (strings_Repeat.f ⟨#[48]⟩ (max 0 (min (max a1 1) 100 - (s.size : Int))) = some t):=Lib.hid hrep
  have HF:=Lib.hid hfin
  clear hm hsz hrep hfin hw1 hw2
  go_enter Tryd.func30,Tryd.ntmps30
  go_wp2_with (first|(go_at_call 60;refine (basic_Itoa.calls a0 s _ H1.out).mono ?_;rintro e w1 ⟨rfl,hb⟩)|(go_at_call 71;refine (strings_Repeat.calls _ _ t _ HR.out).mono ?_;rintro e w2 ⟨rfl,hb2⟩))
  go_ret
  exact ⟨ret_str HF.out.symm,below_step hb hb2⟩
end Go.Proofs.YtedfgkjimnjdpaaDoor.X
namespace Go.Proofs.YtedfgkjimnjdpaaDoor.X
open Go.RowKit Go.Proofs.YtedfgkjimnjdpaaDoorW.PrintWords Go.Proofs.YtedfgkjimnjdpaaDoorW.PrintLast Go.Proofs.YtedfgkjimnjdpaaDoorW.PrintMore
attribute [local go_sem] max2_int min2_int max_two min_two max_three min_three max_four min_four
set_option linter.unusedVariables false
set_option linter.unusedSimpArgs false
def ticket_Sequence.f (a0 : Int) : Option (ByteArray):=(basic_Pad.f a0 20).bind fun t101 => (some t101)
set_option maxHeartbeats 8000000 in
set_option maxRecDepth 100000 in
theorem ticket_Sequence.calls (a0 : Int) (r : ByteArray) (w : World) (h : ticket_Sequence.f a0 = some r) :
  Calls Tryd.prog 10 #[.int .i64 a0] w fun e w' => e = .returned (.string r) ∧ Below w.heap.size w w':=by
 have HB:=Aside0.mk (Below.refl w.heap.size w)
 have H : ((basic_Pad.f a0 20).bind fun t101 => (some t101)) = some r:=h
 clear h
 replace H:=Option.bind_eq_some_iff.mp H
 obtain ⟨t101,A20,H⟩:=H
 replace H : (some t101) = some r:=H
 have A2:=Aside0.mk A20
 clear A20
 obtain rfl:=Option.some.inj H
 go_enter Tryd.func10,Tryd.ntmps10
 go_wp2_with (first|((with_reducible refine gate_callee (f:=30) rfl ?_);refine goesL_ (some 4) rfl rfl Tryd.func30 (by kernel_rfl) rfl #[.int .i64 a0,.int .i64 20] rfl (by (try simp only [List.map_toArray,List.map_cons,List.map_nil]);first|done|rfl|(simp only [List.length_drop,List.length_take];rfl)) ?_;(with_reducible refine (basic_Pad.calls a0 20 t101 _ A2.out).mono ?_);rintro e w3 ⟨rfl,hb⟩;refine ⟨_,rfl,?_⟩;have n0_:=Aside0.mk (below_step (by repeat (first|(with_reducible first|exact HB.out|apply below_alloc|apply pw_below_drewN|apply below_drew1)|exact HB.out)) hb);clear HB;have HB:=n0_;clear n0_;(try clear hb);(try clear hb2);(try clear hk);(try clear hi)))
 go_ret
 exact ⟨by first|rfl|(simp [errW_none,errW_some] <;> rfl)|(simp [*,errW_none,errW_some] <;> rfl),by repeat (first|(with_reducible first|exact HB.out|apply below_alloc|apply pw_below_drewN|apply below_drew1)|exact HB.out)⟩
end Go.Proofs.YtedfgkjimnjdpaaDoor.X
namespace Go.Proofs.YtedfgkjimnjdpaaDoor.X
open Go.RowKit Go.Proofs.YtedfgkjimnjdpaaDoorW.PrintWords Go.Proofs.YtedfgkjimnjdpaaDoorW.PrintMore
set_option linter.unusedVariables false
set_option linter.unusedSimpArgs false
theorem w64 {x : Int} (h0 : -9223372036854775808 ≤ x) (h1 : x ≤ 9223372036854775807) : wrap64 x = x:=by unfold wrap64;omega
theorem bt_range (s : ByteArray) (i : Int) : 0 ≤ bt s i ∧ bt s i < 256:=by
 unfold bt
 split
 ·rename_i h
  have:=(s[i.toNat]'h).toNat_lt
  omega
 ·omega
theorem q_bt (s : ByteArray) (i : Nat) (h : i < s.size) : bt s (i : Int) = ((s[i]'h).toNat : Int):=by
 unfold bt
 simp only [Int.toNat_natCast]
 rw [dif_pos h]
def allD (p : Int → Bool) (s : ByteArray) : Nat → Nat → Bool
 | 0,_ => true
 | d + 1,i => p (bt s (i : Int)) && allD p s d (i + 1)
theorem allD_congr {p q : Int → Bool} (h : ∀ c : Int,0 ≤ c → c < 256 → p c = q c) (s : ByteArray) (d : Nat) : ∀ i,allD p s d i = allD q s d i:=by
 induction d with
 | zero => intro i;rfl
 | succ d ih => intro i;have:=bt_range s (i : Int);simp only [allD];rw [ih,h _ this.1 this.2]
theorem allD_prefix {p : Int → Bool} {s t : ByteArray} (d : Nat) : ∀ i,(∀ j,i ≤ j → j < i + d → bt s (j : Int) = bt t (j : Int)) → allD p s d i = allD p t d i:=by
 induction d with
 | zero => intro i _;rfl
 | succ d ih => intro i h;simp only [allD];rw [ih (i + 1) (fun j h1 h2 => h j (by omega) (by omega)),h i (by omega) (by omega)]
theorem byte_eq {p q : Int → Bool} (h : ∀ n : Fin 256,p (n.val : Int) = q (n.val : Int)) (c : Int) (h0 : 0 ≤ c) (h1 : c < 256) : p c = q c:=by
 obtain ⟨n,rfl⟩:=Int.eq_ofNat_of_zero_le h0
 exact h ⟨n,by omega⟩
theorem size_append (a b : ByteArray) : (a ++ b).size = a.size + b.size:=by simp
theorem mn_le_left (a b : Int) : mn a b ≤ a:=by unfold mn;split <;> omega
theorem mn_le_right (a b : Int) : mn a b ≤ b:=by unfold mn;split <;> omega
theorem mn_cases (a b : Int) : mn a b = a ∨ mn a b = b:=by unfold mn;split <;> simp
end Go.Proofs.YtedfgkjimnjdpaaDoor.X
namespace Go.Proofs.YtedfgkjimnjdpaaDoor.X
open Go.RowKit Go.Proofs.YtedfgkjimnjdpaaDoorW.PrintWords Go.Proofs.YtedfgkjimnjdpaaDoorW.PrintMore
set_option linter.unusedVariables false
set_option linter.unusedSimpArgs false
def digVal : Nat → List UInt8 → Option Nat
 | u,[] => some u
 | u,c :: l => if 48 ≤ c.toNat ∧ c.toNat ≤ 57 then digVal (10 * u + (c.toNat - 48)) l else none
def atoiT (m : Bool) (t : List UInt8) : Int × Int :=
 if t = [] ∨ 19 < t.length ∨ (t.headD 0 = 48 ∧ (1 < t.length ∨ m = true)) then (0,5)
 else match digVal 0 t with
  | none => (0,5)
  | some u => if m = true then (if u ≤ 9223372036854775808 then (-(u : Int),0) else (0,5)) else (if u ≤ 9223372036854775807 then ((u : Int),0) else (0,5))
def atoiB (s : ByteArray) : Int × Int:=atoiT (Lib.hasPrefix s.data.toList [45]) (Lib.trimPrefix s.data.toList [45])
theorem digVal_snoc (c : UInt8) : ∀ (l : List UInt8) (u : Nat),digVal u (l ++ [c]) = (digVal u l).bind fun v => if 48 ≤ c.toNat ∧ c.toNat ≤ 57 then some (10 * v + (c.toNat - 48)) else none
 | [],u => by simp [digVal]
 | d :: l,u => by
  simp only [List.cons_append,digVal]
  split
  ·exact digVal_snoc c l _
  ·rfl
theorem digVal_append (l2 : List UInt8) : ∀ (l : List UInt8) (u : Nat),digVal u (l ++ l2) = (digVal u l).bind fun v => digVal v l2
 | [],u => by simp [digVal]
 | d :: l,u => by
  simp only [List.cons_append,digVal]
  split
  ·exact digVal_append l2 l _
  ·rfl
theorem digVal_lt : ∀ (l : List UInt8) (u v : Nat),digVal u l = some v → v < (u + 1) * 10 ^ l.length
 | [],u,v,h => by simp [digVal] at h;subst h;simp
 | c :: l,u,v,h => by
  simp only [digVal] at h
  split at h
  ·rename_i hc
   have:=digVal_lt l _ v h
   simp only [List.length_cons,Nat.pow_succ]
   have h2 : (10 * u + (c.toNat - 48) + 1) * 10 ^ l.length ≤ (u + 1) * (10 ^ l.length * 10):=by
    rw [Nat.mul_comm (10 ^ l.length) 10,← Nat.mul_assoc]
    exact Nat.mul_le_mul_right _ (by omega)
   omega
  ·exact absurd h (by simp)
theorem take_succ_bytes (t : ByteArray) (k : Nat) (h : k < t.size) : t.data.toList.take (k + 1) = t.data.toList.take k ++ [t[k]'h]:=by
 rw [List.take_succ_eq_append_getElem (by simpa using h)];rfl
theorem digVal_stop (t : ByteArray) (k : Nat) (h : k < t.size) (hc : ¬ (48 ≤ (t[k]'h).toNat ∧ (t[k]'h).toNat ≤ 57)) : digVal 0 t.data.toList = none:=by
 have e : t.data.toList = t.data.toList.take k ++ (t[k]'h :: t.data.toList.drop (k + 1)):=by
  have h' : k < t.data.toList.length:=by simpa using h
  have h2:=List.drop_eq_getElem_cons h'
  have h3 : t.data.toList[k]'h' = t[k]'h:=rfl
  rw [h3] at h2
  rw [← h2,List.take_append_drop]
 rw [e,digVal_append]
 cases digVal 0 (t.data.toList.take k) with
 | none => rfl
 | some v => simp only [Option.bind_some,digVal];rw [if_neg hc]
theorem toList_ne (t : ByteArray) (h1 : 0 < t.size) : t.toList.isEmpty = false:=by
 have h : t.toList = t.data.toList:=ByteArray.toList_eq t
 rw [h]
 have : t.data.toList.length = t.size:=by simp
 cases h2 : t.data.toList with
 | nil => rw [h2] at this;simp at this;omega
 | cons a b => rfl
theorem atoi_not (t : ByteArray) (m : Bool) (h1 : 0 < t.size) (h2 : t.size ≤ 19) (h3 : ((t[0]'h1).toNat : Int) ≠ 48) :
  ¬ (t.data.toList = [] ∨ 19 < t.data.toList.length ∨ (t.data.toList.headD 0 = 48 ∧ (1 < t.data.toList.length ∨ m = true))):=by
 have hl : t.data.toList.length = t.size:=by simp
 rintro (h|h|⟨h,_⟩)
 ·rw [h] at hl;simp at hl;omega
 ·omega
 ·apply h3
  have e : t.data.toList.headD 0 = t[0]'h1:=by
   rw [List.headD_eq_head?_getD,List.head?_eq_getElem?,List.getElem?_eq_getElem (by omega)]
   rfl
  rw [← e,h]
  rfl
theorem trim_less (s : ByteArray) : decide ((Lib.trimPrefix s.data.toList [45]).length < s.size) = Lib.hasPrefix s.data.toList [45]:=by
 have hl : s.data.toList.length = s.size:=by simp
 unfold Lib.trimPrefix
 split
 ·rename_i h
  rw [h,decide_eq_true_iff]
  simp only [List.length_drop,List.length_cons,List.length_nil]
  have : 0 < s.data.toList.length:=by
   cases hd : s.data.toList with
   | nil => rw [hd] at h;simp [Lib.hasPrefix] at h
   | cons a b => simp
  omega
 ·rename_i h
  rw [Bool.not_eq_true] at h
  rw [h,decide_eq_false_iff_not]
  omega
end Go.Proofs.YtedfgkjimnjdpaaDoor.X
namespace Go.Proofs.YtedfgkjimnjdpaaDoor.X
open Go.RowKit Go.Proofs.YtedfgkjimnjdpaaDoorW.PrintWords
set_option linter.unusedVariables false
set_option linter.unusedSimpArgs false
theorem ret_two {a b : Int × Int} (h : a = b) : Ending.returned (.tuple #[.int .i64 a.1,.int .i64 a.2]) = .returned (.tuple #[.int .i64 b.1,.int .i64 b.2]):=by rw [h]
set_option maxHeartbeats 2000000 in
set_option maxRecDepth 100000 in
theorem atoi_loop (s t : ByteArray) (m : Bool) (w : World) (ht : (⟨(Lib.trimPrefix s.data.toList [45]).toArray⟩ : ByteArray) = t) (hm : decide (t.size < s.size) = m)
  (h1 : 0 < t.size) (h2 : t.size ≤ 19) (h3 : ((t[0]'h1).toNat : Int) ≠ 48) :
  Calls Tryd.prog 29 #[.string s] w fun e w' => e = .returned (.tuple #[.int .i64 (atoiT m t.data.toList).1,.int .i64 (atoiT m t.data.toList).2]) ∧ w' = w:=by
 have HT:=Lib.hid ht
 clear ht
 have e1 : t.toList.isEmpty = false:=toList_ne t h1
 have hnil : ¬ (t.data.toList = [] ∨ 19 < t.data.toList.length ∨ (t.data.toList.headD 0 = 48 ∧ (1 < t.data.toList.length ∨ m = true))):=atoi_not t m h1 h2 h3
 have hAt : ∀ v,digVal 0 t.data.toList = v → atoiT m t.data.toList = match v with|none => (0,5)|some u => if m = true then (if u ≤ 9223372036854775808 then (-(u : Int),0) else (0,5)) else (if u ≤ 9223372036854775807 then ((u : Int),0) else (0,5)):=by
  intro v hv;subst hv;unfold atoiT;rw [if_neg hnil] <;> rfl
 have HA:=Lib.hid hAt
 clear hnil hAt
 have e3 : (((t[0]'h1).toNat : Int) == 48) = false:=by simpa using h3
 go_enter Tryd.func29,Tryd.ntmps29
 go_wp2_with (go_at_call 70;refine (Tryd.strings_TrimPrefix _ _ _).mono ?_;rintro e w1 ⟨rfl,rfl⟩;simp only [HT.out])
 go_loop [6,37] (fun x i => ∃ k u : Nat,k ≤ t.size ∧ x = .int .u64 u ∧ i = .int .i64 k ∧ Hid (digVal 0 (t.data.toList.take k) = some u)) (fun _ i => t.size - (intOf i).toNat)
 case atStart => exact ⟨0,0,Nat.zero_le _,rfl,rfl,Lib.hid rfl⟩
 case round =>
  obtain ⟨k,u,hk,rfl,rfl,hu⟩:=hrel
  by_cases hlt : k < t.size
  ·have hb : (u : Int) ≤ 1000000000000000000:=by
    have:=digVal_lt _ _ _ hu.out
    have hl : (t.data.toList.take k).length = k:=by rw [List.length_take,Array.length_toList];have : k < t.data.size:=hlt;omega
    rw [hl] at this
    have h18 : 10 ^ k ≤ 10 ^ 18:=Nat.pow_le_pow_right (by omega) (by omega)
    have : (10 : Nat) ^ 18 = 1000000000000000000:=by decide
    omega
   have hu0 : (0 : Int) ≤ (u : Int):=by omega
   have hc1 : (0 : Int) ≤ ((t[k]'hlt).toNat : Int):=by omega
   have hc2 : ((t[k]'hlt).toNat : Int) ≤ 255:=by have:=(t[k]'hlt).toNat_lt;omega
   have hts:=Lib.hid (take_succ_bytes t k hlt)
   have hsn:=Lib.hid (digVal_snoc (t[k]'hlt) (t.data.toList.take k) 0)
   have hdr:=Lib.hid (digVal_stop t k hlt)
   by_cases hd1 : ((t[k]'hlt).toNat : Int) < 48
   ·have hq1 : decide (((t[k]'hlt).toNat : Int) < 48) = true:=decide_eq_true hd1
    go_wp2
    go_ret2
    exact ⟨ret_two (a:=(0,5)) (HA.out _ (hdr.out (by omega))).symm,rfl⟩
   ·have hq1 : decide (((t[k]'hlt).toNat : Int) < 48) = false:=decide_eq_false hd1
    by_cases hd2 : (57 : Int) < ((t[k]'hlt).toNat : Int)
    ·have hq2 : decide ((57 : Int) < ((t[k]'hlt).toNat : Int)) = true:=decide_eq_true hd2
     go_wp2
     go_ret2
     exact ⟨ret_two (a:=(0,5)) (HA.out _ (hdr.out (by omega))).symm,rfl⟩
    ·have hq2 : decide ((57 : Int) < ((t[k]'hlt).toNat : Int)) = false:=decide_eq_false hd2
     go_wp2
     refine ⟨⟨k + 1,10 * u + ((t[k]'hlt).toNat - 48),by omega,?_,by go_num,Lib.hid ?_⟩,by simp [intOf];omega⟩
     ·rw [show ((10 * u + ((t[k]'hlt).toNat - 48) : Nat) : Int) = 10 * (u : Int) + (((t[k]'hlt).toNat : Int) - 48) by omega]
     ·rw [hts.out,hsn.out,hu.out,Option.bind_some,if_pos (by omega)]
  ·have hke : k = t.size:=by omega
   subst hke
   have hdv : digVal 0 t.data.toList = some u:=by have:=hu.out;rwa [List.take_of_length_le (by simp)] at this
   have HD:=Lib.hid (HA.out _ hdv)
   clear hdv hu
   cases m with
   | true =>
    by_cases hb : u ≤ 9223372036854775808
    ·have hq : decide ((u : Int) ≤ 9223372036854775808) = true:=by simp;omega
     have hw : IntKind.i64.wrap (IntKind.u64.wrap (-(u : Int))) = -(u : Int):=by unfold IntKind.wrap;simp [IntKind.signed,IntKind.bits];omega
     go_wp2
     go_ret2
     exact ⟨ret_two (a:=(-(u : Int),0)) (by rw [HD.out];simp only [if_true,if_pos hb]),rfl⟩
    ·have hq : decide ((u : Int) ≤ 9223372036854775808) = false:=by simp;omega
     go_wp2
     go_ret2
     exact ⟨ret_two (a:=(0,5)) (by rw [HD.out];simp only [if_true,if_neg hb]),rfl⟩
   | false =>
    by_cases hb : u ≤ 9223372036854775807
    ·have hq : decide ((u : Int) ≤ 9223372036854775807) = true:=by simp;omega
     go_wp2
     go_ret2
     exact ⟨ret_two (a:=((u : Int),0)) (by rw [HD.out];simp only [if_false,Bool.false_eq_true,if_pos hb]),rfl⟩
    ·have hq : decide ((u : Int) ≤ 9223372036854775807) = false:=by simp;omega
     go_wp2
     go_ret2
     exact ⟨ret_two (a:=(0,5)) (by rw [HD.out];simp only [if_false,Bool.false_eq_true,if_neg hb]),rfl⟩
set_option maxHeartbeats 2000000 in
set_option maxRecDepth 100000 in
theorem atoi_none (s t : ByteArray) (w : World) (ht : (⟨(Lib.trimPrefix s.data.toList [45]).toArray⟩ : ByteArray) = t) (h : t.size = 0) :
  Calls Tryd.prog 29 #[.string s] w fun e w' => e = .returned (.tuple #[.int .i64 0,.int .i64 5]) ∧ w' = w:=by
 have HT:=Lib.hid ht
 clear ht
 have e1 : t.toList.isEmpty = true:=by
  have : t.toList = t.data.toList:=ByteArray.toList_eq t
  rw [this,List.isEmpty_iff,← List.length_eq_zero_iff];simpa using h
 clear h
 go_enter Tryd.func29,Tryd.ntmps29
 go_wp2_with (go_at_call 70;refine (Tryd.strings_TrimPrefix _ _ _).mono ?_;rintro e w1 ⟨rfl,rfl⟩;simp only [HT.out])
 go_ret2
 exact ⟨rfl,rfl⟩
set_option maxHeartbeats 2000000 in
set_option maxRecDepth 100000 in
theorem atoi_long (s t : ByteArray) (w : World) (ht : (⟨(Lib.trimPrefix s.data.toList [45]).toArray⟩ : ByteArray) = t) (h1 : 0 < t.size) (h2 : (19 : Int) < t.size) :
  Calls Tryd.prog 29 #[.string s] w fun e w' => e = .returned (.tuple #[.int .i64 0,.int .i64 5]) ∧ w' = w:=by
 have HT:=Lib.hid ht
 clear ht
 have e1 : t.toList.isEmpty = false:=toList_ne t h1
 have e2 : decide ((19 : Int) < (t.size : Int)) = true:=decide_eq_true h2
 go_enter Tryd.func29,Tryd.ntmps29
 go_wp2_with (go_at_call 70;refine (Tryd.strings_TrimPrefix _ _ _).mono ?_;rintro e w1 ⟨rfl,rfl⟩;simp only [HT.out])
 go_ret2
 exact ⟨rfl,rfl⟩
set_option maxHeartbeats 2000000 in
set_option maxRecDepth 100000 in
theorem atoi_nought (s t : ByteArray) (m : Bool) (w : World) (ht : (⟨(Lib.trimPrefix s.data.toList [45]).toArray⟩ : ByteArray) = t) (hm : decide (t.size < s.size) = m)
  (h1 : 0 < t.size) (h2 : t.size ≤ 19) (h3 : ((t[0]'h1).toNat : Int) = 48) (h4 : 1 < t.size ∨ m = true) :
  Calls Tryd.prog 29 #[.string s] w fun e w' => e = .returned (.tuple #[.int .i64 0,.int .i64 5]) ∧ w' = w:=by
 have HT:=Lib.hid ht
 clear ht
 have e1 : t.toList.isEmpty = false:=toList_ne t h1
 have e3 : (((t[0]'h1).toNat : Int) == 48) = true:=by rw [beq_iff_eq];exact h3
 by_cases h5 : 1 < t.size
 ·have e5 : decide ((1 : Int) < (t.size : Int)) = true:=by simp;omega
  have e6 : decide (1 < t.size) = true:=by simp;omega
  clear h4 h3
  go_enter Tryd.func29,Tryd.ntmps29
  go_wp2_with (go_at_call 70;refine (Tryd.strings_TrimPrefix _ _ _).mono ?_;rintro e w1 ⟨rfl,rfl⟩;simp only [HT.out])
  go_ret2
  exact ⟨rfl,rfl⟩
 ·obtain rfl:=h4.resolve_left h5
  have e5 : decide ((1 : Int) < (t.size : Int)) = false:=by simp;omega
  have e6 : decide (1 < t.size) = false:=by simp;omega
  clear h4 h3
  go_enter Tryd.func29,Tryd.ntmps29
  go_wp2_with (go_at_call 70;refine (Tryd.strings_TrimPrefix _ _ _).mono ?_;rintro e w1 ⟨rfl,rfl⟩;simp only [HT.out])
  go_ret2
  exact ⟨rfl,rfl⟩
set_option maxHeartbeats 2000000 in
set_option maxRecDepth 100000 in
theorem atoi_zero (s t : ByteArray) (w : World) (ht : (⟨(Lib.trimPrefix s.data.toList [45]).toArray⟩ : ByteArray) = t) (hm : decide (t.size < s.size) = false)
  (h1 : 0 < t.size) (h2 : t.size = 1) (h3 : ((t[0]'h1).toNat : Int) = 48) :
  Calls Tryd.prog 29 #[.string s] w fun e w' => e = .returned (.tuple #[.int .i64 0,.int .i64 0]) ∧ w' = w:=by
 obtain rfl : t = ⟨#[48]⟩:=by
  obtain ⟨⟨l⟩⟩:=t
  match l,h2 with
  | [c],_ =>
   have : c.toNat = 48:=by have : (c.toNat : Int) = 48:=h3;omega
   have : c = 48:=by apply UInt8.toNat.inj;exact this
   subst this
   rfl
 clear h1 h2 h3
 have HT:=Lib.hid ht
 clear ht
 have hm0 : ¬ (1 < s.size):=of_decide_eq_false hm
 have hm1 : decide (1 < s.size) = false:=hm
 have hm2 : decide ((1 : Int) < (s.size : Int)) = false:=by simp;omega
 clear hm hm0
 go_enter Tryd.func29,Tryd.ntmps29
 go_wp2_with (go_at_call 70;refine (Tryd.strings_TrimPrefix _ _ _).mono ?_;rintro e w1 ⟨rfl,rfl⟩;simp only [HT.out])
 refine wp_loop_rounds 2 ?_
 rw [rounds_succ]
 go_wp2
 rw [rounds_succ]
 go_wp2
 go_ret2
 exact ⟨rfl,rfl⟩
def basic_Atoi.f (s : ByteArray) : Option (Int × Int):=some (atoiB s)
theorem basic_Atoi.calls (a0 : ByteArray) (r1 r2 : Int) (w : World) (h : basic_Atoi.f a0 = some (r1,r2)) :
  Calls Tryd.prog 29 #[.string a0] w fun e w' => e = .returned (.tuple #[.int .i64 r1,.int .i64 r2]) ∧ Drawn0 w w':=by
 have h' : atoiB a0 = (r1,r2):=Option.some.inj h
 clear h
 have key : Calls Tryd.prog 29 #[.string a0] w fun e w' => e = .returned (.tuple #[.int .i64 (atoiB a0).1,.int .i64 (atoiB a0).2]) ∧ w' = w:=by
  obtain ⟨t,ht⟩ : ∃ t : ByteArray,(⟨(Lib.trimPrefix a0.data.toList [45]).toArray⟩ : ByteArray) = t:=⟨_,rfl⟩
  have htd : t.data.toList = Lib.trimPrefix a0.data.toList [45]:=by rw [← ht]
  have hts : t.size = (Lib.trimPrefix a0.data.toList [45]).length:=by rw [← htd];simp
  have hm : decide (t.size < a0.size) = Lib.hasPrefix a0.data.toList [45]:=by rw [hts];exact trim_less a0
  have hl : t.data.toList.length = t.size:=by simp
  by_cases h0 : t.size = 0
  ·have : atoiB a0 = (0,5):=by
    unfold atoiB atoiT
    rw [if_pos (.inl (by rw [← htd];exact List.length_eq_zero_iff.mp (by omega)))]
   rw [this]
   exact atoi_none a0 t w ht h0
  ·by_cases h19 : (19 : Int) < t.size
   ·have : atoiB a0 = (0,5):=by
     unfold atoiB atoiT
     rw [if_pos (.inr (.inl (by rw [← htd];omega)))]
    rw [this]
    exact atoi_long a0 t w ht (by omega) h19
   ·by_cases h48 : ((t[0]'(by omega)).toNat : Int) = 48
    ·have hhead : t.data.toList.headD 0 = 48:=by
      have e : t.data.toList.headD 0 = t[0]'(by omega):=by
       rw [List.headD_eq_head?_getD,List.head?_eq_getElem?,List.getElem?_eq_getElem (by omega)]
       rfl
      rw [e]
      apply UInt8.toNat.inj
      show (t[0]'(by omega)).toNat = 48
      omega
     by_cases h4 : 1 < t.size ∨ Lib.hasPrefix a0.data.toList [45] = true
     ·have : atoiB a0 = (0,5):=by
       unfold atoiB atoiT
       rw [if_pos (.inr (.inr ⟨by rw [← htd];exact hhead,by rw [← htd,hl];exact h4⟩))]
      rw [this]
      exact atoi_nought a0 t _ w ht hm (by omega) (by omega) h48 h4
     ·have hone : t.size = 1:=by omega
      have hz : atoiB a0 = (0,0):=by
       unfold atoiB atoiT
       rw [← htd]
       have hneg : ¬ (t.data.toList = [] ∨ 19 < t.data.toList.length ∨ (t.data.toList.headD 0 = 48 ∧ (1 < t.data.toList.length ∨ Lib.hasPrefix a0.data.toList [45] = true))):=by
        rw [hl]
        rintro (e|e|⟨_,e⟩)
        ·rw [e] at hl
         simp at hl
         omega
        ·omega
        ·exact h4 e
       rw [if_neg hneg]
       match hd : t.data.toList,hl with
       | [c],_ =>
        rw [hd] at hhead
        simp at hhead
        subst hhead
        have : Lib.hasPrefix a0.data.toList [45] = false:=by cases hh : Lib.hasPrefix a0.data.toList [45] <;> simp_all
        rw [this]
        decide
       | [],e => rw [hone] at e;simp at e
       | _ :: _ :: _,e => rw [hone] at e;simp at e
      rw [hz]
      exact atoi_zero a0 t w ht (by rw [hm];cases hh : Lib.hasPrefix a0.data.toList [45] <;> simp_all) (by omega) hone h48
    ·have:=atoi_loop a0 t _ w ht hm (by omega) (by omega) h48
     rw [htd] at this
     exact this
 rw [h'] at key
 refine key.mono ?_
 rintro e w' ⟨rfl,rfl⟩
 exact ⟨rfl,Drawn0.refl _⟩
end Go.Proofs.YtedfgkjimnjdpaaDoor.X
namespace Go.Proofs.YtedfgkjimnjdpaaDoor.X
open Go.RowKit Go.Proofs.YtedfgkjimnjdpaaDoorW.PrintWords
set_option linter.unusedVariables false
def GlobMax (w : World) : Prop:=4 < w.heap.size ∧ ∃ m,w.cell? ⟨4,0,none⟩ = some (.int .i64 m)
theorem GlobMax.below {w w' : World} (h : GlobMax w) (hb : Below w.heap.size w w') : GlobMax w':=by
 obtain ⟨h1,m,h2⟩:=h
 exact ⟨Nat.lt_of_lt_of_le h1 hb.size,m,(hb.cell (p:=⟨4,0,none⟩) h1).trans h2⟩
theorem GlobMax.of {w : World} (h : ∃ m,w.cell? ⟨4,0,none⟩ = some (.int .i64 m)) : GlobMax w:=by
 refine ⟨?_,h⟩
 obtain ⟨m,hm⟩:=h
 unfold World.cell? at hm
 split at hm
 ·rename_i hh
  exact (Array.getElem?_eq_some_iff.mp hh).1
 ·cases hm
theorem GlobMax.drawn {w w' : World} (h : GlobMax w) (hb : Drawn0 w w') : GlobMax w':=by
 obtain ⟨n,rfl⟩:=hb.out
 exact h
def roundsL : List Int:=[0x428a2f98,0x71374491,0xb5c0fbcf,0xe9b5dba5,0x3956c25b,0x59f111f1,0x923f82a4,0xab1c5ed5,0xd807aa98,0x12835b01,0x243185be,0x550c7dc3,0x72be5d74,0x80deb1fe,0x9bdc06a7,0xc19bf174,0xe49b69c1,0xefbe4786,0x0fc19dc6,0x240ca1cc,0x2de92c6f,0x4a7484aa,0x5cb0a9dc,0x76f988da,0x983e5152,0xa831c66d,0xb00327c8,0xbf597fc7,0xc6e00bf3,0xd5a79147,0x06ca6351,0x14292967,0x27b70a85,0x2e1b2138,0x4d2c6dfc,0x53380d13,0x650a7354,0x766a0abb,0x81c2c92e,0x92722c85,0xa2bfe8a1,0xa81a664b,0xc24b8b70,0xc76c51a3,0xd192e819,0xd6990624,0xf40e3585,0x106aa070,0x19a4c116,0x1e376c08,0x2748774c,0x34b0bcb5,0x391c0cb3,0x4ed8aa4a,0x5b9cca4f,0x682e6ff3,0x748f82ee,0x78a5636f,0x84c87814,0x8cc70208,0x90befffa,0xa4506ceb,0xbef9a3f7,0xc67178f2]
def GlobDg (w : World) : Prop:=w.heap[1]? = some (.cells (nums .u32 roundsL).toArray 163 (0,0))
theorem GlobDg.below {w w' : World} (h : GlobDg w) (hb : Below w.heap.size w w') : GlobDg w':=(hb.block _ (Array.getElem?_eq_some_iff.mp h).1).trans h
theorem GlobDg.drawn {w w' : World} (h : GlobDg w) (hb : Drawn0 w w') : GlobDg w':=by
 obtain ⟨n,rfl⟩:=hb.out
 exact h
def halfL : List Int:=[0,498536548,997073096,651767980,1994146192,1802195444,1303535960,1342533948,3988292384,4027552580,3604390888,3412177804,2607071920,2262029012,2685067896,3183342108]
def GlobCr (w : World) : Prop:=w.heap[0]? = some (.cells (nums .u32 halfL).toArray 147 (0,0))
theorem GlobCr.below {w w' : World} (h : GlobCr w) (hb : Below w.heap.size w w') : GlobCr w':=(hb.block _ (Array.getElem?_eq_some_iff.mp h).1).trans h
theorem GlobCr.drawn {w w' : World} (h : GlobCr w) (hb : Drawn0 w w') : GlobCr w':=by
 obtain ⟨n,rfl⟩:=hb.out
 exact h
end Go.Proofs.YtedfgkjimnjdpaaDoor.X
namespace Go.Proofs.YtedfgkjimnjdpaaDoor.X
open Go.RowKit Go.Proofs.YtedfgkjimnjdpaaDoorW.PrintWords
set_option linter.unusedVariables false
set_option linter.unusedSimpArgs false
def strings_TrimLeft.f (s : ByteArray) (p : ByteArray) : Option ByteArray :=
 match p.data.toList with
 | [c] => if c.toNat < 128 then some ⟨(Lib.trimLeftB s.data.toList c).toArray⟩ else none
 | _ => none
theorem strings_TrimLeft.calls (a0 : ByteArray) (a1 : ByteArray) (r : ByteArray) (w : World) (h : strings_TrimLeft.f a0 a1 = some r) :
  Calls Tryd.prog 28 #[.string a0,.string a1] w fun e w' => e = .returned (.string r) ∧ Drawn0 w w':=by
 unfold strings_TrimLeft.f at h
 obtain ⟨⟨l⟩⟩:=a1
 simp only at h
 split at h
 ·rename_i c
  split at h
  ·rename_i hc
   obtain rfl:=Option.some.inj h
   refine (Tryd.strings_TrimLeft_one a0 c hc w).mono ?_
   rintro e w' ⟨rfl,rfl⟩
   exact ⟨rfl,Drawn0.refl _⟩
  ·exact absurd h (by simp)
 ·exact absurd h (by simp)
end Go.Proofs.YtedfgkjimnjdpaaDoor.X
namespace Go.Proofs.YtedfgkjimnjdpaaDoor.X
open Go.RowKit Go.Proofs.YtedfgkjimnjdpaaDoorW.PrintWords Go.Proofs.YtedfgkjimnjdpaaDoorW.PrintLast Go.Proofs.YtedfgkjimnjdpaaDoorW.PrintMore
attribute [local go_sem] max2_int min2_int max_two min_two max_three min_three max_four min_four
set_option linter.unusedVariables false
set_option linter.unusedSimpArgs false
def ticket_Unsequence.f (a0 : ByteArray) : Option (Int × Int):=if (a0.size : Int) = 20 then (if 0 ≤ 19 then (if 19 ≤ (a0.size : Int) then ((strings_TrimLeft.f (a0.extract 0 19) (⟨#[48]⟩ : ByteArray)).bind fun t102 => (if t102.size + (a0.extract 19 a0.size).size ≤ 9223372036854775807 then ((basic_Atoi.f (t102 ++ (a0.extract 19 a0.size))).bind fun bt103 => (if bt103.2 = 0 then (if bt103.1 < 0 then (some (0,5)) else ((ticket_Sequence.f bt103.1).bind fun t105 => (if t105.toList = a0.toList then (some (bt103.1,0)) else (some (0,5))))) else (some (0,5)))) else (none))) else (none)) else (none)) else (some (0,5))
set_option maxHeartbeats 8000000 in
set_option maxRecDepth 100000 in
theorem ticket_Unsequence.calls (a0 : ByteArray) (r1 : Int) (r2 : Int) (w : World) (h : ticket_Unsequence.f a0 = some (r1,r2)) :
  Calls Tryd.prog 9 #[.string a0] w fun e w' => e = .returned (.tuple #[.int .i64 r1,.int .i64 r2]) ∧ Below w.heap.size w w':=by
 have HB:=Aside0.mk (Below.refl w.heap.size w)
 have H : (if (a0.size : Int) = 20 then (if 0 ≤ 19 then (if 19 ≤ (a0.size : Int) then ((strings_TrimLeft.f (a0.extract 0 19) (⟨#[48]⟩ : ByteArray)).bind fun t102 => (if t102.size + (a0.extract 19 a0.size).size ≤ 9223372036854775807 then ((basic_Atoi.f (t102 ++ (a0.extract 19 a0.size))).bind fun bt103 => (if bt103.2 = 0 then (if bt103.1 < 0 then (some (0,5)) else ((ticket_Sequence.f bt103.1).bind fun t105 => (if t105.toList = a0.toList then (some (bt103.1,0)) else (some (0,5))))) else (some (0,5)))) else (none))) else (none)) else (none)) else (some (0,5))) = some (r1,r2):=h
 clear h
 by_cases c2 : (a0.size : Int) = 20
 ·rw [if_pos c2] at H
  have c2b0 : ((a0.size : Int) == 20) = true:=beq_iff_eq.mpr c2
  have c2b1 : ((a0.size : Int) != 20) = false:=bne_eq_false_iff_eq.mpr c2
  clear c2
  by_cases c3 : 0 ≤ 19
  ·rw [if_pos c3] at H
   have c3b0:=eq_true c3
   have c3b1 : decide (0 ≤ 19) = true:=decide_eq_true c3
   clear c3
   by_cases c4 : 19 ≤ (a0.size : Int)
   ·rw [if_pos c4] at H
    have c4b0:=eq_true c4
    have c4b1 : decide (19 ≤ (a0.size : Int)) = true:=decide_eq_true c4
    clear c4
    replace H:=Option.bind_eq_some_iff.mp H
    obtain ⟨t102,A50,H⟩:=H
    replace H : (if t102.size + (a0.extract 19 a0.size).size ≤ 9223372036854775807 then ((basic_Atoi.f (t102 ++ (a0.extract 19 a0.size))).bind fun bt103 => (if bt103.2 = 0 then (if bt103.1 < 0 then (some (0,5)) else ((ticket_Sequence.f bt103.1).bind fun t105 => (if t105.toList = a0.toList then (some (bt103.1,0)) else (some (0,5))))) else (some (0,5)))) else (none)) = some (r1,r2):=H
    have A5:=Aside0.mk A50
    clear A50
    have c6b0:=eq_true (of_decide_eq_true (by first|(with_reducible assumption)|assumption) : 19 ≤ (a0.size : Int))
    by_cases c7 : t102.size + (a0.extract 19 a0.size).size ≤ 9223372036854775807
    ·rw [if_pos c7] at H
     have c7b0:=eq_true c7
     have c7b1 : decide (t102.size + (a0.extract 19 a0.size).size ≤ 9223372036854775807) = true:=decide_eq_true c7
     try have c7b2 : (9223372036854775807 < t102.size + (a0.extract 19 a0.size).size) = False:=eq_false (Nat.not_lt.2 c7)
     replace H:=Option.bind_eq_some_iff.mp H
     obtain ⟨⟨t103,t104⟩,A80,H⟩:=H
     replace H : (if t104 = 0 then (if t103 < 0 then (some (0,5)) else ((ticket_Sequence.f t103).bind fun t105 => (if t105.toList = a0.toList then (some (t103,0)) else (some (0,5))))) else (some (0,5))) = some (r1,r2):=H
     have A8:=Aside0.mk A80
     clear A80
     by_cases c9 : t104 = 0
     ·rw [if_pos c9] at H
      have c9b0 : (t104 == 0) = true:=beq_iff_eq.mpr c9
      have c9b1 : (t104 != 0) = false:=bne_eq_false_iff_eq.mpr c9
      clear c9
      by_cases c10 : t103 < 0
      ·rw [if_pos c10] at H
       have c10b0 : decide (t103 < 0) = true:=decide_eq_true c10
       clear c10
       simp only [Option.some.injEq,Prod.mk.injEq] at H
       obtain ⟨rfl,rfl⟩:=H
       go_enter Tryd.func9,Tryd.ntmps9
       go_wp2_with (first|(go_at_call 28;(with_reducible refine (strings_TrimLeft.calls (a0.extract 0 19) (⟨#[48]⟩ : ByteArray) t102 _ A5.out).mono ?_);rintro e w' ⟨rfl,⟨nd,rfl⟩⟩;(try first|exact ⟨rfl,_,World.drewN_drewN _ _ _⟩|exact ⟨rfl,_,Eq.trans (World.drewN_drewN _ _ _) (congrArg (World.drewN _) (Nat.add_assoc _ _ _))⟩))|(go_at_call 29;(with_reducible refine (basic_Atoi.calls (t102 ++ (a0.extract 19 a0.size)) t103 t104 _ A8.out).mono ?_);rintro e w' ⟨rfl,⟨nd,rfl⟩⟩;(try first|exact ⟨rfl,_,World.drewN_drewN _ _ _⟩|exact ⟨rfl,_,Eq.trans (World.drewN_drewN _ _ _) (congrArg (World.drewN _) (Nat.add_assoc _ _ _))⟩)))
       repeat (go_quiet (first|(go_at_call 28;(with_reducible refine (strings_TrimLeft.calls (a0.extract 0 19) (⟨#[48]⟩ : ByteArray) t102 _ A5.out).mono ?_);rintro e w' ⟨rfl,⟨nd,rfl⟩⟩;(try first|exact ⟨rfl,_,World.drewN_drewN _ _ _⟩|exact ⟨rfl,_,Eq.trans (World.drewN_drewN _ _ _) (congrArg (World.drewN _) (Nat.add_assoc _ _ _))⟩))|(go_at_call 29;(with_reducible refine (basic_Atoi.calls (t102 ++ (a0.extract 19 a0.size)) t103 t104 _ A8.out).mono ?_);rintro e w' ⟨rfl,⟨nd,rfl⟩⟩;(try first|exact ⟨rfl,_,World.drewN_drewN _ _ _⟩|exact ⟨rfl,_,Eq.trans (World.drewN_drewN _ _ _) (congrArg (World.drewN _) (Nat.add_assoc _ _ _))⟩)));try go_wp2_with (first|(go_at_call 28;(with_reducible refine (strings_TrimLeft.calls (a0.extract 0 19) (⟨#[48]⟩ : ByteArray) t102 _ A5.out).mono ?_);rintro e w' ⟨rfl,⟨nd,rfl⟩⟩;(try first|exact ⟨rfl,_,World.drewN_drewN _ _ _⟩|exact ⟨rfl,_,Eq.trans (World.drewN_drewN _ _ _) (congrArg (World.drewN _) (Nat.add_assoc _ _ _))⟩))|(go_at_call 29;(with_reducible refine (basic_Atoi.calls (t102 ++ (a0.extract 19 a0.size)) t103 t104 _ A8.out).mono ?_);rintro e w' ⟨rfl,⟨nd,rfl⟩⟩;(try first|exact ⟨rfl,_,World.drewN_drewN _ _ _⟩|exact ⟨rfl,_,Eq.trans (World.drewN_drewN _ _ _) (congrArg (World.drewN _) (Nat.add_assoc _ _ _))⟩))))
       go_ret2
       exact ⟨by first|rfl|(simp [errW_none,errW_some] <;> rfl)|(simp [*,errW_none,errW_some] <;> rfl),by repeat (first|(with_reducible first|exact HB.out|apply below_alloc|apply pw_below_drewN|apply below_drew1)|exact HB.out)⟩
      ·rw [if_neg c10] at H
       have c10b0 : decide (t103 < 0) = false:=decide_eq_false c10
       clear c10
       replace H:=Option.bind_eq_some_iff.mp H
       obtain ⟨t105,A110,H⟩:=H
       replace H : (if t105.toList = a0.toList then (some (t103,0)) else (some (0,5))) = some (r1,r2):=H
       have A11:=Aside0.mk A110
       clear A110
       by_cases c12 : t105.toList = a0.toList
       ·rw [if_pos c12] at H
        have c12b0 : (t105.toList == a0.toList) = true:=beq_iff_eq.mpr c12
        have c12b1 : (t105.toList != a0.toList) = false:=bne_eq_false_iff_eq.mpr c12
        clear c12
        simp only [Option.some.injEq,Prod.mk.injEq] at H
        obtain ⟨rfl,rfl⟩:=H
        go_enter Tryd.func9,Tryd.ntmps9
        go_wp2_with (first|(go_at_call 28;(with_reducible refine (strings_TrimLeft.calls (a0.extract 0 19) (⟨#[48]⟩ : ByteArray) t102 _ A5.out).mono ?_);rintro e w' ⟨rfl,⟨nd,rfl⟩⟩;(try first|exact ⟨rfl,_,World.drewN_drewN _ _ _⟩|exact ⟨rfl,_,Eq.trans (World.drewN_drewN _ _ _) (congrArg (World.drewN _) (Nat.add_assoc _ _ _))⟩))|(go_at_call 29;(with_reducible refine (basic_Atoi.calls (t102 ++ (a0.extract 19 a0.size)) t103 t104 _ A8.out).mono ?_);rintro e w' ⟨rfl,⟨nd,rfl⟩⟩;(try first|exact ⟨rfl,_,World.drewN_drewN _ _ _⟩|exact ⟨rfl,_,Eq.trans (World.drewN_drewN _ _ _) (congrArg (World.drewN _) (Nat.add_assoc _ _ _))⟩))|(go_at_call 10;(with_reducible refine (ticket_Sequence.calls t103 t105 _ A11.out).mono ?_);rintro e w13 ⟨rfl,hb⟩;have n0_:=Aside0.mk (below_step (by repeat (first|(with_reducible first|exact HB.out|apply below_alloc|apply pw_below_drewN|apply below_drew1)|exact HB.out)) hb);clear HB;have HB:=n0_;clear n0_;(try clear hb);(try clear hb2);(try clear hk);(try clear hi)))
        repeat (go_quiet (first|(go_at_call 28;(with_reducible refine (strings_TrimLeft.calls (a0.extract 0 19) (⟨#[48]⟩ : ByteArray) t102 _ A5.out).mono ?_);rintro e w' ⟨rfl,⟨nd,rfl⟩⟩;(try first|exact ⟨rfl,_,World.drewN_drewN _ _ _⟩|exact ⟨rfl,_,Eq.trans (World.drewN_drewN _ _ _) (congrArg (World.drewN _) (Nat.add_assoc _ _ _))⟩))|(go_at_call 29;(with_reducible refine (basic_Atoi.calls (t102 ++ (a0.extract 19 a0.size)) t103 t104 _ A8.out).mono ?_);rintro e w' ⟨rfl,⟨nd,rfl⟩⟩;(try first|exact ⟨rfl,_,World.drewN_drewN _ _ _⟩|exact ⟨rfl,_,Eq.trans (World.drewN_drewN _ _ _) (congrArg (World.drewN _) (Nat.add_assoc _ _ _))⟩))|(go_at_call 10;(with_reducible refine (ticket_Sequence.calls t103 t105 _ A11.out).mono ?_);rintro e w13 ⟨rfl,hb⟩;have n0_:=Aside0.mk (below_step (by repeat (first|(with_reducible first|exact HB.out|apply below_alloc|apply pw_below_drewN|apply below_drew1)|exact HB.out)) hb);clear HB;have HB:=n0_;clear n0_;(try clear hb);(try clear hb2);(try clear hk);(try clear hi)));try go_wp2_with (first|(go_at_call 28;(with_reducible refine (strings_TrimLeft.calls (a0.extract 0 19) (⟨#[48]⟩ : ByteArray) t102 _ A5.out).mono ?_);rintro e w' ⟨rfl,⟨nd,rfl⟩⟩;(try first|exact ⟨rfl,_,World.drewN_drewN _ _ _⟩|exact ⟨rfl,_,Eq.trans (World.drewN_drewN _ _ _) (congrArg (World.drewN _) (Nat.add_assoc _ _ _))⟩))|(go_at_call 29;(with_reducible refine (basic_Atoi.calls (t102 ++ (a0.extract 19 a0.size)) t103 t104 _ A8.out).mono ?_);rintro e w' ⟨rfl,⟨nd,rfl⟩⟩;(try first|exact ⟨rfl,_,World.drewN_drewN _ _ _⟩|exact ⟨rfl,_,Eq.trans (World.drewN_drewN _ _ _) (congrArg (World.drewN _) (Nat.add_assoc _ _ _))⟩))|(go_at_call 10;(with_reducible refine (ticket_Sequence.calls t103 t105 _ A11.out).mono ?_);rintro e w13 ⟨rfl,hb⟩;have n0_:=Aside0.mk (below_step (by repeat (first|(with_reducible first|exact HB.out|apply below_alloc|apply pw_below_drewN|apply below_drew1)|exact HB.out)) hb);clear HB;have HB:=n0_;clear n0_;(try clear hb);(try clear hb2);(try clear hk);(try clear hi))))
        go_ret2
        exact ⟨by first|rfl|(simp [errW_none,errW_some] <;> rfl)|(simp [*,errW_none,errW_some] <;> rfl),by repeat (first|(with_reducible first|exact HB.out|apply below_alloc|apply pw_below_drewN|apply below_drew1)|exact HB.out)⟩
       ·rw [if_neg c12] at H
        have c12b0 : (t105.toList == a0.toList) = false:=beq_eq_false_iff_ne.mpr c12
        have c12b1 : (t105.toList != a0.toList) = true:=bne_iff_ne.mpr c12
        simp only [Option.some.injEq,Prod.mk.injEq] at H
        obtain ⟨rfl,rfl⟩:=H
        go_enter Tryd.func9,Tryd.ntmps9
        go_wp2_with (first|(go_at_call 28;(with_reducible refine (strings_TrimLeft.calls (a0.extract 0 19) (⟨#[48]⟩ : ByteArray) t102 _ A5.out).mono ?_);rintro e w' ⟨rfl,⟨nd,rfl⟩⟩;(try first|exact ⟨rfl,_,World.drewN_drewN _ _ _⟩|exact ⟨rfl,_,Eq.trans (World.drewN_drewN _ _ _) (congrArg (World.drewN _) (Nat.add_assoc _ _ _))⟩))|(go_at_call 29;(with_reducible refine (basic_Atoi.calls (t102 ++ (a0.extract 19 a0.size)) t103 t104 _ A8.out).mono ?_);rintro e w' ⟨rfl,⟨nd,rfl⟩⟩;(try first|exact ⟨rfl,_,World.drewN_drewN _ _ _⟩|exact ⟨rfl,_,Eq.trans (World.drewN_drewN _ _ _) (congrArg (World.drewN _) (Nat.add_assoc _ _ _))⟩))|(go_at_call 10;(with_reducible refine (ticket_Sequence.calls t103 t105 _ A11.out).mono ?_);rintro e w14 ⟨rfl,hb⟩;have n0_:=Aside0.mk (below_step (by repeat (first|(with_reducible first|exact HB.out|apply below_alloc|apply pw_below_drewN|apply below_drew1)|exact HB.out)) hb);clear HB;have HB:=n0_;clear n0_;(try clear hb);(try clear hb2);(try clear hk);(try clear hi)))
        repeat (go_quiet (first|(go_at_call 28;(with_reducible refine (strings_TrimLeft.calls (a0.extract 0 19) (⟨#[48]⟩ : ByteArray) t102 _ A5.out).mono ?_);rintro e w' ⟨rfl,⟨nd,rfl⟩⟩;(try first|exact ⟨rfl,_,World.drewN_drewN _ _ _⟩|exact ⟨rfl,_,Eq.trans (World.drewN_drewN _ _ _) (congrArg (World.drewN _) (Nat.add_assoc _ _ _))⟩))|(go_at_call 29;(with_reducible refine (basic_Atoi.calls (t102 ++ (a0.extract 19 a0.size)) t103 t104 _ A8.out).mono ?_);rintro e w' ⟨rfl,⟨nd,rfl⟩⟩;(try first|exact ⟨rfl,_,World.drewN_drewN _ _ _⟩|exact ⟨rfl,_,Eq.trans (World.drewN_drewN _ _ _) (congrArg (World.drewN _) (Nat.add_assoc _ _ _))⟩))|(go_at_call 10;(with_reducible refine (ticket_Sequence.calls t103 t105 _ A11.out).mono ?_);rintro e w14 ⟨rfl,hb⟩;have n0_:=Aside0.mk (below_step (by repeat (first|(with_reducible first|exact HB.out|apply below_alloc|apply pw_below_drewN|apply below_drew1)|exact HB.out)) hb);clear HB;have HB:=n0_;clear n0_;(try clear hb);(try clear hb2);(try clear hk);(try clear hi)));try go_wp2_with (first|(go_at_call 28;(with_reducible refine (strings_TrimLeft.calls (a0.extract 0 19) (⟨#[48]⟩ : ByteArray) t102 _ A5.out).mono ?_);rintro e w' ⟨rfl,⟨nd,rfl⟩⟩;(try first|exact ⟨rfl,_,World.drewN_drewN _ _ _⟩|exact ⟨rfl,_,Eq.trans (World.drewN_drewN _ _ _) (congrArg (World.drewN _) (Nat.add_assoc _ _ _))⟩))|(go_at_call 29;(with_reducible refine (basic_Atoi.calls (t102 ++ (a0.extract 19 a0.size)) t103 t104 _ A8.out).mono ?_);rintro e w' ⟨rfl,⟨nd,rfl⟩⟩;(try first|exact ⟨rfl,_,World.drewN_drewN _ _ _⟩|exact ⟨rfl,_,Eq.trans (World.drewN_drewN _ _ _) (congrArg (World.drewN _) (Nat.add_assoc _ _ _))⟩))|(go_at_call 10;(with_reducible refine (ticket_Sequence.calls t103 t105 _ A11.out).mono ?_);rintro e w14 ⟨rfl,hb⟩;have n0_:=Aside0.mk (below_step (by repeat (first|(with_reducible first|exact HB.out|apply below_alloc|apply pw_below_drewN|apply below_drew1)|exact HB.out)) hb);clear HB;have HB:=n0_;clear n0_;(try clear hb);(try clear hb2);(try clear hk);(try clear hi))))
        go_ret2
        exact ⟨by first|rfl|(simp [errW_none,errW_some] <;> rfl)|(simp [*,errW_none,errW_some] <;> rfl),by repeat (first|(with_reducible first|exact HB.out|apply below_alloc|apply pw_below_drewN|apply below_drew1)|exact HB.out)⟩
     ·rw [if_neg c9] at H
      have c9b0 : (t104 == 0) = false:=beq_eq_false_iff_ne.mpr c9
      have c9b1 : (t104 != 0) = true:=bne_iff_ne.mpr c9
      simp only [Option.some.injEq,Prod.mk.injEq] at H
      obtain ⟨rfl,rfl⟩:=H
      go_enter Tryd.func9,Tryd.ntmps9
      go_wp2_with (first|(go_at_call 28;(with_reducible refine (strings_TrimLeft.calls (a0.extract 0 19) (⟨#[48]⟩ : ByteArray) t102 _ A5.out).mono ?_);rintro e w' ⟨rfl,⟨nd,rfl⟩⟩;(try first|exact ⟨rfl,_,World.drewN_drewN _ _ _⟩|exact ⟨rfl,_,Eq.trans (World.drewN_drewN _ _ _) (congrArg (World.drewN _) (Nat.add_assoc _ _ _))⟩))|(go_at_call 29;(with_reducible refine (basic_Atoi.calls (t102 ++ (a0.extract 19 a0.size)) t103 t104 _ A8.out).mono ?_);rintro e w' ⟨rfl,⟨nd,rfl⟩⟩;(try first|exact ⟨rfl,_,World.drewN_drewN _ _ _⟩|exact ⟨rfl,_,Eq.trans (World.drewN_drewN _ _ _) (congrArg (World.drewN _) (Nat.add_assoc _ _ _))⟩)))
      repeat (go_quiet (first|(go_at_call 28;(with_reducible refine (strings_TrimLeft.calls (a0.extract 0 19) (⟨#[48]⟩ : ByteArray) t102 _ A5.out).mono ?_);rintro e w' ⟨rfl,⟨nd,rfl⟩⟩;(try first|exact ⟨rfl,_,World.drewN_drewN _ _ _⟩|exact ⟨rfl,_,Eq.trans (World.drewN_drewN _ _ _) (congrArg (World.drewN _) (Nat.add_assoc _ _ _))⟩))|(go_at_call 29;(with_reducible refine (basic_Atoi.calls (t102 ++ (a0.extract 19 a0.size)) t103 t104 _ A8.out).mono ?_);rintro e w' ⟨rfl,⟨nd,rfl⟩⟩;(try first|exact ⟨rfl,_,World.drewN_drewN _ _ _⟩|exact ⟨rfl,_,Eq.trans (World.drewN_drewN _ _ _) (congrArg (World.drewN _) (Nat.add_assoc _ _ _))⟩)));try go_wp2_with (first|(go_at_call 28;(with_reducible refine (strings_TrimLeft.calls (a0.extract 0 19) (⟨#[48]⟩ : ByteArray) t102 _ A5.out).mono ?_);rintro e w' ⟨rfl,⟨nd,rfl⟩⟩;(try first|exact ⟨rfl,_,World.drewN_drewN _ _ _⟩|exact ⟨rfl,_,Eq.trans (World.drewN_drewN _ _ _) (congrArg (World.drewN _) (Nat.add_assoc _ _ _))⟩))|(go_at_call 29;(with_reducible refine (basic_Atoi.calls (t102 ++ (a0.extract 19 a0.size)) t103 t104 _ A8.out).mono ?_);rintro e w' ⟨rfl,⟨nd,rfl⟩⟩;(try first|exact ⟨rfl,_,World.drewN_drewN _ _ _⟩|exact ⟨rfl,_,Eq.trans (World.drewN_drewN _ _ _) (congrArg (World.drewN _) (Nat.add_assoc _ _ _))⟩))))
      go_ret2
      exact ⟨by first|rfl|(simp [errW_none,errW_some] <;> rfl)|(simp [*,errW_none,errW_some] <;> rfl),by repeat (first|(with_reducible first|exact HB.out|apply below_alloc|apply pw_below_drewN|apply below_drew1)|exact HB.out)⟩
    ·rw [if_neg c7] at H
     exact absurd H (by simp)
   ·rw [if_neg c4] at H
    exact absurd H (by simp)
  ·rw [if_neg c3] at H
   exact absurd H (by simp)
 ·rw [if_neg c2] at H
  have c2b0 : ((a0.size : Int) == 20) = false:=beq_eq_false_iff_ne.mpr c2
  have c2b1 : ((a0.size : Int) != 20) = true:=bne_iff_ne.mpr c2
  simp only [Option.some.injEq,Prod.mk.injEq] at H
  obtain ⟨rfl,rfl⟩:=H
  go_enter Tryd.func9,Tryd.ntmps9
  go_wp2
  repeat (go_quiet (fail);try go_wp2)
  go_ret2
  exact ⟨by first|rfl|(simp [errW_none,errW_some] <;> rfl)|(simp [*,errW_none,errW_some] <;> rfl),by repeat (first|(with_reducible first|exact HB.out|apply below_alloc|apply pw_below_drewN|apply below_drew1)|exact HB.out)⟩
end Go.Proofs.YtedfgkjimnjdpaaDoor.X
namespace Go.Proofs.YtedfgkjimnjdpaaDoor.X
open Go.RowKit Go.Proofs.YtedfgkjimnjdpaaDoorW.PrintWords Go.Proofs.YtedfgkjimnjdpaaDoorW.PrintLast Go.Proofs.YtedfgkjimnjdpaaDoorW.PrintMore
attribute [local go_sem] max2_int min2_int max_two min_two max_three min_three max_four min_four
set_option linter.unusedVariables false
set_option linter.unusedSimpArgs false
def stringslite_HasSuffix.f (a0 : ByteArray) (a1 : ByteArray) : Option (Bool):=if (a0.size : Int) ≥ (a1.size : Int) then (if 0 ≤ (wrap64 ((a0.size : Int) - (a1.size : Int))) then (if (wrap64 ((a0.size : Int) - (a1.size : Int))) ≤ (a0.size : Int) then (some ((a0.extract ((wrap64 ((a0.size : Int) - (a1.size : Int))) : Int).toNat a0.size).toList == a1.toList)) else (none)) else (none)) else (some false)
set_option maxHeartbeats 8000000 in
set_option maxRecDepth 100000 in
theorem stringslite_HasSuffix.calls (a0 : ByteArray) (a1 : ByteArray) (r : Bool) (w : World) (h : stringslite_HasSuffix.f a0 a1 = some r) :
  Calls Tryd.prog 112 #[.string a0,.string a1] w fun e w' => e = .returned (.bool r) ∧ Drawn0 w w':=by
 have H : (if (a0.size : Int) ≥ (a1.size : Int) then (if 0 ≤ (wrap64 ((a0.size : Int) - (a1.size : Int))) then (if (wrap64 ((a0.size : Int) - (a1.size : Int))) ≤ (a0.size : Int) then (some ((a0.extract ((wrap64 ((a0.size : Int) - (a1.size : Int))) : Int).toNat a0.size).toList == a1.toList)) else (none)) else (none)) else (some false)) = some r:=h
 clear h
 by_cases c3 : (a0.size : Int) ≥ (a1.size : Int)
 ·rw [if_pos c3] at H
  have c3b0 : decide ((a1.size : Int) ≤ (a0.size : Int)) = true:=decide_eq_true c3
  have c3b1 : decide (a1.size ≤ a0.size) = true:=decide_eq_true (Int.ofNat_le.mp c3)
  clear c3
  obtain ⟨ji4,hji4⟩ : ∃ j_ : Int,(wrap64 ((a0.size : Int) - (a1.size : Int))) = j_:=⟨_,rfl⟩
  replace H : (if 0 ≤ (ji4) then (if (ji4) ≤ (a0.size : Int) then (some ((a0.extract ((ji4) : Int).toNat a0.size).toList == a1.toList)) else (none)) else (none)) = some r:=by first|(rw [hji4] at H;exact H)|(simp only [hji4] at H ⊢;exact H)
  have hji4w : (IntKind.i64.wrap ((a0.size : Int) - (a1.size : Int))) = ji4:=(i64_w _).trans hji4
  by_cases c5 : 0 ≤ (ji4)
  ·rw [if_pos c5] at H
   have c5b0:=eq_true c5
   have c5b1 : decide (0 ≤ (ji4)) = true:=decide_eq_true c5
   clear c5
   by_cases c6 : (ji4) ≤ (a0.size : Int)
   ·rw [if_pos c6] at H
    have c6b0:=eq_true c6
    have c6b1 : decide ((ji4) ≤ (a0.size : Int)) = true:=decide_eq_true c6
    clear c6
    obtain rfl:=Option.some.inj H
    go_enter Tryd.func112,Tryd.ntmps112
    go_wp2
    go_ret
    exact ⟨by first|rfl|(simp;done)|(simp only [← hji4] <;> (first|rfl|simp))|(simp [*];done),by repeat (first|exact Drawn0.refl _|apply Drawn0.step)⟩
   ·rw [if_neg c6] at H
    exact absurd H (by simp)
  ·rw [if_neg c5] at H
   exact absurd H (by simp)
 ·rw [if_neg c3] at H
  have c3b0 : decide ((a1.size : Int) ≤ (a0.size : Int)) = false:=decide_eq_false c3
  have c3b1 : decide (a1.size ≤ a0.size) = false:=decide_eq_false (fun h => c3 (Int.ofNat_le.mpr h))
  clear c3
  obtain rfl:=Option.some.inj H
  go_enter Tryd.func112,Tryd.ntmps112
  go_wp2
  go_ret
  exact ⟨by first|rfl|(simp;done)|(simp;decide +kernel)|(simp [*];done),by repeat (first|exact Drawn0.refl _|apply Drawn0.step)⟩
end Go.Proofs.YtedfgkjimnjdpaaDoor.X
namespace Go.Proofs.YtedfgkjimnjdpaaDoor.X
open Go.RowKit Go.Proofs.YtedfgkjimnjdpaaDoorW.PrintWords Go.Proofs.YtedfgkjimnjdpaaDoorW.PrintLast Go.Proofs.YtedfgkjimnjdpaaDoorW.PrintMore
attribute [local go_sem] max2_int min2_int max_two min_two max_three min_three max_four min_four
set_option linter.unusedVariables false
set_option linter.unusedSimpArgs false
def stringslite_CutSuffix.f (a0 : ByteArray) (a1 : ByteArray) : Option (ByteArray × Bool):=(stringslite_HasSuffix.f a0 a1).bind fun t106 => (if t106 = true then (if 0 ≤ (wrap64 ((a0.size : Int) - (a1.size : Int))) then (if (wrap64 ((a0.size : Int) - (a1.size : Int))) ≤ (a0.size : Int) then (some (a0.extract 0 ((wrap64 ((a0.size : Int) - (a1.size : Int))) : Int).toNat,true)) else (none)) else (none)) else (some (a0,false)))
set_option maxHeartbeats 8000000 in
set_option maxRecDepth 100000 in
theorem stringslite_CutSuffix.calls (a0 : ByteArray) (a1 : ByteArray) (r1 : ByteArray) (r2 : Bool) (w : World) (h : stringslite_CutSuffix.f a0 a1 = some (r1,r2)) :
  Calls Tryd.prog 76 #[.string a0,.string a1] w fun e w' => e = .returned (.tuple #[.string r1,.bool r2]) ∧ Drawn0 w w':=by
 have H : ((stringslite_HasSuffix.f a0 a1).bind fun t106 => (if t106 = true then (if 0 ≤ (wrap64 ((a0.size : Int) - (a1.size : Int))) then (if (wrap64 ((a0.size : Int) - (a1.size : Int))) ≤ (a0.size : Int) then (some (a0.extract 0 ((wrap64 ((a0.size : Int) - (a1.size : Int))) : Int).toNat,true)) else (none)) else (none)) else (some (a0,false)))) = some (r1,r2):=h
 clear h
 replace H:=Option.bind_eq_some_iff.mp H
 obtain ⟨t106,A30,H⟩:=H
 replace H : (if t106 = true then (if 0 ≤ (wrap64 ((a0.size : Int) - (a1.size : Int))) then (if (wrap64 ((a0.size : Int) - (a1.size : Int))) ≤ (a0.size : Int) then (some (a0.extract 0 ((wrap64 ((a0.size : Int) - (a1.size : Int))) : Int).toNat,true)) else (none)) else (none)) else (some (a0,false))) = some (r1,r2):=H
 have A3:=Aside0.mk A30
 clear A30
 by_cases c4 : t106 = true
 ·subst c4
  have H1 : (if 0 ≤ (wrap64 ((a0.size : Int) - (a1.size : Int))) then (if (wrap64 ((a0.size : Int) - (a1.size : Int))) ≤ (a0.size : Int) then (some (a0.extract 0 ((wrap64 ((a0.size : Int) - (a1.size : Int))) : Int).toNat,true)) else (none)) else (none)) = some (r1,r2):=by rw [if_pos rfl] at H;exact H
  clear H
  have H:=H1
  clear H1
  obtain ⟨ji5,hji5⟩ : ∃ j_ : Int,(wrap64 ((a0.size : Int) - (a1.size : Int))) = j_:=⟨_,rfl⟩
  replace H : (if 0 ≤ (ji5) then (if (ji5) ≤ (a0.size : Int) then (some (a0.extract 0 ((ji5) : Int).toNat,true)) else (none)) else (none)) = some (r1,r2):=by first|(rw [hji5] at H;exact H)|(simp only [hji5] at H ⊢;exact H)
  (try rw [hji5] at A3)
  have hji5w : (IntKind.i64.wrap ((a0.size : Int) - (a1.size : Int))) = ji5:=(i64_w _).trans hji5
  by_cases c6 : 0 ≤ (ji5)
  ·rw [if_pos c6] at H
   have c6b0:=eq_true c6
   have c6b1 : decide (0 ≤ (ji5)) = true:=decide_eq_true c6
   clear c6
   by_cases c7 : (ji5) ≤ (a0.size : Int)
   ·rw [if_pos c7] at H
    have c7b0:=eq_true c7
    have c7b1 : decide ((ji5) ≤ (a0.size : Int)) = true:=decide_eq_true c7
    clear c7
    simp only [Option.some.injEq,Prod.mk.injEq] at H
    obtain ⟨rfl,rfl⟩:=H
    go_enter Tryd.func76,Tryd.ntmps76
    go_wp2_with (first|((with_reducible refine gate_callee (f:=112) rfl ?_);refine goesL_ (some 8) rfl rfl Tryd.func112 (by kernel_rfl) rfl #[.string a0,.string a1] rfl (by (try simp only [List.map_toArray,List.map_cons,List.map_nil]);first|done|rfl|(simp only [List.length_drop,List.length_take];rfl)) ?_;(with_reducible refine (stringslite_HasSuffix.calls a0 a1 true _ A3.out).mono ?_);rintro e w' ⟨rfl,⟨nd,rfl⟩⟩;refine ⟨_,rfl,?_⟩))
    go_ret2
    exact ⟨by first|rfl|(simp;done)|(simp only [← hji5] <;> (first|rfl|simp))|(simp [*];done),by repeat (first|exact Drawn0.refl _|apply Drawn0.step)⟩
   ·rw [if_neg c7] at H
    exact absurd H (by simp)
  ·rw [if_neg c6] at H
   exact absurd H (by simp)
 ·replace c4:=Bool.eq_false_iff.mpr c4
  subst c4
  have H1 : (some (a0,false)) = some (r1,r2):=by rw [if_neg (show ¬ (false = true) by decide)] at H;exact H
  clear H
  have H:=H1
  clear H1
  simp only [Option.some.injEq,Prod.mk.injEq] at H
  obtain ⟨rfl,rfl⟩:=H
  go_enter Tryd.func76,Tryd.ntmps76
  go_wp2_with (first|((with_reducible refine gate_callee (f:=112) rfl ?_);refine goesL_ (some 8) rfl rfl Tryd.func112 (by kernel_rfl) rfl #[.string a0,.string a1] rfl (by (try simp only [List.map_toArray,List.map_cons,List.map_nil]);first|done|rfl|(simp only [List.length_drop,List.length_take];rfl)) ?_;(with_reducible refine (stringslite_HasSuffix.calls a0 a1 false _ A3.out).mono ?_);rintro e w' ⟨rfl,⟨nd,rfl⟩⟩;refine ⟨_,rfl,?_⟩))
  go_ret2
  exact ⟨by first|rfl|(simp;done)|(simp;decide +kernel)|(simp [*];done),by repeat (first|exact Drawn0.refl _|apply Drawn0.step)⟩
end Go.Proofs.YtedfgkjimnjdpaaDoor.X
namespace Go.Proofs.YtedfgkjimnjdpaaDoor.X
open Go.RowKit Go.Proofs.YtedfgkjimnjdpaaDoorW.PrintWords Go.Proofs.YtedfgkjimnjdpaaDoorW.PrintLast Go.Proofs.YtedfgkjimnjdpaaDoorW.PrintMore
attribute [local go_sem] max2_int min2_int max_two min_two max_three min_three max_four min_four
set_option linter.unusedVariables false
set_option linter.unusedSimpArgs false
def strings_CutSuffix.f (a0 : ByteArray) (a1 : ByteArray) : Option (ByteArray × Bool):=(stringslite_CutSuffix.f a0 a1).bind fun bt107 => (some (bt107.1,bt107.2))
set_option maxHeartbeats 8000000 in
set_option maxRecDepth 100000 in
theorem strings_CutSuffix.calls (a0 : ByteArray) (a1 : ByteArray) (r1 : ByteArray) (r2 : Bool) (w : World) (h : strings_CutSuffix.f a0 a1 = some (r1,r2)) :
  Calls Tryd.prog 37 #[.string a0,.string a1] w fun e w' => e = .returned (.tuple #[.string r1,.bool r2]) ∧ Drawn0 w w':=by
 have H : ((stringslite_CutSuffix.f a0 a1).bind fun bt107 => (some (bt107.1,bt107.2))) = some (r1,r2):=h
 clear h
 replace H:=Option.bind_eq_some_iff.mp H
 obtain ⟨⟨t107,t108⟩,A30,H⟩:=H
 replace H : (some (t107,t108)) = some (r1,r2):=H
 have A3:=Aside0.mk A30
 clear A30
 simp only [Option.some.injEq,Prod.mk.injEq] at H
 obtain ⟨rfl,rfl⟩:=H
 go_enter Tryd.func37,Tryd.ntmps37
 go_wp2_with (first|((with_reducible refine gate_callee (f:=76) rfl ?_);refine goesL_ (some 8) rfl rfl Tryd.func76 (by kernel_rfl) rfl #[.string a0,.string a1] rfl (by (try simp only [List.map_toArray,List.map_cons,List.map_nil]);first|done|rfl|(simp only [List.length_drop,List.length_take];rfl)) ?_;(with_reducible refine (stringslite_CutSuffix.calls a0 a1 t107 t108 _ A3.out).mono ?_);rintro e w' ⟨rfl,⟨nd,rfl⟩⟩;refine ⟨_,rfl,?_⟩))
 go_ret2
 exact ⟨by first|rfl|(simp;done)|(simp;decide +kernel)|(simp [*];done),by repeat (first|exact Drawn0.refl _|apply Drawn0.step)⟩
end Go.Proofs.YtedfgkjimnjdpaaDoor.X
namespace Go.Proofs.YtedfgkjimnjdpaaDoor.X
open Go.RowKit Go.Proofs.YtedfgkjimnjdpaaDoorW.PrintWords Go.Proofs.YtedfgkjimnjdpaaDoorW.PrintLast Go.Proofs.YtedfgkjimnjdpaaDoorW.PrintMore
attribute [local go_sem] max2_int min2_int max_two min_two max_three min_three max_four min_four
set_option linter.unusedVariables false
set_option linter.unusedSimpArgs false
mutual
def ticket_only.j0 : Nat → ByteArray → ByteArray → Bool → Option (Bool)
 | 0,_,_,_ => none
 | k + 1,x0,x9,x22 => if x22 = true then (some false) else (ticket_only.l0 k x0 x9 (x0.size : Int) 0)
def ticket_only.l0 : Nat → ByteArray → ByteArray → Int → Int → Option (Bool)
 | 0,_,_,_,_ => none
 | k + 1,x0,x9,x24,x25 => if x25 < x24 then (if 0 ≤ x25 then (if x25 < (x0.size : Int) then ((strings_IndexByte.f x9 (bt x0 x25)).bind fun t110 => (if t110 < 0 then (some false) else (ticket_only.l0 k x0 x9 x24 (wrap64 (x25 + 1))))) else (none)) else (none)) else (some true)
end
def ticket_only.f (k : Nat) (a0 : ByteArray) (a1 : Int) (a2 : Int) (l3 : List ByteArray) : Option (Bool):=(strings_Join.f l3 (⟨#[]⟩ : ByteArray)).bind fun t109 => (if (a0.size : Int) < a1 then (ticket_only.j0 k a0 t109 true) else (ticket_only.j0 k a0 t109 (decide ((a0.size : Int) > a2))))
set_option maxHeartbeats 8000000 in
set_option maxRecDepth 100000 in
theorem ticket_only.calls (k : Nat) (a0 : ByteArray) (a1 : Int) (a2 : Int) (A3 : Option Addr) (c3 : Nat) (l3 : List ByteArray) (r : Bool) (w : World) (hr3 : Kd.C Kd.string w A3 l3.length l3) (hc3 : l3.length ≤ c3) (h : ticket_only.f k a0 a1 a2 l3 = some r) :
  Calls Tryd.prog 38 #[.string a0,.int .i64 a1,.int .i64 a2,.slice A3 l3.length c3] w fun e w' => e = .returned (.bool r) ∧ Below w.heap.size w w':=by
 have HR3:=Aside0.mk hr3
 have HC3:=Aside0.mk hc3
 clear hr3 hc3
 have HB:=Aside0.mk (Below.refl w.heap.size w)
 have H : ((strings_Join.f l3 (⟨#[]⟩ : ByteArray)).bind fun t109 => (if (a0.size : Int) < a1 then (ticket_only.j0 k a0 t109 true) else (ticket_only.j0 k a0 t109 (decide ((a0.size : Int) > a2))))) = some r:=h
 clear h
 replace H:=Option.bind_eq_some_iff.mp H
 obtain ⟨t109,A50,H⟩:=H
 replace H : (if (a0.size : Int) < a1 then (ticket_only.j0 k a0 t109 true) else (ticket_only.j0 k a0 t109 (decide ((a0.size : Int) > a2)))) = some r:=H
 have A5:=Aside0.mk A50
 clear A50
 have HC6:=Aside0.mk H
 clear H
 go_enter Tryd.func38,Tryd.ntmps38
 go_upto_region 2 with (first|((with_reducible refine gate_callee (f:=77) rfl ?_);refine goesL_ (some 12) rfl rfl Tryd.func77 (by kernel_rfl) rfl #[.slice A3 l3.length c3,.string (⟨#[]⟩ : ByteArray)] rfl (by (try simp only [List.map_toArray,List.map_cons,List.map_nil]);first|done|rfl|(simp only [List.length_drop,List.length_take];rfl)) ?_;(with_reducible refine (strings_Join.calls _ _ l3 (⟨#[]⟩ : ByteArray) t109 _ ?side1 ?side2 A5.out).mono ?_);(case side1 => repeat (first|exact HR3.out|(with_reducible refine Kd.C_alloc ?_ _)|(with_reducible refine Kd.C_drewN ?_ _)|(with_reducible refine Kd.C_drew ?_)));(case side2 => exact HC3.out);rintro e w7 ⟨rfl,hb⟩;refine ⟨_,rfl,?_⟩;have n0_:=Aside0.mk (below_step (by repeat (first|(with_reducible first|exact HB.out|apply below_alloc|apply pw_below_drewN|apply below_drew1)|exact HB.out)) hb);clear HB;have HB:=n0_;clear n0_;(try clear hb);(try clear hb2);(try clear hk);(try clear hi)))
 (try simp only [Act.put,List.setIfInBounds_toArray,List.set_cons_zero,List.set_cons_succ])
 go_cut [22] (fun v22 wc => ∃ (kq : Nat) (x22_5 : Bool),v22 = .bool x22_5 ∧ Aside0 (ticket_only.j0 kq a0 t109 x22_5 = some r) ∧ Aside0 (kq ≤ k) ∧ Aside0 (Below w.heap.size w wc))
 case first =>
  have H:=HC6.out
  clear HC6
  by_cases c8 : (a0.size : Int) < a1
  ·rw [if_pos c8] at H
   have c8b0 : decide ((a0.size : Int) < a1) = true:=decide_eq_true c8
   clear c8
   (first|rw [c8b0]|(simp only [i64_w,i32_w];rw [c8b0])|skip)
   have H':=Aside0.mk H
   clear H
   go_wp2
   go_meet
   case rel => exact ⟨_,(true),(by first|rfl|(simp;done)|(simp;decide +kernel)|(simp [*];done)),(by first|exact H'|(subst_vars;exact H')),⟨by first|omega|exact Nat.le_refl _⟩,⟨by repeat (first|(with_reducible first|exact HB.out|apply below_alloc|apply pw_below_drewN|apply below_drew1)|exact HB.out)⟩⟩
  ·rw [if_neg c8] at H
   have c8b0 : decide ((a0.size : Int) < a1) = false:=decide_eq_false c8
   clear c8
   (first|rw [c8b0]|(simp only [i64_w,i32_w];rw [c8b0])|skip)
   have H':=Aside0.mk H
   clear H
   go_wp2
   go_meet
   case rel => exact ⟨_,(decide ((a0.size : Int) > a2)),(by first|rfl|(simp;done)|(simp;decide +kernel)|(simp [*];done)),(by first|exact H'|(subst_vars;exact H')),⟨by first|omega|exact Nat.le_refl _⟩,⟨by repeat (first|(with_reducible first|exact HB.out|apply below_alloc|apply pw_below_drewN|apply below_drew1)|exact HB.out)⟩⟩
 case rest =>
  clear HC6
  try clear p2
  try clear c3
  try clear c7
  try clear c8
  try clear c8b0
  obtain ⟨kq,x22_5,rfl,HA,HJ5,HB⟩:=hcut
  cases kq with
  | zero => exact absurd HA.out (by simp [ticket_only.j0])
  | succ kj5 =>
   have H:=HA.out
   clear HA
   simp only [ticket_only.j0] at H
   by_cases c9 : x22_5 = true
   ·subst c9
    have H1 : (some false) = some r:=by rw [if_pos rfl] at H;exact H
    clear H
    have H:=H1
    clear H1
    obtain rfl:=Option.some.inj H
    go_wp2
    go_ret
    exact ⟨by first|rfl|(simp [errW_none,errW_some] <;> rfl)|(simp [*,errW_none,errW_some] <;> rfl),by repeat (first|(with_reducible first|exact HB.out|apply below_alloc|apply pw_below_drewN|apply below_drew1)|exact HB.out)⟩
   ·replace c9:=Bool.eq_false_iff.mpr c9
    subst c9
    have H1 : (ticket_only.l0 kj5 a0 t109 (a0.size : Int) 0) = some r:=by rw [if_neg (show ¬ (false = true) by decide)] at H;exact H
    clear H
    have H:=H1
    clear H1
    have H':=Aside0.mk H
    clear H
    go_wp2
    go_loopg [25] kj5 (fun kq v25 w' => ∃ (x25_2 : Int),v25 = .int .i64 x25_2 ∧ Aside0 (ticket_only.l0 kq a0 t109 (a0.size : Int) x25_2 = some r) ∧ Aside0 (kq ≤ kj5) ∧ Aside0 (Below w.heap.size w w'))
    case atStart => exact ⟨(0),(by first|rfl|(simp;done)|(simp;decide +kernel)|(simp [*];done)),(by first|exact H'|(subst_vars;exact H')),⟨Nat.le_refl _⟩,⟨by repeat (first|(with_reducible first|exact HB.out|apply below_alloc|apply pw_below_drewN|apply below_drew1)|exact HB.out)⟩⟩
    case round =>
     clear H'
     try clear p2
     try clear c3
     try clear c7
     try clear c8
     try clear c8b0
     try clear c9
     try clear p2
     obtain ⟨x25_2,rfl,HA,HK2,HB⟩:=hrel
     cases gk with
     | zero => exact absurd HA.out (by simp [ticket_only.l0])
     | succ k2 =>
      have H:=HA.out
      clear HA
      simp only [ticket_only.l0] at H
      by_cases c10 : x25_2 < (a0.size : Int)
      ·rw [if_pos c10] at H
       have c10b0 : decide (x25_2 < (a0.size : Int)) = true:=decide_eq_true c10
       clear c10
       by_cases c11 : 0 ≤ x25_2
       ·rw [if_pos c11] at H
        have c11b0 : decide (0 ≤ x25_2) = true:=decide_eq_true c11
        clear c11
        by_cases c12 : x25_2 < (a0.size : Int)
        ·rw [if_pos c12] at H
         have c12b0 : decide (x25_2 < (a0.size : Int)) = true:=decide_eq_true c12
         clear c12
         replace H:=Option.bind_eq_some_iff.mp H
         obtain ⟨t110,A140,H⟩:=H
         replace H : (if t110 < 0 then (some false) else (ticket_only.l0 k2 a0 t109 (a0.size : Int) (wrap64 (x25_2 + 1)))) = some r:=H
         have A14:=Aside0.mk A140
         clear A140
         by_cases c15 : t110 < 0
         ·rw [if_pos c15] at H
          have c15b0 : decide (t110 < 0) = true:=decide_eq_true c15
          clear c15
          obtain rfl:=Option.some.inj H
          have p13 : 0 ≤ (x25_2 : Int):=of_decide_eq_true (by first|(with_reducible assumption)|assumption)
          have q13 : x25_2 < (a0.size : Int):=of_decide_eq_true (by first|(with_reducible assumption)|assumption)
          have hx13:=bt_at a0 x25_2
          replace p13:=eq_true p13
          replace q13:=eq_true q13
          go_wp2_with (first|((with_reducible refine gate_callee (f:=78) rfl ?_);refine goesL_ (some 32) rfl rfl Tryd.func78 (by kernel_rfl) rfl #[.string t109,.int .u8 (bt a0 x25_2)] rfl (by (try simp only [List.map_toArray,List.map_cons,List.map_nil]);first|done|rfl|(simp only [List.length_drop,List.length_take];rfl)) ?_;(with_reducible refine (strings_IndexByte.calls t109 (bt a0 x25_2) t110 _ A14.out).mono ?_);rintro e w' ⟨rfl,⟨nd,rfl⟩⟩;refine ⟨_,rfl,?_⟩))
          go_ret
          exact ⟨by first|rfl|(simp [errW_none,errW_some] <;> rfl)|(simp [*,errW_none,errW_some] <;> rfl),by repeat (first|(with_reducible first|exact HB.out|apply below_alloc|apply pw_below_drewN|apply below_drew1)|exact HB.out)⟩
         ·rw [if_neg c15] at H
          have c15b0 : decide (t110 < 0) = false:=decide_eq_false c15
          clear c15
          have H':=Aside0.mk H
          clear H
          have p13 : 0 ≤ (x25_2 : Int):=of_decide_eq_true (by first|(with_reducible assumption)|assumption)
          have q13 : x25_2 < (a0.size : Int):=of_decide_eq_true (by first|(with_reducible assumption)|assumption)
          have hx13:=bt_at a0 x25_2
          replace p13:=eq_true p13
          replace q13:=eq_true q13
          go_wp2_with (first|((with_reducible refine gate_callee (f:=78) rfl ?_);refine goesL_ (some 32) rfl rfl Tryd.func78 (by kernel_rfl) rfl #[.string t109,.int .u8 (bt a0 x25_2)] rfl (by (try simp only [List.map_toArray,List.map_cons,List.map_nil]);first|done|rfl|(simp only [List.length_drop,List.length_take];rfl)) ?_;(with_reducible refine (strings_IndexByte.calls t109 (bt a0 x25_2) t110 _ A14.out).mono ?_);rintro e w' ⟨rfl,⟨nd,rfl⟩⟩;refine ⟨_,rfl,?_⟩))
          go_roundg k2
          case measure => have:=HJ5.out;have:=HK2.out;omega
          case rel => exact ⟨(wrap64 (x25_2 + 1)),(by first|rfl|(simp;done)|(simp;decide +kernel)|(simp [*];done)),(by first|exact H'|(subst_vars;exact H')),⟨by have:=HJ5.out;have:=HK2.out;omega⟩,⟨by repeat (first|(with_reducible first|exact HB.out|apply below_alloc|apply pw_below_drewN|apply below_drew1)|exact HB.out)⟩⟩
        ·rw [if_neg c12] at H
         exact absurd H (by simp)
       ·rw [if_neg c11] at H
        exact absurd H (by simp)
      ·rw [if_neg c10] at H
       have c10b0 : decide (x25_2 < (a0.size : Int)) = false:=decide_eq_false c10
       clear c10
       obtain rfl:=Option.some.inj H
       go_wp2
       go_ret
       exact ⟨by first|rfl|(simp [errW_none,errW_some] <;> rfl)|(simp [*,errW_none,errW_some] <;> rfl),by repeat (first|(with_reducible first|exact HB.out|apply below_alloc|apply pw_below_drewN|apply below_drew1)|exact HB.out)⟩
end Go.Proofs.YtedfgkjimnjdpaaDoor.X
namespace Go.Proofs.YtedfgkjimnjdpaaDoor.X
open Go.RowKit Go.Proofs.YtedfgkjimnjdpaaDoorW.PrintWords Go.Proofs.YtedfgkjimnjdpaaDoorW.PrintLast Go.Proofs.YtedfgkjimnjdpaaDoorW.PrintMore
attribute [local go_sem] max2_int min2_int max_two min_two max_three min_three max_four min_four
set_option linter.unusedVariables false
set_option linter.unusedSimpArgs false
def ticket_Queue.f (k : Nat) (a0 : ByteArray) : Option (Bool):=(strings_CutSuffix.f a0 (⟨#[46,102,105,102,111]⟩ : ByteArray)).bind fun bt111 => (if bt111.2 = true then (if (a0.size : Int) ≤ 80 then ((ticket_only.f k bt111.1 6 75 (([(⟨#[97,98,99,100,101,102,103,104,105,106,107,108,109,110,111,112,113,114,115,116,117,118,119,120,121,122]⟩ : ByteArray),(⟨#[65,66,67,68,69,70,71,72,73,74,75,76,77,78,79,80,81,82,83,84,85,86,87,88,89,90]⟩ : ByteArray),(⟨#[48,49,50,51,52,53,54,55,56,57]⟩ : ByteArray),(⟨#[45,95]⟩ : ByteArray)] : List ByteArray))).bind fun t116 => (some t116)) else (some false)) else (some false))
set_option maxHeartbeats 8000000 in
set_option maxRecDepth 100000 in
theorem ticket_Queue.calls (k : Nat) (a0 : ByteArray) (r : Bool) (w : World) (h : ticket_Queue.f k a0 = some r) :
  Calls Tryd.prog 18 #[.string a0] w fun e w' => e = .returned (.bool r) ∧ Below w.heap.size w w':=by
 have HB:=Aside0.mk (Below.refl w.heap.size w)
 have H : ((strings_CutSuffix.f a0 (⟨#[46,102,105,102,111]⟩ : ByteArray)).bind fun bt111 => (if bt111.2 = true then (if (a0.size : Int) ≤ 80 then ((ticket_only.f k bt111.1 6 75 (([(⟨#[97,98,99,100,101,102,103,104,105,106,107,108,109,110,111,112,113,114,115,116,117,118,119,120,121,122]⟩ : ByteArray),(⟨#[65,66,67,68,69,70,71,72,73,74,75,76,77,78,79,80,81,82,83,84,85,86,87,88,89,90]⟩ : ByteArray),(⟨#[48,49,50,51,52,53,54,55,56,57]⟩ : ByteArray),(⟨#[45,95]⟩ : ByteArray)] : List ByteArray))).bind fun t116 => (some t116)) else (some false)) else (some false))) = some r:=h
 clear h
 replace H:=Option.bind_eq_some_iff.mp H
 obtain ⟨⟨t111,t112⟩,A20,H⟩:=H
 replace H : (if t112 = true then (if (a0.size : Int) ≤ 80 then ((ticket_only.f k t111 6 75 (([(⟨#[97,98,99,100,101,102,103,104,105,106,107,108,109,110,111,112,113,114,115,116,117,118,119,120,121,122]⟩ : ByteArray),(⟨#[65,66,67,68,69,70,71,72,73,74,75,76,77,78,79,80,81,82,83,84,85,86,87,88,89,90]⟩ : ByteArray),(⟨#[48,49,50,51,52,53,54,55,56,57]⟩ : ByteArray),(⟨#[45,95]⟩ : ByteArray)] : List ByteArray))).bind fun t116 => (some t116)) else (some false)) else (some false)) = some r:=H
 have A2:=Aside0.mk A20
 clear A20
 by_cases c3 : t112 = true
 ·subst c3
  have H1 : (if (a0.size : Int) ≤ 80 then ((ticket_only.f k t111 6 75 (([(⟨#[97,98,99,100,101,102,103,104,105,106,107,108,109,110,111,112,113,114,115,116,117,118,119,120,121,122]⟩ : ByteArray),(⟨#[65,66,67,68,69,70,71,72,73,74,75,76,77,78,79,80,81,82,83,84,85,86,87,88,89,90]⟩ : ByteArray),(⟨#[48,49,50,51,52,53,54,55,56,57]⟩ : ByteArray),(⟨#[45,95]⟩ : ByteArray)] : List ByteArray))).bind fun t116 => (some t116)) else (some false)) = some r:=by rw [if_pos rfl] at H;exact H
  clear H
  have H:=H1
  clear H1
  by_cases c4 : (a0.size : Int) ≤ 80
  ·rw [if_pos c4] at H
   have c4b0 : decide ((a0.size : Int) ≤ 80) = true:=decide_eq_true c4
   have c4b1 : decide (a0.size ≤ 80) = true:=decide_eq_true (by omega)
   clear c4
   obtain ⟨y113,hy113⟩ : ∃ y_ : List ByteArray,y_ = (([(⟨#[97,98,99,100,101,102,103,104,105,106,107,108,109,110,111,112,113,114,115,116,117,118,119,120,121,122]⟩ : ByteArray),(⟨#[65,66,67,68,69,70,71,72,73,74,75,76,77,78,79,80,81,82,83,84,85,86,87,88,89,90]⟩ : ByteArray),(⟨#[48,49,50,51,52,53,54,55,56,57]⟩ : ByteArray),(⟨#[45,95]⟩ : ByteArray)] : List ByteArray)):=⟨_,rfl⟩
   replace H : ((ticket_only.f k t111 6 75 y113).bind fun t116 => (some t116)) = some r:=by first|(rw [hy113];with_reducible exact H)|(have H2_:=(Option.bind_some _ _).symm.trans H;rw [hy113];with_reducible exact H2_)|(have H2_:=(Option.bind_some _ _).symm.trans H;with_reducible exact H2_)|with_reducible exact H|(rw [hy113];exact H)|exact H
   have Ny113:=Aside0.mk hy113
   clear hy113
   replace H:=Option.bind_eq_some_iff.mp H
   obtain ⟨t116,A50,H⟩:=H
   replace H : (some t116) = some r:=H
   have A5:=Aside0.mk A50
   clear A50
   obtain rfl:=Option.some.inj H
   go_enter Tryd.func18,Tryd.ntmps18
   go_wp2_with (first|((with_reducible refine gate_callee (f:=37) rfl ?_);refine goesL_ (some 7) rfl rfl Tryd.func37 (by kernel_rfl) rfl #[.string a0,.string (⟨#[46,102,105,102,111]⟩ : ByteArray)] rfl (by (try simp only [List.map_toArray,List.map_cons,List.map_nil]);first|done|rfl|(simp only [List.length_drop,List.length_take];rfl)) ?_;(with_reducible refine (strings_CutSuffix.calls a0 (⟨#[46,102,105,102,111]⟩ : ByteArray) t111 true _ A2.out).mono ?_);rintro e w' ⟨rfl,⟨nd,rfl⟩⟩;refine ⟨_,rfl,?_⟩)|((with_reducible refine gate_dst (N:=18) rfl ?_);(try (refine gate_guard (by rfl) ?_;dsimp only));refine Kd.R_lit Kd.string _ 9 ?hg (N:=18) ?hd (xs:=([(⟨#[97,98,99,100,101,102,103,104,105,106,107,108,109,110,111,112,113,114,115,116,117,118,119,120,121,122]⟩ : ByteArray),(⟨#[65,66,67,68,69,70,71,72,73,74,75,76,77,78,79,80,81,82,83,84,85,86,87,88,89,90]⟩ : ByteArray),(⟨#[48,49,50,51,52,53,54,55,56,57]⟩ : ByteArray),(⟨#[45,95]⟩ : ByteArray)] : List ByteArray)) (inner:=[.string (⟨#[97,98,99,100,101,102,103,104,105,106,107,108,109,110,111,112,113,114,115,116,117,118,119,120,121,122]⟩ : ByteArray),.string (⟨#[65,66,67,68,69,70,71,72,73,74,75,76,77,78,79,80,81,82,83,84,85,86,87,88,89,90]⟩ : ByteArray),.string (⟨#[48,49,50,51,52,53,54,55,56,57]⟩ : ByteArray),.string (⟨#[45,95]⟩ : ByteArray)]) (ok:=fun _ => True) (okp:=fun _ => True) ?hr ?hp (fun _ hk => hk) trivial (Below.refl _ _) (Nat.le_refl _) (by simp) ?_;(case hd => rfl);(case hg => rfl);(case hr => first|(go_simp;done)|(go_simp;rfl));(case hp => exact (Reps.one (show Kd.M Kd.string _ _ _ (⟨#[97,98,99,100,101,102,103,104,105,106,107,108,109,110,111,112,113,114,115,116,117,118,119,120,121,122]⟩ : ByteArray) [.string (⟨#[97,98,99,100,101,102,103,104,105,106,107,108,109,110,111,112,113,114,115,116,117,118,119,120,121,122]⟩ : ByteArray)] from rfl) (Reps.one (show Kd.M Kd.string _ _ _ (⟨#[65,66,67,68,69,70,71,72,73,74,75,76,77,78,79,80,81,82,83,84,85,86,87,88,89,90]⟩ : ByteArray) [.string (⟨#[65,66,67,68,69,70,71,72,73,74,75,76,77,78,79,80,81,82,83,84,85,86,87,88,89,90]⟩ : ByteArray)] from rfl) (Reps.one (show Kd.M Kd.string _ _ _ (⟨#[48,49,50,51,52,53,54,55,56,57]⟩ : ByteArray) [.string (⟨#[48,49,50,51,52,53,54,55,56,57]⟩ : ByteArray)] from rfl) (Reps.one (show Kd.M Kd.string _ _ _ (⟨#[45,95]⟩ : ByteArray) [.string (⟨#[45,95]⟩ : ByteArray)] from rfl) (Reps.none _ _))))));intro v114 w6 ho7 hb hg_ hnew_;clear hg_ hnew_;(first|rw [← Ny113.out] at ho7|(simp only [Int.reduceToNat] at ho7;rw [← Ny113.out] at ho7));have n0_:=Aside0.mk (Kd.R_lower ho7 (below_size (by repeat (first|(with_reducible first|exact HB.out|apply below_alloc|apply pw_below_drewN|apply below_drew1)|exact HB.out))));have n1_:=Aside0.mk (below_step (by repeat (first|(with_reducible first|exact HB.out|apply below_alloc|apply pw_below_drewN|apply below_drew1)|exact HB.out)) hb);clear HB;have HO115:=n0_;have HB:=n1_;clear n0_ n1_;clear hb ho7;obtain ⟨Ao8,co8,eo8⟩:=Kd.R_slice HO115.out;subst eo8)|(go_at_call 38;(with_reducible refine (ticket_only.calls k t111 6 75 _ _ y113 t116 _ ?side1 ?side2 A5.out).mono ?_);(case side1 => repeat (first|exact (Kd.R_reads' HO115.out).2.2|(with_reducible refine Kd.C_alloc ?_ _)|(with_reducible refine Kd.C_drewN ?_ _)|(with_reducible refine Kd.C_drew ?_)));(case side2 => exact (Kd.R_reads' HO115.out).2.1);rintro e w9 ⟨rfl,hb⟩;have n0_:=Aside0.mk (Kd.R_below (by (with_reducible repeat (first|apply Kd.R_alloc|apply Kd.R_drewN|apply Kd.R_drew));exact HO115.out) hb);have n1_:=Aside0.mk (below_step (by repeat (first|(with_reducible first|exact HB.out|apply below_alloc|apply pw_below_drewN|apply below_drew1)|exact HB.out)) hb);clear HO115;clear HB;have HO115:=n0_;have HB:=n1_;clear n0_ n1_;(try clear hb);(try clear hb2);(try clear hk);(try clear hi)))
   go_ret
   exact ⟨by first|rfl|(simp [errW_none,errW_some] <;> rfl)|(simp [*,errW_none,errW_some] <;> rfl),by repeat (first|(with_reducible first|exact HB.out|apply below_alloc|apply pw_below_drewN|apply below_drew1)|exact HB.out)⟩
  ·rw [if_neg c4] at H
   have c4b0 : decide ((a0.size : Int) ≤ 80) = false:=decide_eq_false c4
   have c4b1 : decide (a0.size ≤ 80) = false:=decide_eq_false (by omega)
   clear c4
   obtain rfl:=Option.some.inj H
   go_enter Tryd.func18,Tryd.ntmps18
   go_wp2_with (first|((with_reducible refine gate_callee (f:=37) rfl ?_);refine goesL_ (some 7) rfl rfl Tryd.func37 (by kernel_rfl) rfl #[.string a0,.string (⟨#[46,102,105,102,111]⟩ : ByteArray)] rfl (by (try simp only [List.map_toArray,List.map_cons,List.map_nil]);first|done|rfl|(simp only [List.length_drop,List.length_take];rfl)) ?_;(with_reducible refine (strings_CutSuffix.calls a0 (⟨#[46,102,105,102,111]⟩ : ByteArray) t111 true _ A2.out).mono ?_);rintro e w' ⟨rfl,⟨nd,rfl⟩⟩;refine ⟨_,rfl,?_⟩))
   go_ret
   exact ⟨by first|rfl|(simp [errW_none,errW_some] <;> rfl)|(simp [*,errW_none,errW_some] <;> rfl),by repeat (first|(with_reducible first|exact HB.out|apply below_alloc|apply pw_below_drewN|apply below_drew1)|exact HB.out)⟩
 ·replace c3:=Bool.eq_false_iff.mpr c3
  subst c3
  have H1 : (some false) = some r:=by rw [if_neg (show ¬ (false = true) by decide)] at H;exact H
  clear H
  have H:=H1
  clear H1
  obtain rfl:=Option.some.inj H
  go_enter Tryd.func18,Tryd.ntmps18
  go_wp2_with (first|((with_reducible refine gate_callee (f:=37) rfl ?_);refine goesL_ (some 7) rfl rfl Tryd.func37 (by kernel_rfl) rfl #[.string a0,.string (⟨#[46,102,105,102,111]⟩ : ByteArray)] rfl (by (try simp only [List.map_toArray,List.map_cons,List.map_nil]);first|done|rfl|(simp only [List.length_drop,List.length_take];rfl)) ?_;(with_reducible refine (strings_CutSuffix.calls a0 (⟨#[46,102,105,102,111]⟩ : ByteArray) t111 false _ A2.out).mono ?_);rintro e w' ⟨rfl,⟨nd,rfl⟩⟩;refine ⟨_,rfl,?_⟩))
  go_ret
  exact ⟨by first|rfl|(simp [errW_none,errW_some] <;> rfl)|(simp [*,errW_none,errW_some] <;> rfl),by repeat (first|(with_reducible first|exact HB.out|apply below_alloc|apply pw_below_drewN|apply below_drew1)|exact HB.out)⟩
end Go.Proofs.YtedfgkjimnjdpaaDoor.X
namespace Go.Proofs.YtedfgkjimnjdpaaDoor.X
open Go.RowKit Go.Proofs.YtedfgkjimnjdpaaDoorW.PrintWords Go.Proofs.YtedfgkjimnjdpaaDoorW.PrintLast Go.Proofs.YtedfgkjimnjdpaaDoorW.PrintMore
attribute [local go_sem] max2_int min2_int max_two min_two max_three min_three max_four min_four
set_option linter.unusedVariables false
set_option linter.unusedSimpArgs false
def ticket_host.f (k : Nat) (a0 : ByteArray) : Option (Bool):=(ticket_only.f k a0 1 63 (([(⟨#[97,98,99,100,101,102,103,104,105,106,107,108,109,110,111,112,113,114,115,116,117,118,119,120,121,122]⟩ : ByteArray),(⟨#[48,49,50,51,52,53,54,55,56,57]⟩ : ByteArray),(⟨#[45,46]⟩ : ByteArray)] : List ByteArray))).bind fun t120 => (some t120)
set_option maxHeartbeats 8000000 in
set_option maxRecDepth 100000 in
theorem ticket_host.calls (k : Nat) (a0 : ByteArray) (r : Bool) (w : World) (h : ticket_host.f k a0 = some r) :
  Calls Tryd.prog 35 #[.string a0] w fun e w' => e = .returned (.bool r) ∧ Below w.heap.size w w':=by
 have HB:=Aside0.mk (Below.refl w.heap.size w)
 have H : ((ticket_only.f k a0 1 63 (([(⟨#[97,98,99,100,101,102,103,104,105,106,107,108,109,110,111,112,113,114,115,116,117,118,119,120,121,122]⟩ : ByteArray),(⟨#[48,49,50,51,52,53,54,55,56,57]⟩ : ByteArray),(⟨#[45,46]⟩ : ByteArray)] : List ByteArray))).bind fun t120 => (some t120)) = some r:=h
 clear h
 obtain ⟨y117,hy117⟩ : ∃ y_ : List ByteArray,y_ = (([(⟨#[97,98,99,100,101,102,103,104,105,106,107,108,109,110,111,112,113,114,115,116,117,118,119,120,121,122]⟩ : ByteArray),(⟨#[48,49,50,51,52,53,54,55,56,57]⟩ : ByteArray),(⟨#[45,46]⟩ : ByteArray)] : List ByteArray)):=⟨_,rfl⟩
 replace H : ((ticket_only.f k a0 1 63 y117).bind fun t120 => (some t120)) = some r:=by first|(rw [hy117];with_reducible exact H)|(have H2_:=(Option.bind_some _ _).symm.trans H;rw [hy117];with_reducible exact H2_)|(have H2_:=(Option.bind_some _ _).symm.trans H;with_reducible exact H2_)|with_reducible exact H|(rw [hy117];exact H)|exact H
 have Ny117:=Aside0.mk hy117
 clear hy117
 replace H:=Option.bind_eq_some_iff.mp H
 obtain ⟨t120,A20,H⟩:=H
 replace H : (some t120) = some r:=H
 have A2:=Aside0.mk A20
 clear A20
 obtain rfl:=Option.some.inj H
 go_enter Tryd.func35,Tryd.ntmps35
 go_wp2_with (first|((with_reducible refine gate_dst (N:=4) rfl ?_);refine Kd.R_lit Kd.string _ 9 ?hg (N:=4) ?hd (xs:=([(⟨#[97,98,99,100,101,102,103,104,105,106,107,108,109,110,111,112,113,114,115,116,117,118,119,120,121,122]⟩ : ByteArray),(⟨#[48,49,50,51,52,53,54,55,56,57]⟩ : ByteArray),(⟨#[45,46]⟩ : ByteArray)] : List ByteArray)) (inner:=[.string (⟨#[97,98,99,100,101,102,103,104,105,106,107,108,109,110,111,112,113,114,115,116,117,118,119,120,121,122]⟩ : ByteArray),.string (⟨#[48,49,50,51,52,53,54,55,56,57]⟩ : ByteArray),.string (⟨#[45,46]⟩ : ByteArray)]) (ok:=fun _ => True) (okp:=fun _ => True) ?hr ?hp (fun _ hk => hk) trivial (Below.refl _ _) (Nat.le_refl _) (by simp) ?_;(case hd => rfl);(case hg => rfl);(case hr => first|(go_simp;done)|(go_simp;rfl));(case hp => exact (Reps.one (show Kd.M Kd.string _ _ _ (⟨#[97,98,99,100,101,102,103,104,105,106,107,108,109,110,111,112,113,114,115,116,117,118,119,120,121,122]⟩ : ByteArray) [.string (⟨#[97,98,99,100,101,102,103,104,105,106,107,108,109,110,111,112,113,114,115,116,117,118,119,120,121,122]⟩ : ByteArray)] from rfl) (Reps.one (show Kd.M Kd.string _ _ _ (⟨#[48,49,50,51,52,53,54,55,56,57]⟩ : ByteArray) [.string (⟨#[48,49,50,51,52,53,54,55,56,57]⟩ : ByteArray)] from rfl) (Reps.one (show Kd.M Kd.string _ _ _ (⟨#[45,46]⟩ : ByteArray) [.string (⟨#[45,46]⟩ : ByteArray)] from rfl) (Reps.none _ _)))));intro v118 w3 ho4 hb hg_ hnew_;clear hg_ hnew_;(first|rw [← Ny117.out] at ho4|(simp only [Int.reduceToNat] at ho4;rw [← Ny117.out] at ho4));have n0_:=Aside0.mk (Kd.R_lower ho4 (below_size (by repeat (first|(with_reducible first|exact HB.out|apply below_alloc|apply pw_below_drewN|apply below_drew1)|exact HB.out))));have n1_:=Aside0.mk (below_step (by repeat (first|(with_reducible first|exact HB.out|apply below_alloc|apply pw_below_drewN|apply below_drew1)|exact HB.out)) hb);clear HB;have HO119:=n0_;have HB:=n1_;clear n0_ n1_;clear hb ho4;obtain ⟨Ao5,co5,eo5⟩:=Kd.R_slice HO119.out;subst eo5)|((with_reducible refine gate_callee (f:=38) rfl ?_);refine goesL_ (some 5) rfl rfl Tryd.func38 (by kernel_rfl) rfl #[.string a0,.int .i64 1,.int .i64 63,.slice Ao5 y117.length co5] rfl (by (try simp only [List.map_toArray,List.map_cons,List.map_nil]);first|done|rfl|(simp only [List.length_drop,List.length_take];rfl)) ?_;(with_reducible refine (ticket_only.calls k a0 1 63 _ _ y117 t120 _ ?side1 ?side2 A2.out).mono ?_);(case side1 => repeat (first|exact (Kd.R_reads' HO119.out).2.2|(with_reducible refine Kd.C_alloc ?_ _)|(with_reducible refine Kd.C_drewN ?_ _)|(with_reducible refine Kd.C_drew ?_)));(case side2 => exact (Kd.R_reads' HO119.out).2.1);rintro e w6 ⟨rfl,hb⟩;refine ⟨_,rfl,?_⟩;have n0_:=Aside0.mk (Kd.R_below (by (with_reducible repeat (first|apply Kd.R_alloc|apply Kd.R_drewN|apply Kd.R_drew));exact HO119.out) hb);have n1_:=Aside0.mk (below_step (by repeat (first|(with_reducible first|exact HB.out|apply below_alloc|apply pw_below_drewN|apply below_drew1)|exact HB.out)) hb);clear HO119;clear HB;have HO119:=n0_;have HB:=n1_;clear n0_ n1_;(try clear hb);(try clear hb2);(try clear hk);(try clear hi)))
 go_ret
 exact ⟨by first|rfl|(simp [errW_none,errW_some] <;> rfl)|(simp [*,errW_none,errW_some] <;> rfl),by repeat (first|(with_reducible first|exact HB.out|apply below_alloc|apply pw_below_drewN|apply below_drew1)|exact HB.out)⟩
end Go.Proofs.YtedfgkjimnjdpaaDoor.X
namespace Go.Proofs.YtedfgkjimnjdpaaDoor.X
open Go.RowKit Go.Proofs.YtedfgkjimnjdpaaDoorW.PrintWords Go.Proofs.YtedfgkjimnjdpaaDoorW.PrintLast Go.Proofs.YtedfgkjimnjdpaaDoorW.PrintMore
attribute [local go_sem] max2_int min2_int max_two min_two max_three min_three max_four min_four
set_option linter.unusedVariables false
set_option linter.unusedSimpArgs false
def ticket_account.f (k : Nat) (a0 : ByteArray) : Option (Bool):=(ticket_only.f k a0 12 12 (([(⟨#[48,49,50,51,52,53,54,55,56,57]⟩ : ByteArray)] : List ByteArray))).bind fun t124 => (some t124)
set_option maxHeartbeats 8000000 in
set_option maxRecDepth 100000 in
theorem ticket_account.calls (k : Nat) (a0 : ByteArray) (r : Bool) (w : World) (h : ticket_account.f k a0 = some r) :
  Calls Tryd.prog 36 #[.string a0] w fun e w' => e = .returned (.bool r) ∧ Below w.heap.size w w':=by
 have HB:=Aside0.mk (Below.refl w.heap.size w)
 have H : ((ticket_only.f k a0 12 12 (([(⟨#[48,49,50,51,52,53,54,55,56,57]⟩ : ByteArray)] : List ByteArray))).bind fun t124 => (some t124)) = some r:=h
 clear h
 obtain ⟨y121,hy121⟩ : ∃ y_ : List ByteArray,y_ = (([(⟨#[48,49,50,51,52,53,54,55,56,57]⟩ : ByteArray)] : List ByteArray)):=⟨_,rfl⟩
 replace H : ((ticket_only.f k a0 12 12 y121).bind fun t124 => (some t124)) = some r:=by first|(rw [hy121];with_reducible exact H)|(have H2_:=(Option.bind_some _ _).symm.trans H;rw [hy121];with_reducible exact H2_)|(have H2_:=(Option.bind_some _ _).symm.trans H;with_reducible exact H2_)|with_reducible exact H|(rw [hy121];exact H)|exact H
 have Ny121:=Aside0.mk hy121
 clear hy121
 replace H:=Option.bind_eq_some_iff.mp H
 obtain ⟨t124,A20,H⟩:=H
 replace H : (some t124) = some r:=H
 have A2:=Aside0.mk A20
 clear A20
 obtain rfl:=Option.some.inj H
 go_enter Tryd.func36,Tryd.ntmps36
 go_wp2_with (first|((with_reducible refine gate_dst (N:=4) rfl ?_);refine Kd.R_lit Kd.string _ 9 ?hg (N:=4) ?hd (xs:=([(⟨#[48,49,50,51,52,53,54,55,56,57]⟩ : ByteArray)] : List ByteArray)) (inner:=[.string (⟨#[48,49,50,51,52,53,54,55,56,57]⟩ : ByteArray)]) (ok:=fun _ => True) (okp:=fun _ => True) ?hr ?hp (fun _ hk => hk) trivial (Below.refl _ _) (Nat.le_refl _) (by simp) ?_;(case hd => rfl);(case hg => rfl);(case hr => first|(go_simp;done)|(go_simp;rfl));(case hp => exact (Reps.one (show Kd.M Kd.string _ _ _ (⟨#[48,49,50,51,52,53,54,55,56,57]⟩ : ByteArray) [.string (⟨#[48,49,50,51,52,53,54,55,56,57]⟩ : ByteArray)] from rfl) (Reps.none _ _)));intro v122 w3 ho4 hb hg_ hnew_;clear hg_ hnew_;(first|rw [← Ny121.out] at ho4|(simp only [Int.reduceToNat] at ho4;rw [← Ny121.out] at ho4));have n0_:=Aside0.mk (Kd.R_lower ho4 (below_size (by repeat (first|(with_reducible first|exact HB.out|apply below_alloc|apply pw_below_drewN|apply below_drew1)|exact HB.out))));have n1_:=Aside0.mk (below_step (by repeat (first|(with_reducible first|exact HB.out|apply below_alloc|apply pw_below_drewN|apply below_drew1)|exact HB.out)) hb);clear HB;have HO123:=n0_;have HB:=n1_;clear n0_ n1_;clear hb ho4;obtain ⟨Ao5,co5,eo5⟩:=Kd.R_slice HO123.out;subst eo5)|((with_reducible refine gate_callee (f:=38) rfl ?_);refine goesL_ (some 5) rfl rfl Tryd.func38 (by kernel_rfl) rfl #[.string a0,.int .i64 12,.int .i64 12,.slice Ao5 y121.length co5] rfl (by (try simp only [List.map_toArray,List.map_cons,List.map_nil]);first|done|rfl|(simp only [List.length_drop,List.length_take];rfl)) ?_;(with_reducible refine (ticket_only.calls k a0 12 12 _ _ y121 t124 _ ?side1 ?side2 A2.out).mono ?_);(case side1 => repeat (first|exact (Kd.R_reads' HO123.out).2.2|(with_reducible refine Kd.C_alloc ?_ _)|(with_reducible refine Kd.C_drewN ?_ _)|(with_reducible refine Kd.C_drew ?_)));(case side2 => exact (Kd.R_reads' HO123.out).2.1);rintro e w6 ⟨rfl,hb⟩;refine ⟨_,rfl,?_⟩;have n0_:=Aside0.mk (Kd.R_below (by (with_reducible repeat (first|apply Kd.R_alloc|apply Kd.R_drewN|apply Kd.R_drew));exact HO123.out) hb);have n1_:=Aside0.mk (below_step (by repeat (first|(with_reducible first|exact HB.out|apply below_alloc|apply pw_below_drewN|apply below_drew1)|exact HB.out)) hb);clear HO123;clear HB;have HO123:=n0_;have HB:=n1_;clear n0_ n1_;(try clear hb);(try clear hb2);(try clear hk);(try clear hi)))
 go_ret
 exact ⟨by first|rfl|(simp [errW_none,errW_some] <;> rfl)|(simp [*,errW_none,errW_some] <;> rfl),by repeat (first|(with_reducible first|exact HB.out|apply below_alloc|apply pw_below_drewN|apply below_drew1)|exact HB.out)⟩
end Go.Proofs.YtedfgkjimnjdpaaDoor.X
namespace Go.Proofs.YtedfgkjimnjdpaaDoor.X
open Go.RowKit Go.Proofs.YtedfgkjimnjdpaaDoorW.PrintWords Go.Proofs.YtedfgkjimnjdpaaDoorW.PrintLast Go.Proofs.YtedfgkjimnjdpaaDoorW.PrintMore
attribute [local go_sem] max2_int min2_int max_two min_two max_three min_three max_four min_four
set_option linter.unusedVariables false
set_option linter.unusedSimpArgs false
def ticket_Url.f (k : Nat) (a0 : ByteArray) (a1 : ByteArray) (a2 : ByteArray) : Option (ByteArray × Int):=(ticket_host.f k a0).bind fun t125 => (if t125 = true then ((ticket_account.f k a1).bind fun t126 => (if t126 = true then ((ticket_Queue.f k a2).bind fun t127 => (if t127 = true then (if 8 + a0.size ≤ 9223372036854775807 then (if 8 + a0.size + 1 ≤ 9223372036854775807 then (if 8 + a0.size + 1 + a1.size ≤ 9223372036854775807 then (if 8 + a0.size + 1 + a1.size + 1 ≤ 9223372036854775807 then (if 8 + a0.size + 1 + a1.size + 1 + a2.size ≤ 9223372036854775807 then (some ((((((⟨#[104,116,116,112,115,58,47,47]⟩ : ByteArray) ++ a0) ++ (⟨#[47]⟩ : ByteArray)) ++ a1) ++ (⟨#[47]⟩ : ByteArray)) ++ a2,0)) else (none)) else (none)) else (none)) else (none)) else (none)) else (some ((⟨#[]⟩ : ByteArray),2)))) else (some ((⟨#[]⟩ : ByteArray),2)))) else (some ((⟨#[]⟩ : ByteArray),2)))
set_option maxHeartbeats 8000000 in
set_option maxRecDepth 100000 in
theorem ticket_Url.calls (k : Nat) (a0 : ByteArray) (a1 : ByteArray) (a2 : ByteArray) (r1 : ByteArray) (r2 : Int) (w : World) (h : ticket_Url.f k a0 a1 a2 = some (r1,r2)) :
  Calls Tryd.prog 16 #[.string a0,.string a1,.string a2] w fun e w' => e = .returned (.tuple #[.string r1,.int .i64 r2]) ∧ Below w.heap.size w w':=by
 have HB:=Aside0.mk (Below.refl w.heap.size w)
 have H : ((ticket_host.f k a0).bind fun t125 => (if t125 = true then ((ticket_account.f k a1).bind fun t126 => (if t126 = true then ((ticket_Queue.f k a2).bind fun t127 => (if t127 = true then (if 8 + a0.size ≤ 9223372036854775807 then (if 8 + a0.size + 1 ≤ 9223372036854775807 then (if 8 + a0.size + 1 + a1.size ≤ 9223372036854775807 then (if 8 + a0.size + 1 + a1.size + 1 ≤ 9223372036854775807 then (if 8 + a0.size + 1 + a1.size + 1 + a2.size ≤ 9223372036854775807 then (some ((((((⟨#[104,116,116,112,115,58,47,47]⟩ : ByteArray) ++ a0) ++ (⟨#[47]⟩ : ByteArray)) ++ a1) ++ (⟨#[47]⟩ : ByteArray)) ++ a2,0)) else (none)) else (none)) else (none)) else (none)) else (none)) else (some ((⟨#[]⟩ : ByteArray),2)))) else (some ((⟨#[]⟩ : ByteArray),2)))) else (some ((⟨#[]⟩ : ByteArray),2)))) = some (r1,r2):=h
 clear h
 replace H:=Option.bind_eq_some_iff.mp H
 obtain ⟨t125,A40,H⟩:=H
 replace H : (if t125 = true then ((ticket_account.f k a1).bind fun t126 => (if t126 = true then ((ticket_Queue.f k a2).bind fun t127 => (if t127 = true then (if 8 + a0.size ≤ 9223372036854775807 then (if 8 + a0.size + 1 ≤ 9223372036854775807 then (if 8 + a0.size + 1 + a1.size ≤ 9223372036854775807 then (if 8 + a0.size + 1 + a1.size + 1 ≤ 9223372036854775807 then (if 8 + a0.size + 1 + a1.size + 1 + a2.size ≤ 9223372036854775807 then (some ((((((⟨#[104,116,116,112,115,58,47,47]⟩ : ByteArray) ++ a0) ++ (⟨#[47]⟩ : ByteArray)) ++ a1) ++ (⟨#[47]⟩ : ByteArray)) ++ a2,0)) else (none)) else (none)) else (none)) else (none)) else (none)) else (some ((⟨#[]⟩ : ByteArray),2)))) else (some ((⟨#[]⟩ : ByteArray),2)))) else (some ((⟨#[]⟩ : ByteArray),2))) = some (r1,r2):=H
 have A4:=Aside0.mk A40
 clear A40
 by_cases c5 : t125 = true
 ·subst c5
  have H1 : ((ticket_account.f k a1).bind fun t126 => (if t126 = true then ((ticket_Queue.f k a2).bind fun t127 => (if t127 = true then (if 8 + a0.size ≤ 9223372036854775807 then (if 8 + a0.size + 1 ≤ 9223372036854775807 then (if 8 + a0.size + 1 + a1.size ≤ 9223372036854775807 then (if 8 + a0.size + 1 + a1.size + 1 ≤ 9223372036854775807 then (if 8 + a0.size + 1 + a1.size + 1 + a2.size ≤ 9223372036854775807 then (some ((((((⟨#[104,116,116,112,115,58,47,47]⟩ : ByteArray) ++ a0) ++ (⟨#[47]⟩ : ByteArray)) ++ a1) ++ (⟨#[47]⟩ : ByteArray)) ++ a2,0)) else (none)) else (none)) else (none)) else (none)) else (none)) else (some ((⟨#[]⟩ : ByteArray),2)))) else (some ((⟨#[]⟩ : ByteArray),2)))) = some (r1,r2):=by rw [if_pos rfl] at H;exact H
  clear H
  have H:=H1
  clear H1
  replace H:=Option.bind_eq_some_iff.mp H
  obtain ⟨t126,A60,H⟩:=H
  replace H : (if t126 = true then ((ticket_Queue.f k a2).bind fun t127 => (if t127 = true then (if 8 + a0.size ≤ 9223372036854775807 then (if 8 + a0.size + 1 ≤ 9223372036854775807 then (if 8 + a0.size + 1 + a1.size ≤ 9223372036854775807 then (if 8 + a0.size + 1 + a1.size + 1 ≤ 9223372036854775807 then (if 8 + a0.size + 1 + a1.size + 1 + a2.size ≤ 9223372036854775807 then (some ((((((⟨#[104,116,116,112,115,58,47,47]⟩ : ByteArray) ++ a0) ++ (⟨#[47]⟩ : ByteArray)) ++ a1) ++ (⟨#[47]⟩ : ByteArray)) ++ a2,0)) else (none)) else (none)) else (none)) else (none)) else (none)) else (some ((⟨#[]⟩ : ByteArray),2)))) else (some ((⟨#[]⟩ : ByteArray),2))) = some (r1,r2):=H
  have A6:=Aside0.mk A60
  clear A60
  by_cases c7 : t126 = true
  ·subst c7
   have H1 : ((ticket_Queue.f k a2).bind fun t127 => (if t127 = true then (if 8 + a0.size ≤ 9223372036854775807 then (if 8 + a0.size + 1 ≤ 9223372036854775807 then (if 8 + a0.size + 1 + a1.size ≤ 9223372036854775807 then (if 8 + a0.size + 1 + a1.size + 1 ≤ 9223372036854775807 then (if 8 + a0.size + 1 + a1.size + 1 + a2.size ≤ 9223372036854775807 then (some ((((((⟨#[104,116,116,112,115,58,47,47]⟩ : ByteArray) ++ a0) ++ (⟨#[47]⟩ : ByteArray)) ++ a1) ++ (⟨#[47]⟩ : ByteArray)) ++ a2,0)) else (none)) else (none)) else (none)) else (none)) else (none)) else (some ((⟨#[]⟩ : ByteArray),2)))) = some (r1,r2):=by rw [if_pos rfl] at H;exact H
   clear H
   have H:=H1
   clear H1
   replace H:=Option.bind_eq_some_iff.mp H
   obtain ⟨t127,A80,H⟩:=H
   replace H : (if t127 = true then (if 8 + a0.size ≤ 9223372036854775807 then (if 8 + a0.size + 1 ≤ 9223372036854775807 then (if 8 + a0.size + 1 + a1.size ≤ 9223372036854775807 then (if 8 + a0.size + 1 + a1.size + 1 ≤ 9223372036854775807 then (if 8 + a0.size + 1 + a1.size + 1 + a2.size ≤ 9223372036854775807 then (some ((((((⟨#[104,116,116,112,115,58,47,47]⟩ : ByteArray) ++ a0) ++ (⟨#[47]⟩ : ByteArray)) ++ a1) ++ (⟨#[47]⟩ : ByteArray)) ++ a2,0)) else (none)) else (none)) else (none)) else (none)) else (none)) else (some ((⟨#[]⟩ : ByteArray),2))) = some (r1,r2):=H
   have A8:=Aside0.mk A80
   clear A80
   by_cases c9 : t127 = true
   ·subst c9
    have H1 : (if 8 + a0.size ≤ 9223372036854775807 then (if 8 + a0.size + 1 ≤ 9223372036854775807 then (if 8 + a0.size + 1 + a1.size ≤ 9223372036854775807 then (if 8 + a0.size + 1 + a1.size + 1 ≤ 9223372036854775807 then (if 8 + a0.size + 1 + a1.size + 1 + a2.size ≤ 9223372036854775807 then (some ((((((⟨#[104,116,116,112,115,58,47,47]⟩ : ByteArray) ++ a0) ++ (⟨#[47]⟩ : ByteArray)) ++ a1) ++ (⟨#[47]⟩ : ByteArray)) ++ a2,0)) else (none)) else (none)) else (none)) else (none)) else (none)) = some (r1,r2):=by rw [if_pos rfl] at H;exact H
    clear H
    have H:=H1
    clear H1
    by_cases c10 : 8 + a0.size ≤ 9223372036854775807
    ·rw [if_pos c10] at H
     have c10b0:=eq_true c10
     have c10b1 : decide (8 + a0.size ≤ 9223372036854775807) = true:=decide_eq_true c10
     try have c10b2 : (9223372036854775807 < 8 + a0.size) = False:=eq_false (Nat.not_lt.2 c10)
     by_cases c11 : 8 + a0.size + 1 ≤ 9223372036854775807
     ·rw [if_pos c11] at H
      have c11b0:=eq_true c11
      have c11b1 : decide (8 + a0.size + 1 ≤ 9223372036854775807) = true:=decide_eq_true c11
      try have c11b2 : (9223372036854775807 < 8 + a0.size + 1) = False:=eq_false (Nat.not_lt.2 c11)
      by_cases c12 : 8 + a0.size + 1 + a1.size ≤ 9223372036854775807
      ·rw [if_pos c12] at H
       have c12b0:=eq_true c12
       have c12b1 : decide (8 + a0.size + 1 + a1.size ≤ 9223372036854775807) = true:=decide_eq_true c12
       try have c12b2 : (9223372036854775807 < 8 + a0.size + 1 + a1.size) = False:=eq_false (Nat.not_lt.2 c12)
       by_cases c13 : 8 + a0.size + 1 + a1.size + 1 ≤ 9223372036854775807
       ·rw [if_pos c13] at H
        have c13b0:=eq_true c13
        have c13b1 : decide (8 + a0.size + 1 + a1.size + 1 ≤ 9223372036854775807) = true:=decide_eq_true c13
        try have c13b2 : (9223372036854775807 < 8 + a0.size + 1 + a1.size + 1) = False:=eq_false (Nat.not_lt.2 c13)
        by_cases c14 : 8 + a0.size + 1 + a1.size + 1 + a2.size ≤ 9223372036854775807
        ·rw [if_pos c14] at H
         have c14b0:=eq_true c14
         have c14b1 : decide (8 + a0.size + 1 + a1.size + 1 + a2.size ≤ 9223372036854775807) = true:=decide_eq_true c14
         try have c14b2 : (9223372036854775807 < 8 + a0.size + 1 + a1.size + 1 + a2.size) = False:=eq_false (Nat.not_lt.2 c14)
         simp only [Option.some.injEq,Prod.mk.injEq] at H
         obtain ⟨rfl,rfl⟩:=H
         go_enter Tryd.func16,Tryd.ntmps16
         go_wp2_with (first|((with_reducible refine gate_callee (f:=35) rfl ?_);refine goesL_ (some 9) rfl rfl Tryd.func35 (by kernel_rfl) rfl #[.string a0] rfl (by (try simp only [List.map_toArray,List.map_cons,List.map_nil]);first|done|rfl|(simp only [List.length_drop,List.length_take];rfl)) ?_;(with_reducible refine (ticket_host.calls k a0 true _ A4.out).mono ?_);rintro e w15 ⟨rfl,hb⟩;refine ⟨_,rfl,?_⟩;have n0_:=Aside0.mk (below_step (by repeat (first|(with_reducible first|exact HB.out|apply below_alloc|apply pw_below_drewN|apply below_drew1)|exact HB.out)) hb);clear HB;have HB:=n0_;clear n0_;(try clear hb);(try clear hb2);(try clear hk);(try clear hi))|(go_at_call 36;(with_reducible refine (ticket_account.calls k a1 true _ A6.out).mono ?_);rintro e w16 ⟨rfl,hb⟩;have n0_:=Aside0.mk (below_step (by repeat (first|(with_reducible first|exact HB.out|apply below_alloc|apply pw_below_drewN|apply below_drew1)|exact HB.out)) hb);clear HB;have HB:=n0_;clear n0_;(try clear hb);(try clear hb2);(try clear hk);(try clear hi))|(go_at_call 18;(with_reducible refine (ticket_Queue.calls k a2 true _ A8.out).mono ?_);rintro e w17 ⟨rfl,hb⟩;have n0_:=Aside0.mk (below_step (by repeat (first|(with_reducible first|exact HB.out|apply below_alloc|apply pw_below_drewN|apply below_drew1)|exact HB.out)) hb);clear HB;have HB:=n0_;clear n0_;(try clear hb);(try clear hb2);(try clear hk);(try clear hi)))
         go_ret2
         exact ⟨by first|rfl|(simp [errW_none,errW_some] <;> rfl)|(simp [*,errW_none,errW_some] <;> rfl),by repeat (first|(with_reducible first|exact HB.out|apply below_alloc|apply pw_below_drewN|apply below_drew1)|exact HB.out)⟩
        ·rw [if_neg c14] at H
         exact absurd H (by simp)
       ·rw [if_neg c13] at H
        exact absurd H (by simp)
      ·rw [if_neg c12] at H
       exact absurd H (by simp)
     ·rw [if_neg c11] at H
      exact absurd H (by simp)
    ·rw [if_neg c10] at H
     exact absurd H (by simp)
   ·replace c9:=Bool.eq_false_iff.mpr c9
    subst c9
    have H1 : (some ((⟨#[]⟩ : ByteArray),2)) = some (r1,r2):=by rw [if_neg (show ¬ (false = true) by decide)] at H;exact H
    clear H
    have H:=H1
    clear H1
    simp only [Option.some.injEq,Prod.mk.injEq] at H
    obtain ⟨rfl,rfl⟩:=H
    go_enter Tryd.func16,Tryd.ntmps16
    go_wp2_with (first|((with_reducible refine gate_callee (f:=35) rfl ?_);refine goesL_ (some 9) rfl rfl Tryd.func35 (by kernel_rfl) rfl #[.string a0] rfl (by (try simp only [List.map_toArray,List.map_cons,List.map_nil]);first|done|rfl|(simp only [List.length_drop,List.length_take];rfl)) ?_;(with_reducible refine (ticket_host.calls k a0 true _ A4.out).mono ?_);rintro e w18 ⟨rfl,hb⟩;refine ⟨_,rfl,?_⟩;have n0_:=Aside0.mk (below_step (by repeat (first|(with_reducible first|exact HB.out|apply below_alloc|apply pw_below_drewN|apply below_drew1)|exact HB.out)) hb);clear HB;have HB:=n0_;clear n0_;(try clear hb);(try clear hb2);(try clear hk);(try clear hi))|(go_at_call 36;(with_reducible refine (ticket_account.calls k a1 true _ A6.out).mono ?_);rintro e w19 ⟨rfl,hb⟩;have n0_:=Aside0.mk (below_step (by repeat (first|(with_reducible first|exact HB.out|apply below_alloc|apply pw_below_drewN|apply below_drew1)|exact HB.out)) hb);clear HB;have HB:=n0_;clear n0_;(try clear hb);(try clear hb2);(try clear hk);(try clear hi))|(go_at_call 18;(with_reducible refine (ticket_Queue.calls k a2 false _ A8.out).mono ?_);rintro e w20 ⟨rfl,hb⟩;have n0_:=Aside0.mk (below_step (by repeat (first|(with_reducible first|exact HB.out|apply below_alloc|apply pw_below_drewN|apply below_drew1)|exact HB.out)) hb);clear HB;have HB:=n0_;clear n0_;(try clear hb);(try clear hb2);(try clear hk);(try clear hi)))
    go_ret2
    exact ⟨by first|rfl|(simp [errW_none,errW_some] <;> rfl)|(simp [*,errW_none,errW_some] <;> rfl),by repeat (first|(with_reducible first|exact HB.out|apply below_alloc|apply pw_below_drewN|apply below_drew1)|exact HB.out)⟩
  ·replace c7:=Bool.eq_false_iff.mpr c7
   subst c7
   have H1 : (some ((⟨#[]⟩ : ByteArray),2)) = some (r1,r2):=by rw [if_neg (show ¬ (false = true) by decide)] at H;exact H
   clear H
   have H:=H1
   clear H1
   simp only [Option.some.injEq,Prod.mk.injEq] at H
   obtain ⟨rfl,rfl⟩:=H
   go_enter Tryd.func16,Tryd.ntmps16
   go_wp2_with (first|((with_reducible refine gate_callee (f:=35) rfl ?_);refine goesL_ (some 9) rfl rfl Tryd.func35 (by kernel_rfl) rfl #[.string a0] rfl (by (try simp only [List.map_toArray,List.map_cons,List.map_nil]);first|done|rfl|(simp only [List.length_drop,List.length_take];rfl)) ?_;(with_reducible refine (ticket_host.calls k a0 true _ A4.out).mono ?_);rintro e w21 ⟨rfl,hb⟩;refine ⟨_,rfl,?_⟩;have n0_:=Aside0.mk (below_step (by repeat (first|(with_reducible first|exact HB.out|apply below_alloc|apply pw_below_drewN|apply below_drew1)|exact HB.out)) hb);clear HB;have HB:=n0_;clear n0_;(try clear hb);(try clear hb2);(try clear hk);(try clear hi))|(go_at_call 36;(with_reducible refine (ticket_account.calls k a1 false _ A6.out).mono ?_);rintro e w22 ⟨rfl,hb⟩;have n0_:=Aside0.mk (below_step (by repeat (first|(with_reducible first|exact HB.out|apply below_alloc|apply pw_below_drewN|apply below_drew1)|exact HB.out)) hb);clear HB;have HB:=n0_;clear n0_;(try clear hb);(try clear hb2);(try clear hk);(try clear hi)))
   go_ret2
   exact ⟨by first|rfl|(simp [errW_none,errW_some] <;> rfl)|(simp [*,errW_none,errW_some] <;> rfl),by repeat (first|(with_reducible first|exact HB.out|apply below_alloc|apply pw_below_drewN|apply below_drew1)|exact HB.out)⟩
 ·replace c5:=Bool.eq_false_iff.mpr c5
  subst c5
  have H1 : (some ((⟨#[]⟩ : ByteArray),2)) = some (r1,r2):=by rw [if_neg (show ¬ (false = true) by decide)] at H;exact H
  clear H
  have H:=H1
  clear H1
  simp only [Option.some.injEq,Prod.mk.injEq] at H
  obtain ⟨rfl,rfl⟩:=H
  go_enter Tryd.func16,Tryd.ntmps16
  go_wp2_with (first|((with_reducible refine gate_callee (f:=35) rfl ?_);refine goesL_ (some 9) rfl rfl Tryd.func35 (by kernel_rfl) rfl #[.string a0] rfl (by (try simp only [List.map_toArray,List.map_cons,List.map_nil]);first|done|rfl|(simp only [List.length_drop,List.length_take];rfl)) ?_;(with_reducible refine (ticket_host.calls k a0 false _ A4.out).mono ?_);rintro e w23 ⟨rfl,hb⟩;refine ⟨_,rfl,?_⟩;have n0_:=Aside0.mk (below_step (by repeat (first|(with_reducible first|exact HB.out|apply below_alloc|apply pw_below_drewN|apply below_drew1)|exact HB.out)) hb);clear HB;have HB:=n0_;clear n0_;(try clear hb);(try clear hb2);(try clear hk);(try clear hi)))
  go_ret2
  exact ⟨by first|rfl|(simp [errW_none,errW_some] <;> rfl)|(simp [*,errW_none,errW_some] <;> rfl),by repeat (first|(with_reducible first|exact HB.out|apply below_alloc|apply pw_below_drewN|apply below_drew1)|exact HB.out)⟩
end Go.Proofs.YtedfgkjimnjdpaaDoor.X
namespace Go.Proofs.YtedfgkjimnjdpaaDoor.X
open Go.RowKit Go.Proofs.YtedfgkjimnjdpaaDoorW.PrintWords Go.Proofs.YtedfgkjimnjdpaaDoorW.PrintLast Go.Proofs.YtedfgkjimnjdpaaDoorW.PrintMore
attribute [local go_sem] max2_int min2_int max_two min_two max_three min_three max_four min_four
set_option linter.unusedVariables false
set_option linter.unusedSimpArgs false
def racewaylaw27_works.f (k : Nat)  : Option (Bool):=(ticket_Url.f k (⟨#[115,113,115,46,108,111,99,97,108]⟩ : ByteArray) (⟨#[49,50,51,52,53,54,55,56,57,48,49,50]⟩ : ByteArray) (⟨#[97,46,102,105,102,111]⟩ : ByteArray)).bind fun bt128 => ((ticket_Url.f k (⟨#[115,113,115,46,108,111,99,97,108]⟩ : ByteArray) (⟨#[49,50,51,52,53,54,55,56,57,48,49,50]⟩ : ByteArray) (⟨#[111,114,100,101,114,115,46,102,105,102,111]⟩ : ByteArray)).bind fun bt130 => (if bt128.2 = 2 then (if bt130.1.toList = ([104,116,116,112,115,58,47,47,115,113,115,46,108,111,99,97,108,47,49,50,51,52,53,54,55,56,57,48,49,50,47,111,114,100,101,114,115,46,102,105,102,111] : List UInt8) then (if bt130.2 = 0 then ((ticket_Sequence.f 7).bind fun t132 => (some (t132.toList == ([48,48,48,48,48,48,48,48,48,48,48,48,48,48,48,48,48,48,48,55] : List UInt8)))) else (some false)) else (some false)) else (some false)))
set_option maxHeartbeats 8000000 in
set_option maxRecDepth 100000 in
theorem racewaylaw27_works.calls (k : Nat)  (r : Bool) (w : World) (h : racewaylaw27_works.f k  = some r) :
  Calls Tryd.prog 11 #[] w fun e w' => e = .returned (.bool r) ∧ Below w.heap.size w w':=by
 have HB:=Aside0.mk (Below.refl w.heap.size w)
 have H : ((ticket_Url.f k (⟨#[115,113,115,46,108,111,99,97,108]⟩ : ByteArray) (⟨#[49,50,51,52,53,54,55,56,57,48,49,50]⟩ : ByteArray) (⟨#[97,46,102,105,102,111]⟩ : ByteArray)).bind fun bt128 => ((ticket_Url.f k (⟨#[115,113,115,46,108,111,99,97,108]⟩ : ByteArray) (⟨#[49,50,51,52,53,54,55,56,57,48,49,50]⟩ : ByteArray) (⟨#[111,114,100,101,114,115,46,102,105,102,111]⟩ : ByteArray)).bind fun bt130 => (if bt128.2 = 2 then (if bt130.1.toList = ([104,116,116,112,115,58,47,47,115,113,115,46,108,111,99,97,108,47,49,50,51,52,53,54,55,56,57,48,49,50,47,111,114,100,101,114,115,46,102,105,102,111] : List UInt8) then (if bt130.2 = 0 then ((ticket_Sequence.f 7).bind fun t132 => (some (t132.toList == ([48,48,48,48,48,48,48,48,48,48,48,48,48,48,48,48,48,48,48,55] : List UInt8)))) else (some false)) else (some false)) else (some false)))) = some r:=h
 clear h
 replace H:=Option.bind_eq_some_iff.mp H
 obtain ⟨⟨t128,t129⟩,A10,H⟩:=H
 replace H : ((ticket_Url.f k (⟨#[115,113,115,46,108,111,99,97,108]⟩ : ByteArray) (⟨#[49,50,51,52,53,54,55,56,57,48,49,50]⟩ : ByteArray) (⟨#[111,114,100,101,114,115,46,102,105,102,111]⟩ : ByteArray)).bind fun bt130 => (if t129 = 2 then (if bt130.1.toList = ([104,116,116,112,115,58,47,47,115,113,115,46,108,111,99,97,108,47,49,50,51,52,53,54,55,56,57,48,49,50,47,111,114,100,101,114,115,46,102,105,102,111] : List UInt8) then (if bt130.2 = 0 then ((ticket_Sequence.f 7).bind fun t132 => (some (t132.toList == ([48,48,48,48,48,48,48,48,48,48,48,48,48,48,48,48,48,48,48,55] : List UInt8)))) else (some false)) else (some false)) else (some false))) = some r:=H
 have A1:=Aside0.mk A10
 clear A10
 replace H:=Option.bind_eq_some_iff.mp H
 obtain ⟨⟨t130,t131⟩,A20,H⟩:=H
 replace H : (if t129 = 2 then (if t130.toList = ([104,116,116,112,115,58,47,47,115,113,115,46,108,111,99,97,108,47,49,50,51,52,53,54,55,56,57,48,49,50,47,111,114,100,101,114,115,46,102,105,102,111] : List UInt8) then (if t131 = 0 then ((ticket_Sequence.f 7).bind fun t132 => (some (t132.toList == ([48,48,48,48,48,48,48,48,48,48,48,48,48,48,48,48,48,48,48,55] : List UInt8)))) else (some false)) else (some false)) else (some false)) = some r:=H
 have A2:=Aside0.mk A20
 clear A20
 by_cases c3 : t129 = 2
 ·rw [if_pos c3] at H
  have c3b0 : (t129 == 2) = true:=beq_iff_eq.mpr c3
  have c3b1 : (t129 != 2) = false:=bne_eq_false_iff_eq.mpr c3
  clear c3
  by_cases c4 : t130.toList = ([104,116,116,112,115,58,47,47,115,113,115,46,108,111,99,97,108,47,49,50,51,52,53,54,55,56,57,48,49,50,47,111,114,100,101,114,115,46,102,105,102,111] : List UInt8)
  ·rw [if_pos c4] at H
   have c4b0 : (t130.toList == ([104,116,116,112,115,58,47,47,115,113,115,46,108,111,99,97,108,47,49,50,51,52,53,54,55,56,57,48,49,50,47,111,114,100,101,114,115,46,102,105,102,111] : List UInt8)) = true:=beq_iff_eq.mpr c4
   have c4b1 : (t130.toList != ([104,116,116,112,115,58,47,47,115,113,115,46,108,111,99,97,108,47,49,50,51,52,53,54,55,56,57,48,49,50,47,111,114,100,101,114,115,46,102,105,102,111] : List UInt8)) = false:=bne_eq_false_iff_eq.mpr c4
   clear c4
   by_cases c5 : t131 = 0
   ·rw [if_pos c5] at H
    have c5b0 : (t131 == 0) = true:=beq_iff_eq.mpr c5
    have c5b1 : (t131 != 0) = false:=bne_eq_false_iff_eq.mpr c5
    clear c5
    replace H:=Option.bind_eq_some_iff.mp H
    obtain ⟨t132,A60,H⟩:=H
    replace H : (some (t132.toList == ([48,48,48,48,48,48,48,48,48,48,48,48,48,48,48,48,48,48,48,55] : List UInt8))) = some r:=H
    have A6:=Aside0.mk A60
    clear A60
    obtain rfl:=Option.some.inj H
    go_enter Tryd.func11,Tryd.ntmps11
    go_wp2_with (first|((with_reducible refine gate_callee (f:=16) rfl ?_);refine goesL_ (some 6) rfl rfl Tryd.func16 (by kernel_rfl) rfl #[.string (⟨#[115,113,115,46,108,111,99,97,108]⟩ : ByteArray),.string (⟨#[49,50,51,52,53,54,55,56,57,48,49,50]⟩ : ByteArray),.string (⟨#[97,46,102,105,102,111]⟩ : ByteArray)] rfl (by (try simp only [List.map_toArray,List.map_cons,List.map_nil]);first|done|rfl|(simp only [List.length_drop,List.length_take];rfl)) ?_;(with_reducible refine (ticket_Url.calls k (⟨#[115,113,115,46,108,111,99,97,108]⟩ : ByteArray) (⟨#[49,50,51,52,53,54,55,56,57,48,49,50]⟩ : ByteArray) (⟨#[97,46,102,105,102,111]⟩ : ByteArray) t128 t129 _ A1.out).mono ?_);rintro e w7 ⟨rfl,hb⟩;refine ⟨_,rfl,?_⟩;have n0_:=Aside0.mk (below_step (by repeat (first|(with_reducible first|exact HB.out|apply below_alloc|apply pw_below_drewN|apply below_drew1)|exact HB.out)) hb);clear HB;have HB:=n0_;clear n0_;(try clear hb);(try clear hb2);(try clear hk);(try clear hi))|((with_reducible refine gate_callee (f:=16) rfl ?_);refine goesL_ (some 10) rfl rfl Tryd.func16 (by kernel_rfl) rfl #[.string (⟨#[115,113,115,46,108,111,99,97,108]⟩ : ByteArray),.string (⟨#[49,50,51,52,53,54,55,56,57,48,49,50]⟩ : ByteArray),.string (⟨#[111,114,100,101,114,115,46,102,105,102,111]⟩ : ByteArray)] rfl (by (try simp only [List.map_toArray,List.map_cons,List.map_nil]);first|done|rfl|(simp only [List.length_drop,List.length_take];rfl)) ?_;(with_reducible refine (ticket_Url.calls k (⟨#[115,113,115,46,108,111,99,97,108]⟩ : ByteArray) (⟨#[49,50,51,52,53,54,55,56,57,48,49,50]⟩ : ByteArray) (⟨#[111,114,100,101,114,115,46,102,105,102,111]⟩ : ByteArray) t130 t131 _ A2.out).mono ?_);rintro e w8 ⟨rfl,hb⟩;refine ⟨_,rfl,?_⟩;have n0_:=Aside0.mk (below_step (by repeat (first|(with_reducible first|exact HB.out|apply below_alloc|apply pw_below_drewN|apply below_drew1)|exact HB.out)) hb);clear HB;have HB:=n0_;clear n0_;(try clear hb);(try clear hb2);(try clear hk);(try clear hi))|(go_at_call 10;(with_reducible refine (ticket_Sequence.calls 7 t132 _ A6.out).mono ?_);rintro e w9 ⟨rfl,hb⟩;have n0_:=Aside0.mk (below_step (by repeat (first|(with_reducible first|exact HB.out|apply below_alloc|apply pw_below_drewN|apply below_drew1)|exact HB.out)) hb);clear HB;have HB:=n0_;clear n0_;(try clear hb);(try clear hb2);(try clear hk);(try clear hi)))
    go_ret
    exact ⟨by first|rfl|(simp [errW_none,errW_some] <;> rfl)|(simp [*,errW_none,errW_some] <;> rfl),by repeat (first|(with_reducible first|exact HB.out|apply below_alloc|apply pw_below_drewN|apply below_drew1)|exact HB.out)⟩
   ·rw [if_neg c5] at H
    have c5b0 : (t131 == 0) = false:=beq_eq_false_iff_ne.mpr c5
    have c5b1 : (t131 != 0) = true:=bne_iff_ne.mpr c5
    obtain rfl:=Option.some.inj H
    go_enter Tryd.func11,Tryd.ntmps11
    go_wp2_with (first|((with_reducible refine gate_callee (f:=16) rfl ?_);refine goesL_ (some 6) rfl rfl Tryd.func16 (by kernel_rfl) rfl #[.string (⟨#[115,113,115,46,108,111,99,97,108]⟩ : ByteArray),.string (⟨#[49,50,51,52,53,54,55,56,57,48,49,50]⟩ : ByteArray),.string (⟨#[97,46,102,105,102,111]⟩ : ByteArray)] rfl (by (try simp only [List.map_toArray,List.map_cons,List.map_nil]);first|done|rfl|(simp only [List.length_drop,List.length_take];rfl)) ?_;(with_reducible refine (ticket_Url.calls k (⟨#[115,113,115,46,108,111,99,97,108]⟩ : ByteArray) (⟨#[49,50,51,52,53,54,55,56,57,48,49,50]⟩ : ByteArray) (⟨#[97,46,102,105,102,111]⟩ : ByteArray) t128 t129 _ A1.out).mono ?_);rintro e w10 ⟨rfl,hb⟩;refine ⟨_,rfl,?_⟩;have n0_:=Aside0.mk (below_step (by repeat (first|(with_reducible first|exact HB.out|apply below_alloc|apply pw_below_drewN|apply below_drew1)|exact HB.out)) hb);clear HB;have HB:=n0_;clear n0_;(try clear hb);(try clear hb2);(try clear hk);(try clear hi))|((with_reducible refine gate_callee (f:=16) rfl ?_);refine goesL_ (some 10) rfl rfl Tryd.func16 (by kernel_rfl) rfl #[.string (⟨#[115,113,115,46,108,111,99,97,108]⟩ : ByteArray),.string (⟨#[49,50,51,52,53,54,55,56,57,48,49,50]⟩ : ByteArray),.string (⟨#[111,114,100,101,114,115,46,102,105,102,111]⟩ : ByteArray)] rfl (by (try simp only [List.map_toArray,List.map_cons,List.map_nil]);first|done|rfl|(simp only [List.length_drop,List.length_take];rfl)) ?_;(with_reducible refine (ticket_Url.calls k (⟨#[115,113,115,46,108,111,99,97,108]⟩ : ByteArray) (⟨#[49,50,51,52,53,54,55,56,57,48,49,50]⟩ : ByteArray) (⟨#[111,114,100,101,114,115,46,102,105,102,111]⟩ : ByteArray) t130 t131 _ A2.out).mono ?_);rintro e w11 ⟨rfl,hb⟩;refine ⟨_,rfl,?_⟩;have n0_:=Aside0.mk (below_step (by repeat (first|(with_reducible first|exact HB.out|apply below_alloc|apply pw_below_drewN|apply below_drew1)|exact HB.out)) hb);clear HB;have HB:=n0_;clear n0_;(try clear hb);(try clear hb2);(try clear hk);(try clear hi)))
    go_ret
    exact ⟨by first|rfl|(simp [errW_none,errW_some] <;> rfl)|(simp [*,errW_none,errW_some] <;> rfl),by repeat (first|(with_reducible first|exact HB.out|apply below_alloc|apply pw_below_drewN|apply below_drew1)|exact HB.out)⟩
  ·rw [if_neg c4] at H
   have c4b0 : (t130.toList == ([104,116,116,112,115,58,47,47,115,113,115,46,108,111,99,97,108,47,49,50,51,52,53,54,55,56,57,48,49,50,47,111,114,100,101,114,115,46,102,105,102,111] : List UInt8)) = false:=beq_eq_false_iff_ne.mpr c4
   have c4b1 : (t130.toList != ([104,116,116,112,115,58,47,47,115,113,115,46,108,111,99,97,108,47,49,50,51,52,53,54,55,56,57,48,49,50,47,111,114,100,101,114,115,46,102,105,102,111] : List UInt8)) = true:=bne_iff_ne.mpr c4
   obtain rfl:=Option.some.inj H
   go_enter Tryd.func11,Tryd.ntmps11
   go_wp2_with (first|((with_reducible refine gate_callee (f:=16) rfl ?_);refine goesL_ (some 6) rfl rfl Tryd.func16 (by kernel_rfl) rfl #[.string (⟨#[115,113,115,46,108,111,99,97,108]⟩ : ByteArray),.string (⟨#[49,50,51,52,53,54,55,56,57,48,49,50]⟩ : ByteArray),.string (⟨#[97,46,102,105,102,111]⟩ : ByteArray)] rfl (by (try simp only [List.map_toArray,List.map_cons,List.map_nil]);first|done|rfl|(simp only [List.length_drop,List.length_take];rfl)) ?_;(with_reducible refine (ticket_Url.calls k (⟨#[115,113,115,46,108,111,99,97,108]⟩ : ByteArray) (⟨#[49,50,51,52,53,54,55,56,57,48,49,50]⟩ : ByteArray) (⟨#[97,46,102,105,102,111]⟩ : ByteArray) t128 t129 _ A1.out).mono ?_);rintro e w12 ⟨rfl,hb⟩;refine ⟨_,rfl,?_⟩;have n0_:=Aside0.mk (below_step (by repeat (first|(with_reducible first|exact HB.out|apply below_alloc|apply pw_below_drewN|apply below_drew1)|exact HB.out)) hb);clear HB;have HB:=n0_;clear n0_;(try clear hb);(try clear hb2);(try clear hk);(try clear hi))|((with_reducible refine gate_callee (f:=16) rfl ?_);refine goesL_ (some 10) rfl rfl Tryd.func16 (by kernel_rfl) rfl #[.string (⟨#[115,113,115,46,108,111,99,97,108]⟩ : ByteArray),.string (⟨#[49,50,51,52,53,54,55,56,57,48,49,50]⟩ : ByteArray),.string (⟨#[111,114,100,101,114,115,46,102,105,102,111]⟩ : ByteArray)] rfl (by (try simp only [List.map_toArray,List.map_cons,List.map_nil]);first|done|rfl|(simp only [List.length_drop,List.length_take];rfl)) ?_;(with_reducible refine (ticket_Url.calls k (⟨#[115,113,115,46,108,111,99,97,108]⟩ : ByteArray) (⟨#[49,50,51,52,53,54,55,56,57,48,49,50]⟩ : ByteArray) (⟨#[111,114,100,101,114,115,46,102,105,102,111]⟩ : ByteArray) t130 t131 _ A2.out).mono ?_);rintro e w13 ⟨rfl,hb⟩;refine ⟨_,rfl,?_⟩;have n0_:=Aside0.mk (below_step (by repeat (first|(with_reducible first|exact HB.out|apply below_alloc|apply pw_below_drewN|apply below_drew1)|exact HB.out)) hb);clear HB;have HB:=n0_;clear n0_;(try clear hb);(try clear hb2);(try clear hk);(try clear hi)))
   go_ret
   exact ⟨by first|rfl|(simp [errW_none,errW_some] <;> rfl)|(simp [*,errW_none,errW_some] <;> rfl),by repeat (first|(with_reducible first|exact HB.out|apply below_alloc|apply pw_below_drewN|apply below_drew1)|exact HB.out)⟩
 ·rw [if_neg c3] at H
  have c3b0 : (t129 == 2) = false:=beq_eq_false_iff_ne.mpr c3
  have c3b1 : (t129 != 2) = true:=bne_iff_ne.mpr c3
  obtain rfl:=Option.some.inj H
  go_enter Tryd.func11,Tryd.ntmps11
  go_wp2_with (first|((with_reducible refine gate_callee (f:=16) rfl ?_);refine goesL_ (some 6) rfl rfl Tryd.func16 (by kernel_rfl) rfl #[.string (⟨#[115,113,115,46,108,111,99,97,108]⟩ : ByteArray),.string (⟨#[49,50,51,52,53,54,55,56,57,48,49,50]⟩ : ByteArray),.string (⟨#[97,46,102,105,102,111]⟩ : ByteArray)] rfl (by (try simp only [List.map_toArray,List.map_cons,List.map_nil]);first|done|rfl|(simp only [List.length_drop,List.length_take];rfl)) ?_;(with_reducible refine (ticket_Url.calls k (⟨#[115,113,115,46,108,111,99,97,108]⟩ : ByteArray) (⟨#[49,50,51,52,53,54,55,56,57,48,49,50]⟩ : ByteArray) (⟨#[97,46,102,105,102,111]⟩ : ByteArray) t128 t129 _ A1.out).mono ?_);rintro e w14 ⟨rfl,hb⟩;refine ⟨_,rfl,?_⟩;have n0_:=Aside0.mk (below_step (by repeat (first|(with_reducible first|exact HB.out|apply below_alloc|apply pw_below_drewN|apply below_drew1)|exact HB.out)) hb);clear HB;have HB:=n0_;clear n0_;(try clear hb);(try clear hb2);(try clear hk);(try clear hi))|((with_reducible refine gate_callee (f:=16) rfl ?_);refine goesL_ (some 10) rfl rfl Tryd.func16 (by kernel_rfl) rfl #[.string (⟨#[115,113,115,46,108,111,99,97,108]⟩ : ByteArray),.string (⟨#[49,50,51,52,53,54,55,56,57,48,49,50]⟩ : ByteArray),.string (⟨#[111,114,100,101,114,115,46,102,105,102,111]⟩ : ByteArray)] rfl (by (try simp only [List.map_toArray,List.map_cons,List.map_nil]);first|done|rfl|(simp only [List.length_drop,List.length_take];rfl)) ?_;(with_reducible refine (ticket_Url.calls k (⟨#[115,113,115,46,108,111,99,97,108]⟩ : ByteArray) (⟨#[49,50,51,52,53,54,55,56,57,48,49,50]⟩ : ByteArray) (⟨#[111,114,100,101,114,115,46,102,105,102,111]⟩ : ByteArray) t130 t131 _ A2.out).mono ?_);rintro e w15 ⟨rfl,hb⟩;refine ⟨_,rfl,?_⟩;have n0_:=Aside0.mk (below_step (by repeat (first|(with_reducible first|exact HB.out|apply below_alloc|apply pw_below_drewN|apply below_drew1)|exact HB.out)) hb);clear HB;have HB:=n0_;clear n0_;(try clear hb);(try clear hb2);(try clear hk);(try clear hi)))
  go_ret
  exact ⟨by first|rfl|(simp [errW_none,errW_some] <;> rfl)|(simp [*,errW_none,errW_some] <;> rfl),by repeat (first|(with_reducible first|exact HB.out|apply below_alloc|apply pw_below_drewN|apply below_drew1)|exact HB.out)⟩
end Go.Proofs.YtedfgkjimnjdpaaDoor.X
namespace Go.Proofs.YtedfgkjimnjdpaaDoor.X
open Go.RowKit Go.Proofs.YtedfgkjimnjdpaaDoorW.PrintWords Go.Proofs.YtedfgkjimnjdpaaDoorW.PrintLast Go.Proofs.YtedfgkjimnjdpaaDoorW.PrintMore
attribute [local go_sem] max2_int min2_int max_two min_two max_three min_three max_four min_four
set_option linter.unusedVariables false
set_option linter.unusedSimpArgs false
def racewayref22_Itoa.l0 : Nat → Int → ByteArray → Int → Option (ByteArray)
 | 0,_,_,_ => none
 | k + 1,x0,x3,x4 => if x4 = 0 then (if x0 < 0 then (if 1 + x3.size ≤ 9223372036854775807 then (some ((⟨#[45]⟩ : ByteArray) ++ x3)) else (none)) else (some x3)) else (if (Int.tmod x4 10) < 0 then (if 0 ≤ (wrap64 (-(Int.tmod x4 10))) then (if (wrap64 (-(Int.tmod x4 10))) ≤ (wrap64 ((wrap64 (-(Int.tmod x4 10))) + 1)) then (if (wrap64 ((wrap64 (-(Int.tmod x4 10))) + 1)) ≤ 16 then (if ((⟨#[48,49,50,51,52,53,54,55,56,57,97,98,99,100,101,102]⟩ : ByteArray).extract ((wrap64 (-(Int.tmod x4 10))) : Int).toNat ((wrap64 ((wrap64 (-(Int.tmod x4 10))) + 1)) : Int).toNat).size + x3.size ≤ 9223372036854775807 then (racewayref22_Itoa.l0 k x0 (((⟨#[48,49,50,51,52,53,54,55,56,57,97,98,99,100,101,102]⟩ : ByteArray).extract ((wrap64 (-(Int.tmod x4 10))) : Int).toNat ((wrap64 ((wrap64 (-(Int.tmod x4 10))) + 1)) : Int).toNat) ++ x3) (wrap64 (Int.tdiv x4 10))) else (none)) else (none)) else (none)) else (none)) else (if 0 ≤ (Int.tmod x4 10) then (if (Int.tmod x4 10) ≤ (wrap64 ((Int.tmod x4 10) + 1)) then (if (wrap64 ((Int.tmod x4 10) + 1)) ≤ 16 then (if ((⟨#[48,49,50,51,52,53,54,55,56,57,97,98,99,100,101,102]⟩ : ByteArray).extract ((Int.tmod x4 10) : Int).toNat ((wrap64 ((Int.tmod x4 10) + 1)) : Int).toNat).size + x3.size ≤ 9223372036854775807 then (racewayref22_Itoa.l0 k x0 (((⟨#[48,49,50,51,52,53,54,55,56,57,97,98,99,100,101,102]⟩ : ByteArray).extract ((Int.tmod x4 10) : Int).toNat ((wrap64 ((Int.tmod x4 10) + 1)) : Int).toNat) ++ x3) (wrap64 (Int.tdiv x4 10))) else (none)) else (none)) else (none)) else (none)))
def racewayref22_Itoa.f (k : Nat) (a0 : Int) : Option (ByteArray):=if a0 = 0 then (some (⟨#[48]⟩ : ByteArray)) else (racewayref22_Itoa.l0 k a0 (⟨#[]⟩ : ByteArray) a0)
set_option maxHeartbeats 8000000 in
set_option maxRecDepth 100000 in
theorem racewayref22_Itoa.calls (k : Nat) (a0 : Int) (r : ByteArray) (w : World) (h : racewayref22_Itoa.f k a0 = some r) :
  Calls Tryd.prog 63 #[.int .i64 a0] w fun e w' => e = .returned (.string r) ∧ Drawn0 w w':=by
 have H : (if a0 = 0 then (some (⟨#[48]⟩ : ByteArray)) else (racewayref22_Itoa.l0 k a0 (⟨#[]⟩ : ByteArray) a0)) = some r:=h
 clear h
 by_cases c2 : a0 = 0
 ·rw [if_pos c2] at H
  have c2b0 : (a0 == 0) = true:=beq_iff_eq.mpr c2
  have c2b1 : (a0 != 0) = false:=bne_eq_false_iff_eq.mpr c2
  clear c2
  obtain rfl:=Option.some.inj H
  go_enter Tryd.func63,Tryd.ntmps63
  go_wp2
  go_ret
  exact ⟨by first|rfl|(simp;done)|(simp;decide +kernel)|(simp [*];done),by repeat (first|exact Drawn0.refl _|apply Drawn0.step)⟩
 ·rw [if_neg c2] at H
  have c2b0 : (a0 == 0) = false:=beq_eq_false_iff_ne.mpr c2
  have c2b1 : (a0 != 0) = true:=bne_iff_ne.mpr c2
  have H':=Aside0.mk H
  clear H
  go_enter Tryd.func63,Tryd.ntmps63
  go_wp2
  go_loopg [3,4] k (fun kq v3 v4 w' => ∃ (x3_1 : ByteArray) (x4_1 : Int),v3 = .string x3_1 ∧ v4 = .int .i64 x4_1 ∧ Aside0 (racewayref22_Itoa.l0 kq a0 x3_1 x4_1 = some r) ∧ Aside0 (kq ≤ k) ∧ Drawn0 w w')
  case atStart => exact ⟨((⟨#[]⟩ : ByteArray)),(a0),(by first|rfl|(simp;done)|(simp;decide +kernel)|(simp [*];done)),(by first|rfl|(simp;done)|(simp;decide +kernel)|(simp [*];done)),(by first|exact H'|(subst_vars;exact H')),⟨Nat.le_refl _⟩,by repeat (first|exact Drawn0.refl _|apply Drawn0.step)⟩
  case round =>
   clear H'
   try clear c2
   try clear c2b0
   try clear c2b1
   try clear p2
   obtain ⟨x3_1,x4_1,rfl,rfl,HA,HK1,⟨m1,rfl⟩⟩:=hrel
   cases gk with
   | zero => exact absurd HA.out (by simp [racewayref22_Itoa.l0])
   | succ k1 =>
    have H:=HA.out
    clear HA
    simp only [racewayref22_Itoa.l0] at H
    by_cases c3 : x4_1 = 0
    ·rw [if_pos c3] at H
     have c3b0 : (x4_1 == 0) = true:=beq_iff_eq.mpr c3
     have c3b1 : (x4_1 != 0) = false:=bne_eq_false_iff_eq.mpr c3
     clear c3
     by_cases c4 : a0 < 0
     ·rw [if_pos c4] at H
      have c4b0 : decide (a0 < 0) = true:=decide_eq_true c4
      clear c4
      by_cases c5 : 1 + x3_1.size ≤ 9223372036854775807
      ·rw [if_pos c5] at H
       have c5b0:=eq_true c5
       have c5b1 : decide (1 + x3_1.size ≤ 9223372036854775807) = true:=decide_eq_true c5
       try have c5b2 : (9223372036854775807 < 1 + x3_1.size) = False:=eq_false (Nat.not_lt.2 c5)
       obtain rfl:=Option.some.inj H
       go_wp2
       go_ret
       exact ⟨by first|rfl|(simp;done)|(simp;decide +kernel)|(simp [*];done),by repeat (first|exact Drawn0.refl _|apply Drawn0.step)⟩
      ·rw [if_neg c5] at H
       exact absurd H (by simp)
     ·rw [if_neg c4] at H
      have c4b0 : decide (a0 < 0) = false:=decide_eq_false c4
      clear c4
      obtain rfl:=Option.some.inj H
      go_wp2
      go_ret
      exact ⟨by first|rfl|(simp;done)|(simp;decide +kernel)|(simp [*];done),by repeat (first|exact Drawn0.refl _|apply Drawn0.step)⟩
    ·rw [if_neg c3] at H
     have c3b0 : (x4_1 == 0) = false:=beq_eq_false_iff_ne.mpr c3
     have c3b1 : (x4_1 != 0) = true:=bne_iff_ne.mpr c3
     by_cases c6 : (Int.tmod x4_1 10) < 0
     ·rw [if_pos c6] at H
      have c6b0 : decide ((Int.tmod x4_1 10) < 0) = true:=decide_eq_true c6
      clear c6
      obtain ⟨ji7,hji7⟩ : ∃ j_ : Int,(wrap64 (-(Int.tmod x4_1 10))) = j_:=⟨_,rfl⟩
      replace H : (if 0 ≤ (ji7) then (if (ji7) ≤ (wrap64 ((ji7) + 1)) then (if (wrap64 ((ji7) + 1)) ≤ 16 then (if ((⟨#[48,49,50,51,52,53,54,55,56,57,97,98,99,100,101,102]⟩ : ByteArray).extract ((ji7) : Int).toNat ((wrap64 ((ji7) + 1)) : Int).toNat).size + x3_1.size ≤ 9223372036854775807 then (racewayref22_Itoa.l0 k1 a0 (((⟨#[48,49,50,51,52,53,54,55,56,57,97,98,99,100,101,102]⟩ : ByteArray).extract ((ji7) : Int).toNat ((wrap64 ((ji7) + 1)) : Int).toNat) ++ x3_1) (wrap64 (Int.tdiv x4_1 10))) else (none)) else (none)) else (none)) else (none)) = some r:=by first|(rw [hji7] at H;exact H)|(simp only [hji7] at H ⊢;exact H)
      have hji7w : (IntKind.i64.wrap (-(Int.tmod x4_1 10))) = ji7:=(i64_w _).trans hji7
      by_cases c8 : 0 ≤ (ji7)
      ·rw [if_pos c8] at H
       have c8b0:=eq_true c8
       have c8b1 : decide (0 ≤ (ji7)) = true:=decide_eq_true c8
       clear c8
       by_cases c9 : (ji7) ≤ (wrap64 ((ji7) + 1))
       ·rw [if_pos c9] at H
        have c9b0:=eq_true c9
        have c9b1 : decide ((ji7) ≤ (wrap64 ((ji7) + 1))) = true:=decide_eq_true c9
        by_cases c10 : (wrap64 ((ji7) + 1)) ≤ 16
        ·rw [if_pos c10] at H
         have c10b0:=eq_true c10
         have c10b1 : decide ((wrap64 ((ji7) + 1)) ≤ 16) = true:=decide_eq_true c10
         by_cases c11 : ((⟨#[48,49,50,51,52,53,54,55,56,57,97,98,99,100,101,102]⟩ : ByteArray).extract ((ji7) : Int).toNat ((wrap64 ((ji7) + 1)) : Int).toNat).size + x3_1.size ≤ 9223372036854775807
         ·rw [if_pos c11] at H
          have c11b0:=eq_true c11
          have c11b1 : decide (((⟨#[48,49,50,51,52,53,54,55,56,57,97,98,99,100,101,102]⟩ : ByteArray).extract ((ji7) : Int).toNat ((wrap64 ((ji7) + 1)) : Int).toNat).size + x3_1.size ≤ 9223372036854775807) = true:=decide_eq_true c11
          try have c11b2 : (9223372036854775807 < ((⟨#[48,49,50,51,52,53,54,55,56,57,97,98,99,100,101,102]⟩ : ByteArray).extract ((ji7) : Int).toNat ((wrap64 ((ji7) + 1)) : Int).toNat).size + x3_1.size) = False:=eq_false (Nat.not_lt.2 c11)
          have H':=Aside0.mk H
          clear H
          go_wp2
          go_roundg k1
          case measure => have:=HK1.out;omega
          case rel => exact ⟨(((⟨#[48,49,50,51,52,53,54,55,56,57,97,98,99,100,101,102]⟩ : ByteArray).extract ((ji7) : Int).toNat ((wrap64 ((ji7) + 1)) : Int).toNat) ++ x3_1),(wrap64 (Int.tdiv x4_1 10)),(by first|rfl|(simp;done)|(simp only [← hji7] <;> (first|rfl|simp))|(simp [*];done)),(by first|rfl|(simp;done)|(simp;decide +kernel)|(simp [*];done)),(by first|exact H'|(subst_vars;exact H')),⟨by have:=HK1.out;omega⟩,by repeat (first|exact Drawn0.refl _|apply Drawn0.step)⟩
         ·rw [if_neg c11] at H
          exact absurd H (by simp)
        ·rw [if_neg c10] at H
         exact absurd H (by simp)
       ·rw [if_neg c9] at H
        exact absurd H (by simp)
      ·rw [if_neg c8] at H
       exact absurd H (by simp)
     ·rw [if_neg c6] at H
      have c6b0 : decide ((Int.tmod x4_1 10) < 0) = false:=decide_eq_false c6
      clear c6
      obtain ⟨ji12,hji12⟩ : ∃ j_ : Int,(Int.tmod x4_1 10) = j_:=⟨_,rfl⟩
      replace H : (if 0 ≤ (ji12) then (if (ji12) ≤ (wrap64 ((ji12) + 1)) then (if (wrap64 ((ji12) + 1)) ≤ 16 then (if ((⟨#[48,49,50,51,52,53,54,55,56,57,97,98,99,100,101,102]⟩ : ByteArray).extract ((ji12) : Int).toNat ((wrap64 ((ji12) + 1)) : Int).toNat).size + x3_1.size ≤ 9223372036854775807 then (racewayref22_Itoa.l0 k1 a0 (((⟨#[48,49,50,51,52,53,54,55,56,57,97,98,99,100,101,102]⟩ : ByteArray).extract ((ji12) : Int).toNat ((wrap64 ((ji12) + 1)) : Int).toNat) ++ x3_1) (wrap64 (Int.tdiv x4_1 10))) else (none)) else (none)) else (none)) else (none)) = some r:=by first|(rw [hji12] at H;exact H)|(simp only [hji12] at H ⊢;exact H)
      (try rw [hji12] at c6b0)
      by_cases c13 : 0 ≤ (ji12)
      ·rw [if_pos c13] at H
       have c13b0:=eq_true c13
       have c13b1 : decide (0 ≤ (ji12)) = true:=decide_eq_true c13
       clear c13
       by_cases c14 : (ji12) ≤ (wrap64 ((ji12) + 1))
       ·rw [if_pos c14] at H
        have c14b0:=eq_true c14
        have c14b1 : decide ((ji12) ≤ (wrap64 ((ji12) + 1))) = true:=decide_eq_true c14
        by_cases c15 : (wrap64 ((ji12) + 1)) ≤ 16
        ·rw [if_pos c15] at H
         have c15b0:=eq_true c15
         have c15b1 : decide ((wrap64 ((ji12) + 1)) ≤ 16) = true:=decide_eq_true c15
         by_cases c16 : ((⟨#[48,49,50,51,52,53,54,55,56,57,97,98,99,100,101,102]⟩ : ByteArray).extract ((ji12) : Int).toNat ((wrap64 ((ji12) + 1)) : Int).toNat).size + x3_1.size ≤ 9223372036854775807
         ·rw [if_pos c16] at H
          have c16b0:=eq_true c16
          have c16b1 : decide (((⟨#[48,49,50,51,52,53,54,55,56,57,97,98,99,100,101,102]⟩ : ByteArray).extract ((ji12) : Int).toNat ((wrap64 ((ji12) + 1)) : Int).toNat).size + x3_1.size ≤ 9223372036854775807) = true:=decide_eq_true c16
          try have c16b2 : (9223372036854775807 < ((⟨#[48,49,50,51,52,53,54,55,56,57,97,98,99,100,101,102]⟩ : ByteArray).extract ((ji12) : Int).toNat ((wrap64 ((ji12) + 1)) : Int).toNat).size + x3_1.size) = False:=eq_false (Nat.not_lt.2 c16)
          have H':=Aside0.mk H
          clear H
          go_wp2
          go_roundg k1
          case measure => have:=HK1.out;omega
          case rel => exact ⟨(((⟨#[48,49,50,51,52,53,54,55,56,57,97,98,99,100,101,102]⟩ : ByteArray).extract ((ji12) : Int).toNat ((wrap64 ((ji12) + 1)) : Int).toNat) ++ x3_1),(wrap64 (Int.tdiv x4_1 10)),(by first|rfl|(simp;done)|(simp only [← hji12] <;> (first|rfl|simp))|(simp [*];done)),(by first|rfl|(simp;done)|(simp;decide +kernel)|(simp [*];done)),(by first|exact H'|(subst_vars;exact H')),⟨by have:=HK1.out;omega⟩,by repeat (first|exact Drawn0.refl _|apply Drawn0.step)⟩
         ·rw [if_neg c16] at H
          exact absurd H (by simp)
        ·rw [if_neg c15] at H
         exact absurd H (by simp)
       ·rw [if_neg c14] at H
        exact absurd H (by simp)
      ·rw [if_neg c13] at H
       exact absurd H (by simp)
end Go.Proofs.YtedfgkjimnjdpaaDoor.X
namespace Go.Proofs.YtedfgkjimnjdpaaDoor.X
open Go.RowKit Go.Proofs.YtedfgkjimnjdpaaDoorW.PrintWords Go.Proofs.YtedfgkjimnjdpaaDoorW.PrintLast Go.Proofs.YtedfgkjimnjdpaaDoorW.PrintMore
attribute [local go_sem] max2_int min2_int max_two min_two max_three min_three max_four min_four
set_option linter.unusedVariables false
set_option linter.unusedSimpArgs false
mutual
def racewayref22_Pad.j0 : Nat → Int → Int → ByteArray → Option (ByteArray)
 | 0,_,_,_ => none
 | k + 1,x0,x1,x5 => racewayref22_Pad.l0 k x0 x1 x5
def racewayref22_Pad.l0 : Nat → Int → Int → ByteArray → Option (ByteArray)
 | 0,_,_,_ => none
 | k + 1,x0,x1,x5 => if x0 ≥ 0 then (if (x5.size : Int) < x1 then (if 1 + x5.size ≤ 9223372036854775807 then (racewayref22_Pad.l0 k x0 x1 ((⟨#[48]⟩ : ByteArray) ++ x5)) else (none)) else (some x5)) else (some x5)
end
def racewayref22_Pad.f (k : Nat) (a0 : Int) (a1 : Int) : Option (ByteArray):=(racewayref22_Itoa.f k a0).bind fun t133 => (if a1 > 100 then (racewayref22_Pad.j0 k a0 100 t133) else (racewayref22_Pad.j0 k a0 a1 t133))
set_option maxHeartbeats 8000000 in
set_option maxRecDepth 100000 in
theorem racewayref22_Pad.calls (k : Nat) (a0 : Int) (a1 : Int) (r : ByteArray) (w : World) (h : racewayref22_Pad.f k a0 a1 = some r) :
  Calls Tryd.prog 65 #[.int .i64 a0,.int .i64 a1] w fun e w' => e = .returned (.string r) ∧ Drawn0 w w':=by
 have H : ((racewayref22_Itoa.f k a0).bind fun t133 => (if a1 > 100 then (racewayref22_Pad.j0 k a0 100 t133) else (racewayref22_Pad.j0 k a0 a1 t133))) = some r:=h
 clear h
 replace H:=Option.bind_eq_some_iff.mp H
 obtain ⟨t133,A30,H⟩:=H
 replace H : (if a1 > 100 then (racewayref22_Pad.j0 k a0 100 t133) else (racewayref22_Pad.j0 k a0 a1 t133)) = some r:=H
 have A3:=Aside0.mk A30
 clear A30
 have HC4:=Aside0.mk H
 clear H
 go_enter Tryd.func65,Tryd.ntmps65
 go_upto_if 9 with (first|((with_reducible refine gate_callee (f:=63) rfl ?_);refine goesL_ (some 7) rfl rfl Tryd.func63 (by kernel_rfl) rfl #[.int .i64 a0] rfl (by (try simp only [List.map_toArray,List.map_cons,List.map_nil]);first|done|rfl|(simp only [List.length_drop,List.length_take];rfl)) ?_;(with_reducible refine (racewayref22_Itoa.calls k a0 t133 _ A3.out).mono ?_);rintro e w' ⟨rfl,⟨nd,rfl⟩⟩;refine ⟨_,rfl,?_⟩))
 (try simp only [Act.put,List.setIfInBounds_toArray,List.set_cons_zero,List.set_cons_succ])
 go_cut [1] (fun v1 wc => ∃ (kq : Nat) (x1_3 : Int),v1 = .int .i64 x1_3 ∧ Aside0 (racewayref22_Pad.j0 kq a0 x1_3 t133 = some r) ∧ Aside0 (kq ≤ k) ∧ Drawn0 w wc)
 case first =>
  have H:=HC4.out
  clear HC4
  by_cases c5 : a1 > 100
  ·rw [if_pos c5] at H
   have c5b0 : decide (100 < a1) = true:=decide_eq_true c5
   clear c5
   (first|rw [c5b0]|(simp only [i64_w,i32_w];rw [c5b0])|skip)
   have H':=Aside0.mk H
   clear H
   go_wp2
   go_meet
   case rel => exact ⟨_,(100),(by first|rfl|(simp;done)|(simp;decide +kernel)|(simp [*];done)),(by first|exact H'|(subst_vars;exact H')),⟨by first|omega|exact Nat.le_refl _⟩,by repeat (first|exact Drawn0.refl _|apply Drawn0.step)⟩
  ·rw [if_neg c5] at H
   have c5b0 : decide (100 < a1) = false:=decide_eq_false c5
   clear c5
   (first|rw [c5b0]|(simp only [i64_w,i32_w];rw [c5b0])|skip)
   have H':=Aside0.mk H
   clear H
   go_wp2
   go_meet
   case rel => exact ⟨_,(a1),(by first|rfl|(simp;done)|(simp;decide +kernel)|(simp [*];done)),(by first|exact H'|(subst_vars;exact H')),⟨by first|omega|exact Nat.le_refl _⟩,by repeat (first|exact Drawn0.refl _|apply Drawn0.step)⟩
 case rest =>
  clear HC4
  try clear p2
  try clear c5
  try clear c5b0
  obtain ⟨kq,x1_3,rfl,HA,HJ3,⟨mc3,rfl⟩⟩:=hcut
  cases kq with
  | zero => exact absurd HA.out (by simp [racewayref22_Pad.j0])
  | succ kj3 =>
   have H:=HA.out
   clear HA
   simp only [racewayref22_Pad.j0] at H
   have H':=Aside0.mk H
   clear H
   go_wp2
   go_loopg [5] kj3 (fun kq v5 w' => ∃ (x5_2 : ByteArray),v5 = .string x5_2 ∧ Aside0 (racewayref22_Pad.l0 kq a0 x1_3 x5_2 = some r) ∧ Aside0 (kq ≤ kj3) ∧ Drawn0 w w')
   case atStart => exact ⟨(t133),(by first|rfl|(simp;done)|(simp;decide +kernel)|(simp [*];done)),(by first|exact H'|(subst_vars;exact H')),⟨Nat.le_refl _⟩,by repeat (first|exact Drawn0.refl _|apply Drawn0.step)⟩
   case round =>
    clear H'
    try clear p2
    try clear c3
    try clear c5
    try clear c5b0
    try clear p2
    obtain ⟨x5_2,rfl,HA,HK2,⟨m2,rfl⟩⟩:=hrel
    cases gk with
    | zero => exact absurd HA.out (by simp [racewayref22_Pad.l0])
    | succ k2 =>
     have H:=HA.out
     clear HA
     simp only [racewayref22_Pad.l0] at H
     by_cases c6 : a0 ≥ 0
     ·rw [if_pos c6] at H
      have c6b0 : decide (0 ≤ a0) = true:=decide_eq_true c6
      clear c6
      by_cases c7 : (x5_2.size : Int) < x1_3
      ·rw [if_pos c7] at H
       have c7b0 : decide ((x5_2.size : Int) < x1_3) = true:=decide_eq_true c7
       clear c7
       by_cases c8 : 1 + x5_2.size ≤ 9223372036854775807
       ·rw [if_pos c8] at H
        have c8b0:=eq_true c8
        have c8b1 : decide (1 + x5_2.size ≤ 9223372036854775807) = true:=decide_eq_true c8
        try have c8b2 : (9223372036854775807 < 1 + x5_2.size) = False:=eq_false (Nat.not_lt.2 c8)
        have H':=Aside0.mk H
        clear H
        go_wp2
        go_roundg k2
        case measure => have:=HJ3.out;have:=HK2.out;omega
        case rel => exact ⟨((⟨#[48]⟩ : ByteArray) ++ x5_2),(by first|rfl|(simp;done)|(simp;decide +kernel)|(simp [*];done)),(by first|exact H'|(subst_vars;exact H')),⟨by have:=HJ3.out;have:=HK2.out;omega⟩,by repeat (first|exact Drawn0.refl _|apply Drawn0.step)⟩
       ·rw [if_neg c8] at H
        exact absurd H (by simp)
      ·rw [if_neg c7] at H
       have c7b0 : decide ((x5_2.size : Int) < x1_3) = false:=decide_eq_false c7
       clear c7
       obtain rfl:=Option.some.inj H
       go_wp2
       go_ret
       exact ⟨by first|rfl|(simp;done)|(simp;decide +kernel)|(simp [*];done),by repeat (first|exact Drawn0.refl _|apply Drawn0.step)⟩
     ·rw [if_neg c6] at H
      have c6b0 : decide (0 ≤ a0) = false:=decide_eq_false c6
      clear c6
      obtain rfl:=Option.some.inj H
      go_wp2
      go_ret
      exact ⟨by first|rfl|(simp;done)|(simp;decide +kernel)|(simp [*];done),by repeat (first|exact Drawn0.refl _|apply Drawn0.step)⟩
end Go.Proofs.YtedfgkjimnjdpaaDoor.X
namespace Go.Proofs.YtedfgkjimnjdpaaDoor.X
open Go.RowKit Go.Proofs.YtedfgkjimnjdpaaDoorW.PrintWords Go.Proofs.YtedfgkjimnjdpaaDoorW.PrintLast Go.Proofs.YtedfgkjimnjdpaaDoorW.PrintMore
attribute [local go_sem] max2_int min2_int max_two min_two max_three min_three max_four min_four
set_option linter.unusedVariables false
set_option linter.unusedSimpArgs false
def racewayref27_Sequence.f (k : Nat) (a0 : Int) : Option (ByteArray):=(racewayref22_Pad.f k a0 20).bind fun t134 => (some t134)
set_option maxHeartbeats 8000000 in
set_option maxRecDepth 100000 in
theorem racewayref27_Sequence.calls (k : Nat) (a0 : Int) (r : ByteArray) (w : World) (h : racewayref27_Sequence.f k a0 = some r) :
  Calls Tryd.prog 27 #[.int .i64 a0] w fun e w' => e = .returned (.string r) ∧ Drawn0 w w':=by
 have H : ((racewayref22_Pad.f k a0 20).bind fun t134 => (some t134)) = some r:=h
 clear h
 replace H:=Option.bind_eq_some_iff.mp H
 obtain ⟨t134,A20,H⟩:=H
 replace H : (some t134) = some r:=H
 have A2:=Aside0.mk A20
 clear A20
 obtain rfl:=Option.some.inj H
 go_enter Tryd.func27,Tryd.ntmps27
 go_wp2_with (first|((with_reducible refine gate_callee (f:=65) rfl ?_);refine goesL_ (some 4) rfl rfl Tryd.func65 (by kernel_rfl) rfl #[.int .i64 a0,.int .i64 20] rfl (by (try simp only [List.map_toArray,List.map_cons,List.map_nil]);first|done|rfl|(simp only [List.length_drop,List.length_take];rfl)) ?_;(with_reducible refine (racewayref22_Pad.calls k a0 20 t134 _ A2.out).mono ?_);rintro e w' ⟨rfl,⟨nd,rfl⟩⟩;refine ⟨_,rfl,?_⟩))
 go_ret
 exact ⟨by first|rfl|(simp;done)|(simp;decide +kernel)|(simp [*];done),by repeat (first|exact Drawn0.refl _|apply Drawn0.step)⟩
end Go.Proofs.YtedfgkjimnjdpaaDoor.X
namespace Go.Proofs.YtedfgkjimnjdpaaDoor.X
open Go.RowKit Go.Proofs.YtedfgkjimnjdpaaDoorW.PrintWords Go.Proofs.YtedfgkjimnjdpaaDoorW.PrintLast Go.Proofs.YtedfgkjimnjdpaaDoorW.PrintMore
attribute [local go_sem] max2_int min2_int max_two min_two max_three min_three max_four min_four
set_option linter.unusedVariables false
set_option linter.unusedSimpArgs false
mutual
def racewayref22_Atoi.j0 : Nat → ByteArray → Int → Bool → Option (Int × Int)
 | 0,_,_,_ => none
 | k + 1,x0,x4,x16 => if x16 = true then (racewayref22_Atoi.j1 k x0 1) else (racewayref22_Atoi.j1 k x0 x4)
def racewayref22_Atoi.j1 : Nat → ByteArray → Int → Option (Int × Int)
 | 0,_,_ => none
 | k + 1,x0,x4 => if x4 = (x0.size : Int) then (racewayref22_Atoi.j2 k x0 x4 true) else (racewayref22_Atoi.j2 k x0 x4 (decide ((wrap64 ((x0.size : Int) - x4)) > 19)))
def racewayref22_Atoi.j2 : Nat → ByteArray → Int → Bool → Option (Int × Int)
 | 0,_,_,_ => none
 | k + 1,x0,x4,x27 => if x27 = true then (some (0,5)) else (racewayref22_Atoi.l0 k x0 x4 (-9223372036854775808) 0 x4)
def racewayref22_Atoi.l0 : Nat → ByteArray → Int → Int → Int → Int → Option (Int × Int)
 | 0,_,_,_,_,_ => none
 | k + 1,x0,x4,x5,x6,x7 => if x7 < (x0.size : Int) then (if 0 ≤ x7 then (if (bt x0 x7) < 48 then (racewayref22_Atoi.j4 k x0 x4 x5 x6 x7 true) else (racewayref22_Atoi.j4 k x0 x4 x5 x6 x7 (decide ((bt x0 x7) > 57)))) else (none)) else (if x4 = 0 then (if x6 = x5 then (some (0,5)) else ((racewayref22_Itoa.f k (wrap64 (-x6))).bind fun t135 => (if t135.toList = x0.toList then (some (wrap64 (-x6),0)) else (some (0,5))))) else ((racewayref22_Itoa.f k x6).bind fun t136 => (if t136.toList = x0.toList then (some (x6,0)) else (some (0,5)))))
def racewayref22_Atoi.j4 : Nat → ByteArray → Int → Int → Int → Int → Bool → Option (Int × Int)
 | 0,_,_,_,_,_,_ => none
 | k + 1,x0,x4,x5,x6,x7,x44 => if x44 = true then (some (0,5)) else (if 0 ≤ x7 then (if x7 < (x0.size : Int) then (if x6 < (wrap64 (Int.tdiv x5 10)) then (some (0,5)) else (if x6 = (wrap64 (Int.tdiv x5 10)) then (if (((bt x0 x7) - 48) % 256) > 8 then (some (0,5)) else (racewayref22_Atoi.l0 k x0 x4 x5 (wrap64 ((wrap64 (10 * x6)) - (((bt x0 x7) - 48) % 256))) (wrap64 (x7 + 1)))) else (racewayref22_Atoi.l0 k x0 x4 x5 (wrap64 ((wrap64 (10 * x6)) - (((bt x0 x7) - 48) % 256))) (wrap64 (x7 + 1))))) else (none)) else (none))
end
def racewayref22_Atoi.f (k : Nat) (a0 : ByteArray) : Option (Int × Int):=if (a0.size : Int) > 0 then (if 0 < (a0.size : Int) then (racewayref22_Atoi.j0 k a0 0 ((bt a0 0) == 45)) else (none)) else (racewayref22_Atoi.j0 k a0 0 false)
set_option maxHeartbeats 8000000 in
set_option maxRecDepth 100000 in
theorem racewayref22_Atoi.calls (k : Nat) (a0 : ByteArray) (r1 : Int) (r2 : Int) (w : World) (h : racewayref22_Atoi.f k a0 = some (r1,r2)) :
  Calls Tryd.prog 57 #[.string a0] w fun e w' => e = .returned (.tuple #[.int .i64 r1,.int .i64 r2]) ∧ Drawn0 w w':=by
 have H : (if (a0.size : Int) > 0 then (if 0 < (a0.size : Int) then (racewayref22_Atoi.j0 k a0 0 ((bt a0 0) == 45)) else (none)) else (racewayref22_Atoi.j0 k a0 0 false)) = some (r1,r2):=h
 clear h
 have HC2:=Aside0.mk H
 clear H
 go_enter Tryd.func57,Tryd.ntmps57
 go_upto_region 2 with (fail)
 go_cut [16] (fun v16 wc => ∃ (kq : Nat) (x16_1 : Bool),v16 = .bool x16_1 ∧ Aside0 (racewayref22_Atoi.j0 kq a0 0 x16_1 = some (r1,r2)) ∧ Aside0 (kq ≤ k) ∧ Drawn0 w wc)
 case first =>
  have H:=HC2.out
  clear HC2
  by_cases c3 : (a0.size : Int) > 0
  ·rw [if_pos c3] at H
   have c3b0 : decide (0 < (a0.size : Int)) = true:=decide_eq_true c3
   have c3b1 : decide (0 < a0.size) = true:=decide_eq_true (by omega)
   clear c3
   (first|rw [c3b0]|(simp only [i64_w,i32_w];rw [c3b0])|skip)
   by_cases c4 : 0 < (a0.size : Int)
   ·rw [if_pos c4] at H
    have c4b0 : decide (0 < (a0.size : Int)) = true:=decide_eq_true c4
    have c4b1 : decide (0 < a0.size) = true:=decide_eq_true (by omega)
    clear c4
    have H':=Aside0.mk H
    clear H
    have p5 : 0 ≤ (0 : Int):=(by omega)
    have q5 : 0 < a0.size:=(by have : (0 : Int) < (a0.size : Int):=of_decide_eq_true (by first|(with_reducible assumption)|assumption);omega)
    have hx5 : ∀ h : 0 < a0.size,((a0[0]'h).toNat : Int) = bt a0 0:=bt_at a0 0
    clear p5
    have qi5 : (0 < (a0.size : Int)) = True:=eq_true (of_decide_eq_true (by first|(with_reducible assumption)|assumption))
    replace q5:=eq_true q5
    go_wp2
    go_meet
    case rel => exact ⟨_,(((bt a0 0) == 45)),(by first|rfl|(simp;done)|(simp;rw [show wrap64 (-9223372036854775800) = -9223372036854775800 by decide +kernel];done)|(simp;decide +kernel)|(simp [*];done)),(by first|exact H'|(subst_vars;exact H')),⟨by first|omega|exact Nat.le_refl _⟩,by repeat (first|exact Drawn0.refl _|apply Drawn0.step)⟩
   ·rw [if_neg c4] at H
    exact absurd H (by simp)
  ·rw [if_neg c3] at H
   have c3b0 : decide (0 < (a0.size : Int)) = false:=decide_eq_false c3
   have c3b1 : decide (0 < a0.size) = false:=decide_eq_false (by omega)
   clear c3
   (first|rw [c3b0]|(simp only [i64_w,i32_w];rw [c3b0])|skip)
   have H':=Aside0.mk H
   clear H
   go_wp2
   go_meet
   case rel => exact ⟨_,(false),(by first|rfl|(simp;done)|(simp;rw [show wrap64 (-9223372036854775800) = -9223372036854775800 by decide +kernel];done)|(simp;decide +kernel)|(simp [*];done)),(by first|exact H'|(subst_vars;exact H')),⟨by first|omega|exact Nat.le_refl _⟩,by repeat (first|exact Drawn0.refl _|apply Drawn0.step)⟩
 case rest =>
  clear HC2
  try clear p2
  try clear c3
  try clear c3b0
  try clear c3b1
  try clear c4
  try clear c4b0
  try clear c4b1
  try clear c5
  try clear p5
  try clear q5
  try clear hx5
  try clear qi5
  try clear p5
  try clear q5
  obtain ⟨kq,x16_1,rfl,HA,HJ1,⟨mc1,rfl⟩⟩:=hcut
  cases kq with
  | zero => exact absurd HA.out (by simp [racewayref22_Atoi.j0])
  | succ kj1 =>
   have H:=HA.out
   clear HA
   simp only [racewayref22_Atoi.j0] at H
   have HC6:=Aside0.mk H
   clear H
   go_upto_if 16 with (fail)
   go_cut [4] (fun v4 wc => ∃ (kq : Nat) (x4_5 : Int),v4 = .int .i64 x4_5 ∧ Aside0 (racewayref22_Atoi.j1 kq a0 x4_5 = some (r1,r2)) ∧ Aside0 (kq ≤ kj1) ∧ Drawn0 w wc)
   case first =>
    have H:=HC6.out
    clear HC6
    by_cases c7 : x16_1 = true
    ·subst c7
     have H1 : (racewayref22_Atoi.j1 kj1 a0 1) = some (r1,r2):=by rw [if_pos rfl] at H;exact H
     clear H
     have H:=H1
     clear H1
     have H':=Aside0.mk H
     clear H
     go_wp2
     go_meet
     case rel => exact ⟨_,(1),(by first|rfl|(simp;done)|(simp;rw [show wrap64 (-9223372036854775800) = -9223372036854775800 by decide +kernel];done)|(simp;decide +kernel)|(simp [*];done)),(by first|exact H'|(subst_vars;exact H')),⟨by have:=HJ1.out;first|omega|exact Nat.le_refl _⟩,by repeat (first|exact Drawn0.refl _|apply Drawn0.step)⟩
    ·replace c7:=Bool.eq_false_iff.mpr c7
     subst c7
     have H1 : (racewayref22_Atoi.j1 kj1 a0 0) = some (r1,r2):=by rw [if_neg (show ¬ (false = true) by decide)] at H;exact H
     clear H
     have H:=H1
     clear H1
     have H':=Aside0.mk H
     clear H
     go_wp2
     go_meet
     case rel => exact ⟨_,(0),(by first|rfl|(simp;done)|(simp;rw [show wrap64 (-9223372036854775800) = -9223372036854775800 by decide +kernel];done)|(simp;decide +kernel)|(simp [*];done)),(by first|exact H'|(subst_vars;exact H')),⟨by have:=HJ1.out;first|omega|exact Nat.le_refl _⟩,by repeat (first|exact Drawn0.refl _|apply Drawn0.step)⟩
   case rest =>
    clear HC6
    try clear c1
    try clear p2
    try clear c3
    try clear c3b0
    try clear c3b1
    try clear c4
    try clear c4b0
    try clear c4b1
    try clear c5
    try clear p5
    try clear q5
    try clear hx5
    try clear qi5
    try clear c7
    try clear p2
    try clear p5
    try clear q5
    obtain ⟨kq,x4_5,rfl,HA,HJ5,⟨mc5,rfl⟩⟩:=hcut
    cases kq with
    | zero => exact absurd HA.out (by simp [racewayref22_Atoi.j1])
    | succ kj5 =>
     have H:=HA.out
     clear HA
     simp only [racewayref22_Atoi.j1] at H
     have HC8:=Aside0.mk H
     clear H
     go_upto_region 4 with (fail)
     go_cut [27] (fun v27 wc => ∃ (kq : Nat) (x27_7 : Bool),v27 = .bool x27_7 ∧ Aside0 (racewayref22_Atoi.j2 kq a0 x4_5 x27_7 = some (r1,r2)) ∧ Aside0 (kq ≤ kj5) ∧ Drawn0 w wc)
     case first =>
      have H:=HC8.out
      clear HC8
      by_cases c9 : x4_5 = (a0.size : Int)
      ·rw [if_pos c9] at H
       have c9b0 : (x4_5 == (a0.size : Int)) = true:=beq_iff_eq.mpr c9
       have c9b1 : (x4_5 != (a0.size : Int)) = false:=bne_eq_false_iff_eq.mpr c9
       clear c9
       (first|rw [c9b0]|(simp only [i64_w,i32_w];rw [c9b0])|skip)
       have H':=Aside0.mk H
       clear H
       go_wp2
       go_meet
       case rel => exact ⟨_,(true),(by first|rfl|(simp;done)|(simp;rw [show wrap64 (-9223372036854775800) = -9223372036854775800 by decide +kernel];done)|(simp;decide +kernel)|(simp [*];done)),(by first|exact H'|(subst_vars;exact H')),⟨by have:=HJ1.out;have:=HJ5.out;first|omega|exact Nat.le_refl _⟩,by repeat (first|exact Drawn0.refl _|apply Drawn0.step)⟩
      ·rw [if_neg c9] at H
       have c9b0 : (x4_5 == (a0.size : Int)) = false:=beq_eq_false_iff_ne.mpr c9
       have c9b1 : (x4_5 != (a0.size : Int)) = true:=bne_iff_ne.mpr c9
       (first|rw [c9b0]|(simp only [i64_w,i32_w];rw [c9b0])|skip)
       have H':=Aside0.mk H
       clear H
       go_wp2
       go_meet
       case rel => exact ⟨_,(decide ((wrap64 ((a0.size : Int) - x4_5)) > 19)),(by first|rfl|(simp;done)|(simp;rw [show wrap64 (-9223372036854775800) = -9223372036854775800 by decide +kernel];done)|(simp;decide +kernel)|(simp [*];done)),(by first|exact H'|(subst_vars;exact H')),⟨by have:=HJ1.out;have:=HJ5.out;first|omega|exact Nat.le_refl _⟩,by repeat (first|exact Drawn0.refl _|apply Drawn0.step)⟩
     case rest =>
      clear HC8
      try clear c1
      try clear p2
      try clear c3
      try clear c3b0
      try clear c3b1
      try clear c4
      try clear c4b0
      try clear c4b1
      try clear c5
      try clear p5
      try clear q5
      try clear hx5
      try clear qi5
      try clear p6
      try clear c7
      try clear c9
      try clear c9b0
      try clear c9b1
      try clear p2
      try clear p5
      try clear q5
      obtain ⟨kq,x27_7,rfl,HA,HJ7,⟨mc7,rfl⟩⟩:=hcut
      cases kq with
      | zero => exact absurd HA.out (by simp [racewayref22_Atoi.j2])
      | succ kj7 =>
       have H:=HA.out
       clear HA
       simp only [racewayref22_Atoi.j2] at H
       by_cases c10 : x27_7 = true
       ·subst c10
        have H1 : (some (0,5)) = some (r1,r2):=by rw [if_pos rfl] at H;exact H
        clear H
        have H:=H1
        clear H1
        simp only [Option.some.injEq,Prod.mk.injEq] at H
        obtain ⟨rfl,rfl⟩:=H
        go_wp2
        go_ret2
        exact ⟨by first|rfl|(simp;done)|(simp;rw [show wrap64 (-9223372036854775800) = -9223372036854775800 by decide +kernel];done)|(simp;decide +kernel)|(simp [*];done),by repeat (first|exact Drawn0.refl _|apply Drawn0.step)⟩
       ·replace c10:=Bool.eq_false_iff.mpr c10
        subst c10
        have H1 : (racewayref22_Atoi.l0 kj7 a0 x4_5 (-9223372036854775808) 0 x4_5) = some (r1,r2):=by rw [if_neg (show ¬ (false = true) by decide)] at H;exact H
        clear H
        have H:=H1
        clear H1
        have H':=Aside0.mk H
        clear H
        go_wp2
        go_loopg [6,7] kj7 (fun kq v6 v7 w' => ∃ (x6_4 : Int) (x7_4 : Int),v6 = .int .i64 x6_4 ∧ v7 = .int .i64 x7_4 ∧ Aside0 (racewayref22_Atoi.l0 kq a0 x4_5 (-9223372036854775808) x6_4 x7_4 = some (r1,r2)) ∧ Aside0 (kq ≤ kj7) ∧ Drawn0 w w')
        case atStart => exact ⟨(0),(x4_5),(by first|rfl|(simp;done)|(simp;rw [show wrap64 (-9223372036854775800) = -9223372036854775800 by decide +kernel];done)|(simp;decide +kernel)|(simp [*];done)),(by first|rfl|(simp;done)|(simp;rw [show wrap64 (-9223372036854775800) = -9223372036854775800 by decide +kernel];done)|(simp;decide +kernel)|(simp [*];done)),(by first|exact H'|(subst_vars;exact H')),⟨Nat.le_refl _⟩,by repeat (first|exact Drawn0.refl _|apply Drawn0.step)⟩
        case round =>
         clear H'
         try clear c1
         try clear p2
         try clear c3
         try clear c3b0
         try clear c3b1
         try clear c4
         try clear c4b0
         try clear c4b1
         try clear c5
         try clear p5
         try clear q5
         try clear hx5
         try clear qi5
         try clear p6
         try clear c7
         try clear c9
         try clear c9b0
         try clear c9b1
         try clear c10
         try clear p2
         try clear p5
         try clear p6
         try clear q5
         obtain ⟨x6_4,x7_4,rfl,rfl,HA,HK4,⟨m4,rfl⟩⟩:=hrel
         cases gk with
         | zero => exact absurd HA.out (by simp [racewayref22_Atoi.l0])
         | succ k4 =>
          have H:=HA.out
          clear HA
          simp only [racewayref22_Atoi.l0] at H
          by_cases c11 : x7_4 < (a0.size : Int)
          ·rw [if_pos c11] at H
           have c11b0 : decide (x7_4 < (a0.size : Int)) = true:=decide_eq_true c11
           clear c11
           have HC12:=Aside0.mk H
           clear H
           go_upto_region 11 with (fail)
           go_cut [44] (fun v44 wc => ∃ (kq : Nat) (x44_11 : Bool),v44 = .bool x44_11 ∧ Aside0 (racewayref22_Atoi.j4 kq a0 x4_5 (-9223372036854775808) x6_4 x7_4 x44_11 = some (r1,r2)) ∧ Aside0 (kq ≤ k4) ∧ Drawn0 w wc)
           case first =>
            have H:=HC12.out
            clear HC12
            by_cases c13 : 0 ≤ x7_4
            ·rw [if_pos c13] at H
             have c13b0 : decide (0 ≤ x7_4) = true:=decide_eq_true c13
             clear c13
             (first|rw [c13b0]|(simp only [i64_w,i32_w];rw [c13b0])|skip)
             by_cases c15 : (bt a0 x7_4) < 48
             ·rw [if_pos c15] at H
              have c15b0 : decide ((bt a0 x7_4) < 48) = true:=decide_eq_true c15
              clear c15
              have H':=Aside0.mk H
              clear H
              have p14 : 0 ≤ (x7_4 : Int):=of_decide_eq_true (by first|(with_reducible assumption)|assumption)
              have q14 : x7_4 < (a0.size : Int):=of_decide_eq_true (by first|(with_reducible assumption)|assumption)
              have hx14:=bt_at a0 x7_4
              replace p14:=eq_true p14
              replace q14:=eq_true q14
              go_wp2
              go_meet
              case rel => exact ⟨_,(true),(by first|rfl|(simp;done)|(simp;rw [show wrap64 (-9223372036854775800) = -9223372036854775800 by decide +kernel];done)|(simp;decide +kernel)|(simp [*];done)),(by first|exact H'|(subst_vars;exact H')),⟨by have:=HJ1.out;have:=HJ5.out;have:=HJ7.out;have:=HK4.out;first|omega|exact Nat.le_refl _⟩,by repeat (first|exact Drawn0.refl _|apply Drawn0.step)⟩
             ·rw [if_neg c15] at H
              have c15b0 : decide ((bt a0 x7_4) < 48) = false:=decide_eq_false c15
              clear c15
              have H':=Aside0.mk H
              clear H
              have p14 : 0 ≤ (x7_4 : Int):=of_decide_eq_true (by first|(with_reducible assumption)|assumption)
              have q14 : x7_4 < (a0.size : Int):=of_decide_eq_true (by first|(with_reducible assumption)|assumption)
              have hx14:=bt_at a0 x7_4
              replace p14:=eq_true p14
              replace q14:=eq_true q14
              have p16 : 0 ≤ (x7_4 : Int):=of_decide_eq_true (by first|(with_reducible assumption)|assumption)
              have q16 : x7_4 < (a0.size : Int):=of_decide_eq_true (by first|(with_reducible assumption)|assumption)
              have hx16:=bt_at a0 x7_4
              replace p16:=eq_true p16
              replace q16:=eq_true q16
              go_wp2
              go_meet
              case rel => exact ⟨_,(decide ((bt a0 x7_4) > 57)),(by first|rfl|(simp;done)|(simp;rw [show wrap64 (-9223372036854775800) = -9223372036854775800 by decide +kernel];done)|(simp;decide +kernel)|(simp [*];done)),(by first|exact H'|(subst_vars;exact H')),⟨by have:=HJ1.out;have:=HJ5.out;have:=HJ7.out;have:=HK4.out;first|omega|exact Nat.le_refl _⟩,by repeat (first|exact Drawn0.refl _|apply Drawn0.step)⟩
            ·rw [if_neg c13] at H
             exact absurd H (by simp)
           case rest =>
            clear HC12
            try clear c1
            try clear p1
            try clear q1
            try clear hx1
            try clear p2
            try clear c3
            try clear c3b0
            try clear c3b1
            try clear c4
            try clear c4b0
            try clear c4b1
            try clear c5
            try clear p5
            try clear q5
            try clear hx5
            try clear qi5
            try clear p6
            try clear c7
            try clear c9
            try clear c9b0
            try clear c9b1
            try clear c10
            try clear c11
            try clear c11b0
            try clear c13
            try clear c13b0
            try clear p14
            try clear q14
            try clear hx14
            try clear c15
            try clear c15b0
            try clear p16
            try clear q16
            try clear hx16
            try clear p14
            try clear p16
            try clear p2
            try clear p5
            try clear p6
            try clear q14
            try clear q16
            try clear q5
            obtain ⟨kq,x44_11,rfl,HA,HJ11,⟨mc11,rfl⟩⟩:=hcut
            cases kq with
            | zero => exact absurd HA.out (by simp [racewayref22_Atoi.j4])
            | succ kj11 =>
             have H:=HA.out
             clear HA
             simp only [racewayref22_Atoi.j4] at H
             by_cases c17 : x44_11 = true
             ·subst c17
              have H1 : (some (0,5)) = some (r1,r2):=by rw [if_pos rfl] at H;exact H
              clear H
              have H:=H1
              clear H1
              simp only [Option.some.injEq,Prod.mk.injEq] at H
              obtain ⟨rfl,rfl⟩:=H
              go_wp2
              go_ret2
              exact ⟨by first|rfl|(simp;done)|(simp;rw [show wrap64 (-9223372036854775800) = -9223372036854775800 by decide +kernel];done)|(simp;decide +kernel)|(simp [*];done),by repeat (first|exact Drawn0.refl _|apply Drawn0.step)⟩
             ·replace c17:=Bool.eq_false_iff.mpr c17
              subst c17
              have H1 : (if 0 ≤ x7_4 then (if x7_4 < (a0.size : Int) then (if x6_4 < (wrap64 (Int.tdiv (-9223372036854775808) 10)) then (some (0,5)) else (if x6_4 = (wrap64 (Int.tdiv (-9223372036854775808) 10)) then (if (((bt a0 x7_4) - 48) % 256) > 8 then (some (0,5)) else (racewayref22_Atoi.l0 kj11 a0 x4_5 (-9223372036854775808) (wrap64 ((wrap64 (10 * x6_4)) - (((bt a0 x7_4) - 48) % 256))) (wrap64 (x7_4 + 1)))) else (racewayref22_Atoi.l0 kj11 a0 x4_5 (-9223372036854775808) (wrap64 ((wrap64 (10 * x6_4)) - (((bt a0 x7_4) - 48) % 256))) (wrap64 (x7_4 + 1))))) else (none)) else (none)) = some (r1,r2):=by rw [if_neg (show ¬ (false = true) by decide)] at H;exact H
              clear H
              have H:=H1
              clear H1
              by_cases c18 : 0 ≤ x7_4
              ·rw [if_pos c18] at H
               have c18b0 : decide (0 ≤ x7_4) = true:=decide_eq_true c18
               clear c18
               by_cases c19 : x7_4 < (a0.size : Int)
               ·rw [if_pos c19] at H
                have c19b0 : decide (x7_4 < (a0.size : Int)) = true:=decide_eq_true c19
                clear c19
                by_cases c21 : x6_4 < (wrap64 (Int.tdiv (-9223372036854775808) 10))
                ·rw [if_pos c21] at H
                 have c21b0 : decide (x6_4 < (-922337203685477580)) = true:=by have hq:=decide_eq_true c21;rw [show (wrap64 (Int.tdiv (-9223372036854775808) 10)) = -922337203685477580 by decide +kernel] at hq;exact hq
                 clear c21
                 simp only [Option.some.injEq,Prod.mk.injEq] at H
                 obtain ⟨rfl,rfl⟩:=H
                 have p20 : 0 ≤ (x7_4 : Int):=of_decide_eq_true (by first|(with_reducible assumption)|assumption)
                 have q20 : x7_4 < (a0.size : Int):=of_decide_eq_true (by first|(with_reducible assumption)|assumption)
                 have hx20:=bt_at a0 x7_4
                 replace p20:=eq_true p20
                 replace q20:=eq_true q20
                 go_wp2
                 go_ret2
                 exact ⟨by first|rfl|(simp;done)|(simp;rw [show wrap64 (-9223372036854775800) = -9223372036854775800 by decide +kernel];done)|(simp;decide +kernel)|(simp [*];done),by repeat (first|exact Drawn0.refl _|apply Drawn0.step)⟩
                ·rw [if_neg c21] at H
                 have c21b0 : decide (x6_4 < (-922337203685477580)) = false:=by have hq:=decide_eq_false c21;rw [show (wrap64 (Int.tdiv (-9223372036854775808) 10)) = -922337203685477580 by decide +kernel] at hq;exact hq
                 clear c21
                 by_cases c22 : x6_4 = (wrap64 (Int.tdiv (-9223372036854775808) 10))
                 ·rw [if_pos c22] at H
                  have c22b0 : (x6_4 == (-922337203685477580)) = true:=by have hq:=beq_iff_eq.mpr c22;rw [show (wrap64 (Int.tdiv (-9223372036854775808) 10)) = -922337203685477580 by decide +kernel] at hq;exact hq
                  have c22b1 : (x6_4 != (-922337203685477580)) = false:=by have hq:=bne_eq_false_iff_eq.mpr c22;rw [show (wrap64 (Int.tdiv (-9223372036854775808) 10)) = -922337203685477580 by decide +kernel] at hq;exact hq
                  clear c22
                  by_cases c23 : (((bt a0 x7_4) - 48) % 256) > 8
                  ·rw [if_pos c23] at H
                   have c23b0 : decide (8 < (((bt a0 x7_4) - 48) % 256)) = true:=decide_eq_true c23
                   clear c23
                   simp only [Option.some.injEq,Prod.mk.injEq] at H
                   obtain ⟨rfl,rfl⟩:=H
                   have p20 : 0 ≤ (x7_4 : Int):=of_decide_eq_true (by first|(with_reducible assumption)|assumption)
                   have q20 : x7_4 < (a0.size : Int):=of_decide_eq_true (by first|(with_reducible assumption)|assumption)
                   have hx20:=bt_at a0 x7_4
                   replace p20:=eq_true p20
                   replace q20:=eq_true q20
                   go_wp2
                   go_ret2
                   exact ⟨by first|rfl|(simp;done)|(simp;rw [show wrap64 (-9223372036854775800) = -9223372036854775800 by decide +kernel];done)|(simp;decide +kernel)|(simp [*];done),by repeat (first|exact Drawn0.refl _|apply Drawn0.step)⟩
                  ·rw [if_neg c23] at H
                   have c23b0 : decide (8 < (((bt a0 x7_4) - 48) % 256)) = false:=decide_eq_false c23
                   clear c23
                   have H':=Aside0.mk H
                   clear H
                   have p20 : 0 ≤ (x7_4 : Int):=of_decide_eq_true (by first|(with_reducible assumption)|assumption)
                   have q20 : x7_4 < (a0.size : Int):=of_decide_eq_true (by first|(with_reducible assumption)|assumption)
                   have hx20:=bt_at a0 x7_4
                   replace p20:=eq_true p20
                   replace q20:=eq_true q20
                   go_wp2
                   go_roundg kj11
                   case measure => have:=HJ1.out;have:=HJ5.out;have:=HJ7.out;have:=HK4.out;have:=HJ11.out;omega
                   case rel => exact ⟨(wrap64 ((wrap64 (10 * x6_4)) - (((bt a0 x7_4) - 48) % 256))),(wrap64 (x7_4 + 1)),(by first|rfl|(simp;done)|(simp;rw [show wrap64 (-9223372036854775800) = -9223372036854775800 by decide +kernel];done)|(simp;decide +kernel)|(simp [*];done)),(by first|rfl|(simp;done)|(simp;rw [show wrap64 (-9223372036854775800) = -9223372036854775800 by decide +kernel];done)|(simp;decide +kernel)|(simp [*];done)),(by first|exact H'|(subst_vars;exact H')),⟨by have:=HJ1.out;have:=HJ5.out;have:=HJ7.out;have:=HK4.out;have:=HJ11.out;omega⟩,by repeat (first|exact Drawn0.refl _|apply Drawn0.step)⟩
                 ·rw [if_neg c22] at H
                  have c22b0 : (x6_4 == (-922337203685477580)) = false:=by have hq:=beq_eq_false_iff_ne.mpr c22;rw [show (wrap64 (Int.tdiv (-9223372036854775808) 10)) = -922337203685477580 by decide +kernel] at hq;exact hq
                  have c22b1 : (x6_4 != (-922337203685477580)) = true:=by have hq:=bne_iff_ne.mpr c22;rw [show (wrap64 (Int.tdiv (-9223372036854775808) 10)) = -922337203685477580 by decide +kernel] at hq;exact hq
                  have H':=Aside0.mk H
                  clear H
                  have p20 : 0 ≤ (x7_4 : Int):=of_decide_eq_true (by first|(with_reducible assumption)|assumption)
                  have q20 : x7_4 < (a0.size : Int):=of_decide_eq_true (by first|(with_reducible assumption)|assumption)
                  have hx20:=bt_at a0 x7_4
                  replace p20:=eq_true p20
                  replace q20:=eq_true q20
                  go_wp2
                  go_roundg kj11
                  case measure => have:=HJ1.out;have:=HJ5.out;have:=HJ7.out;have:=HK4.out;have:=HJ11.out;omega
                  case rel => exact ⟨(wrap64 ((wrap64 (10 * x6_4)) - (((bt a0 x7_4) - 48) % 256))),(wrap64 (x7_4 + 1)),(by first|rfl|(simp;done)|(simp;rw [show wrap64 (-9223372036854775800) = -9223372036854775800 by decide +kernel];done)|(simp;decide +kernel)|(simp [*];done)),(by first|rfl|(simp;done)|(simp;rw [show wrap64 (-9223372036854775800) = -9223372036854775800 by decide +kernel];done)|(simp;decide +kernel)|(simp [*];done)),(by first|exact H'|(subst_vars;exact H')),⟨by have:=HJ1.out;have:=HJ5.out;have:=HJ7.out;have:=HK4.out;have:=HJ11.out;omega⟩,by repeat (first|exact Drawn0.refl _|apply Drawn0.step)⟩
               ·rw [if_neg c19] at H
                exact absurd H (by simp)
              ·rw [if_neg c18] at H
               exact absurd H (by simp)
          ·rw [if_neg c11] at H
           have c11b0 : decide (x7_4 < (a0.size : Int)) = false:=decide_eq_false c11
           clear c11
           by_cases c24 : x4_5 = 0
           ·rw [if_pos c24] at H
            have c24b0 : (x4_5 == 0) = true:=beq_iff_eq.mpr c24
            have c24b1 : (x4_5 != 0) = false:=bne_eq_false_iff_eq.mpr c24
            clear c24
            by_cases c25 : x6_4 = (-9223372036854775808)
            ·rw [if_pos c25] at H
             have c25b0 : (x6_4 == (-9223372036854775808)) = true:=beq_iff_eq.mpr c25
             have c25b1 : (x6_4 != (-9223372036854775808)) = false:=bne_eq_false_iff_eq.mpr c25
             clear c25
             simp only [Option.some.injEq,Prod.mk.injEq] at H
             obtain ⟨rfl,rfl⟩:=H
             go_wp2
             go_ret2
             exact ⟨by first|rfl|(simp;done)|(simp;rw [show wrap64 (-9223372036854775800) = -9223372036854775800 by decide +kernel];done)|(simp;decide +kernel)|(simp [*];done),by repeat (first|exact Drawn0.refl _|apply Drawn0.step)⟩
            ·rw [if_neg c25] at H
             have c25b0 : (x6_4 == (-9223372036854775808)) = false:=beq_eq_false_iff_ne.mpr c25
             have c25b1 : (x6_4 != (-9223372036854775808)) = true:=bne_iff_ne.mpr c25
             replace H:=Option.bind_eq_some_iff.mp H
             obtain ⟨t135,A260,H⟩:=H
             replace H : (if t135.toList = a0.toList then (some (wrap64 (-x6_4),0)) else (some (0,5))) = some (r1,r2):=H
             have A26:=Aside0.mk A260
             clear A260
             by_cases c27 : t135.toList = a0.toList
             ·rw [if_pos c27] at H
              have c27b0 : (t135.toList == a0.toList) = true:=beq_iff_eq.mpr c27
              have c27b1 : (t135.toList != a0.toList) = false:=bne_eq_false_iff_eq.mpr c27
              clear c27
              simp only [Option.some.injEq,Prod.mk.injEq] at H
              obtain ⟨rfl,rfl⟩:=H
              go_wp2_with (first|((with_reducible refine gate_callee (f:=63) rfl ?_);refine goesL_ (some 76) rfl rfl Tryd.func63 (by kernel_rfl) rfl #[.int .i64 (wrap64 (-x6_4))] rfl (by (try simp only [List.map_toArray,List.map_cons,List.map_nil]);first|done|rfl|(simp only [List.length_drop,List.length_take];rfl)) ?_;(with_reducible refine (racewayref22_Itoa.calls k4 (wrap64 (-x6_4)) t135 _ A26.out).mono ?_);rintro e w' ⟨rfl,⟨nd,rfl⟩⟩;refine ⟨_,rfl,?_⟩))
              go_ret2
              exact ⟨by first|rfl|(simp;done)|(simp;rw [show wrap64 (-9223372036854775800) = -9223372036854775800 by decide +kernel];done)|(simp;decide +kernel)|(simp [*];done),by repeat (first|exact Drawn0.refl _|apply Drawn0.step)⟩
             ·rw [if_neg c27] at H
              have c27b0 : (t135.toList == a0.toList) = false:=beq_eq_false_iff_ne.mpr c27
              have c27b1 : (t135.toList != a0.toList) = true:=bne_iff_ne.mpr c27
              simp only [Option.some.injEq,Prod.mk.injEq] at H
              obtain ⟨rfl,rfl⟩:=H
              go_wp2_with (first|((with_reducible refine gate_callee (f:=63) rfl ?_);refine goesL_ (some 76) rfl rfl Tryd.func63 (by kernel_rfl) rfl #[.int .i64 (wrap64 (-x6_4))] rfl (by (try simp only [List.map_toArray,List.map_cons,List.map_nil]);first|done|rfl|(simp only [List.length_drop,List.length_take];rfl)) ?_;(with_reducible refine (racewayref22_Itoa.calls k4 (wrap64 (-x6_4)) t135 _ A26.out).mono ?_);rintro e w' ⟨rfl,⟨nd,rfl⟩⟩;refine ⟨_,rfl,?_⟩))
              go_ret2
              exact ⟨by first|rfl|(simp;done)|(simp;rw [show wrap64 (-9223372036854775800) = -9223372036854775800 by decide +kernel];done)|(simp;decide +kernel)|(simp [*];done),by repeat (first|exact Drawn0.refl _|apply Drawn0.step)⟩
           ·rw [if_neg c24] at H
            have c24b0 : (x4_5 == 0) = false:=beq_eq_false_iff_ne.mpr c24
            have c24b1 : (x4_5 != 0) = true:=bne_iff_ne.mpr c24
            replace H:=Option.bind_eq_some_iff.mp H
            obtain ⟨t136,A280,H⟩:=H
            replace H : (if t136.toList = a0.toList then (some (x6_4,0)) else (some (0,5))) = some (r1,r2):=H
            have A28:=Aside0.mk A280
            clear A280
            by_cases c29 : t136.toList = a0.toList
            ·rw [if_pos c29] at H
             have c29b0 : (t136.toList == a0.toList) = true:=beq_iff_eq.mpr c29
             have c29b1 : (t136.toList != a0.toList) = false:=bne_eq_false_iff_eq.mpr c29
             clear c29
             simp only [Option.some.injEq,Prod.mk.injEq] at H
             obtain ⟨rfl,rfl⟩:=H
             go_wp2_with (first|((with_reducible refine gate_callee (f:=63) rfl ?_);refine goesL_ (some 76) rfl rfl Tryd.func63 (by kernel_rfl) rfl #[.int .i64 x6_4] rfl (by (try simp only [List.map_toArray,List.map_cons,List.map_nil]);first|done|rfl|(simp only [List.length_drop,List.length_take];rfl)) ?_;(with_reducible refine (racewayref22_Itoa.calls k4 x6_4 t136 _ A28.out).mono ?_);rintro e w' ⟨rfl,⟨nd,rfl⟩⟩;refine ⟨_,rfl,?_⟩))
             go_ret2
             exact ⟨by first|rfl|(simp;done)|(simp;rw [show wrap64 (-9223372036854775800) = -9223372036854775800 by decide +kernel];done)|(simp;decide +kernel)|(simp [*];done),by repeat (first|exact Drawn0.refl _|apply Drawn0.step)⟩
            ·rw [if_neg c29] at H
             have c29b0 : (t136.toList == a0.toList) = false:=beq_eq_false_iff_ne.mpr c29
             have c29b1 : (t136.toList != a0.toList) = true:=bne_iff_ne.mpr c29
             simp only [Option.some.injEq,Prod.mk.injEq] at H
             obtain ⟨rfl,rfl⟩:=H
             go_wp2_with (first|((with_reducible refine gate_callee (f:=63) rfl ?_);refine goesL_ (some 76) rfl rfl Tryd.func63 (by kernel_rfl) rfl #[.int .i64 x6_4] rfl (by (try simp only [List.map_toArray,List.map_cons,List.map_nil]);first|done|rfl|(simp only [List.length_drop,List.length_take];rfl)) ?_;(with_reducible refine (racewayref22_Itoa.calls k4 x6_4 t136 _ A28.out).mono ?_);rintro e w' ⟨rfl,⟨nd,rfl⟩⟩;refine ⟨_,rfl,?_⟩))
             go_ret2
             exact ⟨by first|rfl|(simp;done)|(simp;rw [show wrap64 (-9223372036854775800) = -9223372036854775800 by decide +kernel];done)|(simp;decide +kernel)|(simp [*];done),by repeat (first|exact Drawn0.refl _|apply Drawn0.step)⟩
end Go.Proofs.YtedfgkjimnjdpaaDoor.X
namespace Go.Proofs.YtedfgkjimnjdpaaDoor.X
open Go.RowKit Go.Proofs.YtedfgkjimnjdpaaDoorW.PrintWords Go.Proofs.YtedfgkjimnjdpaaDoorW.PrintLast Go.Proofs.YtedfgkjimnjdpaaDoorW.PrintMore
attribute [local go_sem] max2_int min2_int max_two min_two max_three min_three max_four min_four
set_option linter.unusedVariables false
set_option linter.unusedSimpArgs false
mutual
def racewayref27_Unsequence.j1 : Nat → ByteArray → Int → Option (Int × Int)
 | 0,_,_ => none
 | k + 1,x0,x4 => if 0 ≤ x4 then (if x4 ≤ (x0.size : Int) then ((racewayref22_Atoi.f k (x0.extract (x4 : Int).toNat x0.size)).bind fun bt137 => (if bt137.2 = 0 then (if bt137.1 < 0 then (some (0,5)) else ((racewayref27_Sequence.f k bt137.1).bind fun t139 => (if t139.toList = x0.toList then (some (bt137.1,0)) else (some (0,5))))) else (some (0,5)))) else (none)) else (none)
def racewayref27_Unsequence.l0 : Nat → ByteArray → Int → Option (Int × Int)
 | 0,_,_ => none
 | k + 1,x0,x4 => if (wrap64 (x4 + 1)) < (x0.size : Int) then (if 0 ≤ x4 then (if x4 < (x0.size : Int) then (if (bt x0 x4) = 48 then (racewayref27_Unsequence.l0 k x0 (wrap64 (x4 + 1))) else (racewayref27_Unsequence.j1 k x0 x4)) else (none)) else (none)) else (racewayref27_Unsequence.j1 k x0 x4)
end
def racewayref27_Unsequence.f (k : Nat) (a0 : ByteArray) : Option (Int × Int):=racewayref27_Unsequence.l0 k a0 0
set_option maxHeartbeats 8000000 in
set_option maxRecDepth 100000 in
theorem racewayref27_Unsequence.calls (k : Nat) (a0 : ByteArray) (r1 : Int) (r2 : Int) (w : World) (h : racewayref27_Unsequence.f k a0 = some (r1,r2)) :
  Calls Tryd.prog 24 #[.string a0] w fun e w' => e = .returned (.tuple #[.int .i64 r1,.int .i64 r2]) ∧ Drawn0 w w':=by
 have H : (racewayref27_Unsequence.l0 k a0 0) = some (r1,r2):=h
 clear h
 have HC2:=Aside0.mk H
 clear H
 go_enter Tryd.func24,Tryd.ntmps24
 go_upto_block 0 with (fail)
 go_cut [4] (fun v4 wc => ∃ (kq : Nat) (x4_1 : Int),v4 = .int .i64 x4_1 ∧ Aside0 (racewayref27_Unsequence.j1 kq a0 x4_1 = some (r1,r2)) ∧ Aside0 (kq ≤ k) ∧ Drawn0 w wc)
 case first =>
  have H:=HC2.out
  clear HC2
  have H':=Aside0.mk H
  clear H
  go_wp2
  go_loopg [4] k (fun kq v4 w' => ∃ (x4_1 : Int),v4 = .int .i64 x4_1 ∧ Aside0 (racewayref27_Unsequence.l0 kq a0 x4_1 = some (r1,r2)) ∧ Aside0 (kq ≤ k) ∧ Drawn0 w w')
  case atStart => exact ⟨(0),(by first|rfl|(simp;done)|(simp;decide +kernel)|(simp [*];done)),(by first|exact H'|(subst_vars;exact H')),⟨Nat.le_refl _⟩,by repeat (first|exact Drawn0.refl _|apply Drawn0.step)⟩
  case round =>
   clear H'
   try clear c2
   try clear p2
   obtain ⟨x4_1,rfl,HA,HK1,⟨m1,rfl⟩⟩:=hrel
   cases gk with
   | zero => exact absurd HA.out (by simp [racewayref27_Unsequence.l0])
   | succ k1 =>
    have H:=HA.out
    clear HA
    simp only [racewayref27_Unsequence.l0] at H
    by_cases c3 : (wrap64 (x4_1 + 1)) < (a0.size : Int)
    ·rw [if_pos c3] at H
     have c3b0 : decide ((wrap64 (x4_1 + 1)) < (a0.size : Int)) = true:=decide_eq_true c3
     clear c3
     (first|rw [c3b0]|(simp only [i64_w,i32_w];rw [c3b0])|skip)
     by_cases c4 : 0 ≤ x4_1
     ·rw [if_pos c4] at H
      have c4b0 : decide (0 ≤ x4_1) = true:=decide_eq_true c4
      clear c4
      by_cases c5 : x4_1 < (a0.size : Int)
      ·rw [if_pos c5] at H
       have c5b0 : decide (x4_1 < (a0.size : Int)) = true:=decide_eq_true c5
       clear c5
       by_cases c7 : (bt a0 x4_1) = 48
       ·rw [if_pos c7] at H
        have c7b0 : ((bt a0 x4_1) == 48) = true:=beq_iff_eq.mpr c7
        have c7b1 : ((bt a0 x4_1) != 48) = false:=bne_eq_false_iff_eq.mpr c7
        clear c7
        have H':=Aside0.mk H
        clear H
        have p6 : 0 ≤ (x4_1 : Int):=of_decide_eq_true (by first|(with_reducible assumption)|assumption)
        have q6 : x4_1 < (a0.size : Int):=of_decide_eq_true (by first|(with_reducible assumption)|assumption)
        have hx6:=bt_at a0 x4_1
        replace p6:=eq_true p6
        replace q6:=eq_true q6
        go_wp2
        go_roundg k1
        case measure => have:=HK1.out;omega
        case rel => exact ⟨(wrap64 (x4_1 + 1)),(by first|rfl|(simp;done)|(simp;decide +kernel)|(simp [*];done)),(by first|exact H'|(subst_vars;exact H')),⟨by have:=HK1.out;omega⟩,by repeat (first|exact Drawn0.refl _|apply Drawn0.step)⟩
       ·rw [if_neg c7] at H
        have c7b0 : ((bt a0 x4_1) == 48) = false:=beq_eq_false_iff_ne.mpr c7
        have c7b1 : ((bt a0 x4_1) != 48) = true:=bne_iff_ne.mpr c7
        have H':=Aside0.mk H
        clear H
        have p6 : 0 ≤ (x4_1 : Int):=of_decide_eq_true (by first|(with_reducible assumption)|assumption)
        have q6 : x4_1 < (a0.size : Int):=of_decide_eq_true (by first|(with_reducible assumption)|assumption)
        have hx6:=bt_at a0 x4_1
        replace p6:=eq_true p6
        replace q6:=eq_true q6
        go_wp2
        go_meet
        case rel => exact ⟨_,(x4_1),(by first|rfl|(simp;done)|(simp;decide +kernel)|(simp [*];done)),(by first|exact H'|(subst_vars;exact H')),⟨by have:=HK1.out;first|omega|exact Nat.le_refl _⟩,by repeat (first|exact Drawn0.refl _|apply Drawn0.step)⟩
      ·rw [if_neg c5] at H
       exact absurd H (by simp)
     ·rw [if_neg c4] at H
      exact absurd H (by simp)
    ·rw [if_neg c3] at H
     have c3b0 : decide ((wrap64 (x4_1 + 1)) < (a0.size : Int)) = false:=decide_eq_false c3
     clear c3
     (first|rw [c3b0]|(simp only [i64_w,i32_w];rw [c3b0])|skip)
     have H':=Aside0.mk H
     clear H
     go_wp2
     go_meet
     case rel => exact ⟨_,(x4_1),(by first|rfl|(simp;done)|(simp;decide +kernel)|(simp [*];done)),(by first|exact H'|(subst_vars;exact H')),⟨by have:=HK1.out;first|omega|exact Nat.le_refl _⟩,by repeat (first|exact Drawn0.refl _|apply Drawn0.step)⟩
 case rest =>
  clear HC2
  try clear c2
  try clear p2
  try clear c3
  try clear c3b0
  try clear c4
  try clear c4b0
  try clear c5
  try clear c5b0
  try clear p6
  try clear q6
  try clear hx6
  try clear c7
  try clear c7b0
  try clear c7b1
  try clear p2
  try clear p6
  try clear q6
  obtain ⟨kq,x4_1,rfl,HA,HJ1,⟨mc1,rfl⟩⟩:=hcut
  cases kq with
  | zero => exact absurd HA.out (by simp [racewayref27_Unsequence.j1])
  | succ kj1 =>
   have H:=HA.out
   clear HA
   simp only [racewayref27_Unsequence.j1] at H
   by_cases c8 : 0 ≤ x4_1
   ·rw [if_pos c8] at H
    have c8b0:=eq_true c8
    have c8b1 : decide (0 ≤ x4_1) = true:=decide_eq_true c8
    clear c8
    by_cases c9 : x4_1 ≤ (a0.size : Int)
    ·rw [if_pos c9] at H
     have c9b0:=eq_true c9
     have c9b1 : decide (x4_1 ≤ (a0.size : Int)) = true:=decide_eq_true c9
     clear c9
     replace H:=Option.bind_eq_some_iff.mp H
     obtain ⟨⟨t137,t138⟩,A100,H⟩:=H
     replace H : (if t138 = 0 then (if t137 < 0 then (some (0,5)) else ((racewayref27_Sequence.f kj1 t137).bind fun t139 => (if t139.toList = a0.toList then (some (t137,0)) else (some (0,5))))) else (some (0,5))) = some (r1,r2):=H
     have A10:=Aside0.mk A100
     clear A100
     by_cases c11 : t138 = 0
     ·rw [if_pos c11] at H
      have c11b0 : (t138 == 0) = true:=beq_iff_eq.mpr c11
      have c11b1 : (t138 != 0) = false:=bne_eq_false_iff_eq.mpr c11
      clear c11
      by_cases c12 : t137 < 0
      ·rw [if_pos c12] at H
       have c12b0 : decide (t137 < 0) = true:=decide_eq_true c12
       clear c12
       simp only [Option.some.injEq,Prod.mk.injEq] at H
       obtain ⟨rfl,rfl⟩:=H
       go_wp2_with (first|((with_reducible refine gate_callee (f:=57) rfl ?_);refine goesL_ (some 24) rfl rfl Tryd.func57 (by kernel_rfl) rfl #[.string (a0.extract (x4_1 : Int).toNat a0.size)] rfl (by (try simp only [List.map_toArray,List.map_cons,List.map_nil]);first|done|rfl|(simp only [List.length_drop,List.length_take];rfl)) ?_;(with_reducible refine (racewayref22_Atoi.calls kj1 (a0.extract (x4_1 : Int).toNat a0.size) t137 t138 _ A10.out).mono ?_);rintro e w' ⟨rfl,⟨nd,rfl⟩⟩;refine ⟨_,rfl,?_⟩))
       go_ret2
       exact ⟨by first|rfl|(simp;done)|(simp;decide +kernel)|(simp [*];done),by repeat (first|exact Drawn0.refl _|apply Drawn0.step)⟩
      ·rw [if_neg c12] at H
       have c12b0 : decide (t137 < 0) = false:=decide_eq_false c12
       clear c12
       replace H:=Option.bind_eq_some_iff.mp H
       obtain ⟨t139,A130,H⟩:=H
       replace H : (if t139.toList = a0.toList then (some (t137,0)) else (some (0,5))) = some (r1,r2):=H
       have A13:=Aside0.mk A130
       clear A130
       by_cases c14 : t139.toList = a0.toList
       ·rw [if_pos c14] at H
        have c14b0 : (t139.toList == a0.toList) = true:=beq_iff_eq.mpr c14
        have c14b1 : (t139.toList != a0.toList) = false:=bne_eq_false_iff_eq.mpr c14
        clear c14
        simp only [Option.some.injEq,Prod.mk.injEq] at H
        obtain ⟨rfl,rfl⟩:=H
        go_wp2_with (first|((with_reducible refine gate_callee (f:=57) rfl ?_);refine goesL_ (some 24) rfl rfl Tryd.func57 (by kernel_rfl) rfl #[.string (a0.extract (x4_1 : Int).toNat a0.size)] rfl (by (try simp only [List.map_toArray,List.map_cons,List.map_nil]);first|done|rfl|(simp only [List.length_drop,List.length_take];rfl)) ?_;(with_reducible refine (racewayref22_Atoi.calls kj1 (a0.extract (x4_1 : Int).toNat a0.size) t137 t138 _ A10.out).mono ?_);rintro e w' ⟨rfl,⟨nd,rfl⟩⟩;refine ⟨_,rfl,?_⟩)|(go_at_call 27;(with_reducible refine (racewayref27_Sequence.calls kj1 t137 t139 _ A13.out).mono ?_);rintro e w' ⟨rfl,⟨nd,rfl⟩⟩))
        go_ret2
        exact ⟨by first|rfl|(simp;done)|(simp;decide +kernel)|(simp [*];done),by repeat (first|exact Drawn0.refl _|apply Drawn0.step)⟩
       ·rw [if_neg c14] at H
        have c14b0 : (t139.toList == a0.toList) = false:=beq_eq_false_iff_ne.mpr c14
        have c14b1 : (t139.toList != a0.toList) = true:=bne_iff_ne.mpr c14
        simp only [Option.some.injEq,Prod.mk.injEq] at H
        obtain ⟨rfl,rfl⟩:=H
        go_wp2_with (first|((with_reducible refine gate_callee (f:=57) rfl ?_);refine goesL_ (some 24) rfl rfl Tryd.func57 (by kernel_rfl) rfl #[.string (a0.extract (x4_1 : Int).toNat a0.size)] rfl (by (try simp only [List.map_toArray,List.map_cons,List.map_nil]);first|done|rfl|(simp only [List.length_drop,List.length_take];rfl)) ?_;(with_reducible refine (racewayref22_Atoi.calls kj1 (a0.extract (x4_1 : Int).toNat a0.size) t137 t138 _ A10.out).mono ?_);rintro e w' ⟨rfl,⟨nd,rfl⟩⟩;refine ⟨_,rfl,?_⟩)|(go_at_call 27;(with_reducible refine (racewayref27_Sequence.calls kj1 t137 t139 _ A13.out).mono ?_);rintro e w' ⟨rfl,⟨nd,rfl⟩⟩))
        go_ret2
        exact ⟨by first|rfl|(simp;done)|(simp;decide +kernel)|(simp [*];done),by repeat (first|exact Drawn0.refl _|apply Drawn0.step)⟩
     ·rw [if_neg c11] at H
      have c11b0 : (t138 == 0) = false:=beq_eq_false_iff_ne.mpr c11
      have c11b1 : (t138 != 0) = true:=bne_iff_ne.mpr c11
      simp only [Option.some.injEq,Prod.mk.injEq] at H
      obtain ⟨rfl,rfl⟩:=H
      go_wp2_with (first|((with_reducible refine gate_callee (f:=57) rfl ?_);refine goesL_ (some 24) rfl rfl Tryd.func57 (by kernel_rfl) rfl #[.string (a0.extract (x4_1 : Int).toNat a0.size)] rfl (by (try simp only [List.map_toArray,List.map_cons,List.map_nil]);first|done|rfl|(simp only [List.length_drop,List.length_take];rfl)) ?_;(with_reducible refine (racewayref22_Atoi.calls kj1 (a0.extract (x4_1 : Int).toNat a0.size) t137 t138 _ A10.out).mono ?_);rintro e w' ⟨rfl,⟨nd,rfl⟩⟩;refine ⟨_,rfl,?_⟩))
      go_ret2
      exact ⟨by first|rfl|(simp;done)|(simp;decide +kernel)|(simp [*];done),by repeat (first|exact Drawn0.refl _|apply Drawn0.step)⟩
    ·rw [if_neg c9] at H
     exact absurd H (by simp)
   ·rw [if_neg c8] at H
    exact absurd H (by simp)
end Go.Proofs.YtedfgkjimnjdpaaDoor.X
namespace Go.Proofs.YtedfgkjimnjdpaaDoor.X
open Go.RowKit Go.Proofs.YtedfgkjimnjdpaaDoorW.PrintWords
set_option linter.unusedVariables false
set_option linter.unusedSimpArgs false
theorem and31n (j : Int) (h0 : -32 < j) (h1 : j < 0) : bits .and .u64 (j + 18446744073709551616) 31 = j + 32:=by
 obtain ⟨m,rfl⟩ : ∃ m : Nat,j = (m : Int) - 31:=⟨(j + 31).toNat,by omega⟩
 have : ∀ k : Fin 31,bits .and .u64 (((k.val : Nat) : Int) - 31 + 18446744073709551616) 31 = ((k.val : Nat) : Int) - 31 + 32:=by decide +kernel
 exact this ⟨m,by omega⟩
def rotr (x k : Int) : Int:=bits .or .u32 ((x * 2 ^ (32 - k).toNat) % 4294967296) (x / 2 ^ k.toNat)
set_option maxHeartbeats 1000000 in
set_option maxRecDepth 100000 in
theorem rotr_calls (x k : Int) (h0 : -32 < k) (h1 : k < 0) (w : World) : Calls Tryd.prog 132 #[.int .u32 x,.int .i64 k] w fun e w' => e = .returned (.int .u32 (rotr x (-k))) ∧ w' = w:=by
 have hm : IntKind.u64.wrap k = k + 18446744073709551616:=by
  unfold IntKind.wrap
  simp [IntKind.signed,IntKind.bits]
  omega
 have hb : bits .and .u64 (IntKind.u64.wrap k) 31 = k + 32:=by rw [hm];exact and31n k h0 h1
 have e1 : 32 - -k = k + 32:=by omega
 have e2 : (-k).toNat = (32 - (k + 32)).toNat:=by omega
 unfold rotr
 rw [e1,e2]
 clear e1 e2 hm
 go_enter Tryd.func132,Tryd.ntmps132
 go_wp2
 go_ret
 exact ⟨rfl,rfl⟩
end Go.Proofs.YtedfgkjimnjdpaaDoor.X
