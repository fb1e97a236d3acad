/-
  What the claim's law rests on, part 3 of 6: printed walks, externals, plain lemmas; conditions: none of its own.
-/
import Derived.Great.BuildSlice
import Derived.Laws.CopyOwn
import Derived.Lib.ConvBytes
import Derived.Lib.ReflectliteSwap
import Derived.OwnWalk
import Derived.Test.YtedfgkjimnjdpaaDoorTi2
namespace Go.Proofs.YtedfgkjimnjdpaaDoor.X
open Go.RowKit Go.Proofs.YtedfgkjimnjdpaaDoorW.PrintWords
set_option linter.unusedVariables false
set_option linter.unusedSimpArgs false
def dgCells (ws bl : List Int) (n : Int) : List Value:=.bool true :: (nums .u32 ws ++ (nums .u8 bl ++ [.int .i64 n]))
def wordB (b0 b1 b2 b3 : Int) : Int:=bits .or .u32 (bits .or .u32 (bits .or .u32 (b0 % 4294967296 * 16777216 % 4294967296) (b1 % 4294967296 * 65536 % 4294967296)) (b2 % 4294967296 * 256 % 4294967296)) (b3 % 4294967296)
def dgWord (bl : List Int) (i : Nat) : Int:=wordB (bl.getD (4 * i) 0) (bl.getD (4 * i + 1) 0) (bl.getD (4 * i + 2) 0) (bl.getD (4 * i + 3) 0)
def sgA (x : Int) : Int:=bits .xor .u32 (bits .xor .u32 (rotr x 7) (rotr x 18)) (x / 8)
def sgB (x : Int) : Int:=bits .xor .u32 (bits .xor .u32 (rotr x 17) (rotr x 19)) (x / 1024)
def sumA (x : Int) : Int:=bits .xor .u32 (bits .xor .u32 (rotr x 6) (rotr x 11)) (rotr x 25)
def sumB (x : Int) : Int:=bits .xor .u32 (bits .xor .u32 (rotr x 2) (rotr x 13)) (rotr x 22)
def dgMore (a b c d : Int) : Int:=(a + b + sgA c + sgB d) % 4294967296
def dgNext (bl W : List Int) (i : Nat) : Int:=if i < 16 then dgWord bl i else dgMore (W.getD (i - 16) 0) (W.getD (i - 7) 0) (W.getD (i - 15) 0) (W.getD (i - 2) 0)
def dgS (bl : List Int) : Nat → List Int
 | 0 => []
 | i + 1 => dgS bl i ++ [dgNext bl (dgS bl i) i]
theorem dgS_len (bl : List Int) : ∀ i,(dgS bl i).length = i
 | 0 => rfl
 | i + 1 => by rw [dgS,List.length_append,dgS_len bl i];rfl
def dgM (bl : List Int) (i : Nat) : List Int:=dgS bl i ++ List.replicate (64 - i) 0
theorem dgM_len (bl : List Int) (i : Nat) (h : i ≤ 64) : (dgM bl i).length = 64:=by
 unfold dgM
 rw [List.length_append,dgS_len,List.length_replicate]
 omega
theorem nums_set32 (d : List Int) (j : Nat) (x : Int) : (nums .u32 d).toArray.setIfInBounds j (.int .u32 x) = (nums .u32 (d.set j x)).toArray:=by
 simp [nums,List.map_set]
theorem dgM_set (bl : List Int) (k : Nat) (h : k < 64) : (dgM bl k).set k (dgNext bl (dgS bl k) k) = dgM bl (k + 1):=by
 unfold dgM
 rw [List.set_append,if_neg (by rw [dgS_len];omega),dgS_len,Nat.sub_self,show 64 - k = (64 - (k + 1)) + 1 by omega,List.replicate_succ,dgS]
 simp
theorem dgM_at (bl : List Int) (k j : Nat) (h : j < k) : (dgM bl k).getD j 0 = (dgS bl k).getD j 0:=by
 unfold dgM
 simp only [List.getD_eq_getElem?_getD]
 rw [List.getElem?_append_left (by rw [dgS_len];omega)]
def not32 (x : Int) : Int:=bits .xor .u32 IntKind.u32.max x
def dgT (e f g h r w : Int) : Int:=(h + sumA e + bits .xor .u32 (bits .and .u32 e f) (bits .and .u32 (not32 e) g) + r + w) % 4294967296
def dgU (a b c : Int) : Int:=(sumB a + bits .xor .u32 (bits .xor .u32 (bits .and .u32 a b) (bits .and .u32 a c)) (bits .and .u32 b c)) % 4294967296
def dgStep (w : List Int) (i : Nat) : List Int → List Int
 | [a,b,c,d,e,f,g,h] => [(dgT e f g h (roundsL.getD i 0) (w.getD i 0) + dgU a b c) % 4294967296,a,b,c,(d + dgT e f g h (roundsL.getD i 0) (w.getD i 0)) % 4294967296,e,f,g]
 | l => l
def dgRun (w v : List Int) : Nat → List Int
 | 0 => v
 | i + 1 => dgStep w i (dgRun w v i)
theorem eight_of {l : List Int} (h : l.length = 8) : ∃ a b c d e f g k,l = [a,b,c,d,e,f,g,k]:=by
 match l,h with
 | [a,b,c,d,e,f,g,k],_ => exact ⟨a,b,c,d,e,f,g,k,rfl⟩
theorem dgStep_len (w : List Int) (i : Nat) (v : List Int) (h : v.length = 8) : (dgStep w i v).length = 8:=by
 obtain ⟨a,b,c,d,e,f,g,k,rfl⟩:=eight_of h
 rfl
theorem dgRun_len (w v : List Int) (h : v.length = 8) : ∀ i,(dgRun w v i).length = 8
 | 0 => h
 | i + 1 => dgStep_len w i _ (dgRun_len w v h i)
def addW (x y : List Int) : List Int:=List.zipWith (fun a b => (a + b) % 4294967296) x y
def mixW (ws bl : List Int) : List Int:=addW ws (dgRun (dgS bl 64) ws 64)
theorem mixW_len (ws bl : List Int) (h : ws.length = 8) : (mixW ws bl).length = 8:=by
 unfold mixW addW
 rw [List.length_zipWith,h,dgRun_len _ _ h]
 rfl
structure Upd (B : Nat) (w w' : World) : Prop where
 os : w'.os = w.os
 tape : w'.tape = w.tape
 output : w'.output = w.output
 size : w.heap.size ≤ w'.heap.size
 block : ∀ k,k < w.heap.size → k ≠ B → w'.heap[k]? = w.heap[k]?
theorem Upd.refl (B : Nat) (w : World) : Upd B w w:=⟨rfl,rfl,rfl,Nat.le_refl _,fun _ _ _ => rfl⟩
theorem Upd.trans {B : Nat} {a b c : World} (h : Upd B a b) (k : Upd B b c) : Upd B a c :=
 ⟨k.os.trans h.os,k.tape.trans h.tape,k.output.trans h.output,Nat.le_trans h.size k.size,fun i hi hb => (k.block i (Nat.lt_of_lt_of_le hi h.size) hb).trans (h.block i hi hb)⟩
theorem Upd.of_below {B : Nat} {w w' : World} (h : Below w.heap.size w w') : Upd B w w':=⟨h.os,h.tape,h.output,h.size,fun k hk _ => h.block k hk⟩
theorem Upd.set {B : Nat} {w w' : World} (h : Upd B w w') (j : Nat) (u : Value) : Upd B w (w'.setCell ⟨B,j,none⟩ u) :=
 ⟨h.os,h.tape,h.output,by simpa [World.setCell] using h.size,fun k hk hb => (Below.heap_setCell w' ⟨B,j,none⟩ u k hb).trans (h.block k hk hb)⟩
theorem Upd.drew {B : Nat} {w w' : World} (h : Upd B w w') : Upd B w w'.drew:=⟨h.os,h.tape,h.output,h.size,h.block⟩
theorem Upd.below {B base : Nat} {w w' : World} (h : Upd B w w') (hb : base ≤ B) (hs : base ≤ w.heap.size) : Below base w w':=⟨h.os,h.tape,h.output,h.size,fun k hk => h.block k (by omega) (by omega)⟩
theorem blk_setCells (g : Nat) (t : TypeId) : ∀ (vs : List Value) (o : Nat) (w : World) (cs : List Value),o + vs.length = cs.length → w.heap[g]? = some (.cells cs.toArray t (0,0)) → (w.setCells g o vs).heap[g]? = some (.cells (cs.take o ++ vs).toArray t (0,0))
 | [],o,w,cs,hl,h => by
  rw [World.setCells,h,List.append_nil,List.take_of_length_le (by simp at hl;omega)]
 | v :: r,o,w,cs,hl,h => by
  rw [World.setCells]
  simp only [List.length_cons] at hl
  have h1:=blk_set h o v
  rw [show cs.toArray.setIfInBounds o v = (cs.set o v).toArray by simp] at h1
  rw [blk_setCells g t r (o + 1) _ _ (by simp;omega) h1]
  congr 2
  rw [List.take_set,List.take_add_one,List.getElem?_eq_getElem (by omega)]
  simp only [Option.toList_some]
  rw [List.set_append,if_neg (by simp;omega),List.length_take,Nat.min_eq_left (by omega),Nat.sub_self,List.append_assoc]
  rfl
theorem upd_setCells {B : Nat} {w : World} : ∀ (vs : List Value) (o : Nat) (w' : World),Upd B w w' → Upd B w (w'.setCells B o vs)
 | [],_,_,h => h
 | v :: r,o,w',h => upd_setCells r (o + 1) _ (h.set o v)
section
variable {P : Program} {ops : Array Oper} {rest : List Oper} {o : Oper} {a : Act} {Q : Exit → Act → World → Prop} {w w' : World}
theorem wpList_load_at (hgd : o.guard = none) (t : TypeId) (x : Operand) (ho : o.op = .load t x) (ad : Addr) (hx : a.eval x = .pointer (some ad)) (v : Value)
  (hr : (loadVar t ad).run P w = .ok v w) (h : wpList P ops Q rest (a.put o.dst v) w) : wpList P ops Q (o :: rest) a w :=
 wpList_plain hgd fun K hK => by
  unfold Oper.wp execOp
  simp only [ho,hx,Instr.loadAt,Instr.sureAddr,Sem.run_bind,Sem.run_pure,Result.andThen_ok,hr]
  exact hK _ _ h
theorem wpList_store_at (hgd : o.guard = none) (t : TypeId) (x y : Operand) (ho : o.op = .store t x y) (ad : Addr) (hx : a.eval x = .pointer (some ad)) (v : Value) (hy : a.eval y = v)
  (hr : (storeVar t ad v).run P w = .ok () w') (h : wpList P ops Q rest (a.put o.dst undef) w') : wpList P ops Q (o :: rest) a w :=
 wpList_plain hgd fun K hK => by
  unfold Oper.wp execOp
  simp only [ho,hx,hy,Instr.storeAt,Instr.sureAddr,Sem.run_bind,Sem.run_pure,Result.andThen_ok,hr]
  exact hK _ _ h
end
theorem at_array (t : TypeId) (len B o : Nat) (i : Int) (j : Nat) (W : World) (hj : i = j) (hl : j < len) (ht : Tryd.prog.underlying t = some (.array (Tryd.prog.arrayLen t) (Tryd.prog.elem t))) (hn : Tryd.prog.arrayLen t = len) (hs : ∀ W,(sizeOf (Tryd.prog.elem t)).run Tryd.prog W = .ok 1 W) :
  (Instr.indexAt t (.pointer (some ⟨B,o,none⟩)) (.int .i64 i)).run Tryd.prog W = .ok (.pointer (some ⟨B,o + j,none⟩)) W:=by
 rw [run_indexAt_array W t ⟨B,o,none⟩ .i64 i ht,hn,hs,if_pos (by omega)]
 simp only [Result.andThen]
 subst hj
 simp only [Int.toNat_natCast,Nat.mul_one]
 unfold Addr.add
 split
 ·rename_i hz
  rw [hz,Nat.add_zero]
 ·rfl
theorem at_block (B : Nat) (i : Int) (j : Nat) (W : World) (hj : i = j) (hl : j < 64) :
  (Instr.indexAt 151 (.pointer (some ⟨B,9,none⟩)) (.int .i64 i)).run Tryd.prog W = .ok (.pointer (some ⟨B,9 + j,none⟩)) W :=
 at_array 151 64 B 9 i j W hj hl (by kernel_rfl) (by kernel_rfl) (fun W => by kernel_rfl)
theorem at_words (B : Nat) (i : Int) (j : Nat) (W : World) (hj : i = j) (hl : j < 8) :
  (Instr.indexAt 150 (.pointer (some ⟨B,1,none⟩)) (.int .i64 i)).run Tryd.prog W = .ok (.pointer (some ⟨B,1 + j,none⟩)) W :=
 at_array 150 8 B 1 i j W hj hl (by kernel_rfl) (by kernel_rfl) (fun W => by kernel_rfl)
theorem at_w64 (B : Nat) (i : Int) (j : Nat) (W : World) (hj : i = j) (hl : j < 64) :
  (Instr.indexAt 163 (.pointer (some ⟨B,0,none⟩)) (.int .i64 i)).run Tryd.prog W = .ok (.pointer (some ⟨B,j,none⟩)) W:=by
 have:=at_array 163 64 B 0 i j W hj hl (by kernel_rfl) (by kernel_rfl) (fun W => by kernel_rfl)
 rw [Nat.zero_add] at this
 exact this
theorem at_v8 (B : Nat) (i : Int) (j : Nat) (W : World) (hj : i = j) (hl : j < 8) :
  (Instr.indexAt 150 (.pointer (some ⟨B,0,none⟩)) (.int .i64 i)).run Tryd.prog W = .ok (.pointer (some ⟨B,j,none⟩)) W:=by
 have:=at_array 150 8 B 0 i j W hj hl (by kernel_rfl) (by kernel_rfl) (fun W => by kernel_rfl)
 rw [Nat.zero_add] at this
 exact this
theorem cell_u32 {W : World} {B : Nat} {L : List Int} {t : TypeId} (h : W.heap[B]? = some (.cells (nums .u32 L).toArray t (0,0))) (j : Nat) (hj : j < L.length) : W.cell? ⟨B,j,none⟩ = some (.int .u32 (L.getD j 0)):=by
 rw [blk_cell h]
 simp only [nums,List.getElem?_toArray,List.getElem?_map,List.getD_eq_getElem?_getD]
 rw [List.getElem?_eq_getElem hj]
 rfl
theorem dgCells_w (ws bl : List Int) (n : Int) (h : ws.length = 8) (j : Nat) (hj : j < 8) : (dgCells ws bl n).toArray[1 + j]? = some (.int .u32 (ws.getD j 0)):=by
 simp only [dgCells,nums,List.getElem?_toArray]
 rw [show 1 + j = j + 1 by omega,List.getElem?_cons_succ,List.getElem?_append_left (by simp;omega)]
 simp only [List.getElem?_map,List.getD_eq_getElem?_getD]
 rw [List.getElem?_eq_getElem (by omega)]
 rfl
theorem dgCells_blk (ws bl : List Int) (n : Int) (h : ws.length = 8) (hb : bl.length = 64) (j : Nat) (hj : j < 64) : (dgCells ws bl n).toArray[9 + j]? = some (.int .u8 (bl.getD j 0)):=by
 simp only [dgCells,nums,List.getElem?_toArray]
 rw [show 9 + j = (8 + j) + 1 by omega,List.getElem?_cons_succ,List.getElem?_append_right (by simp;omega),List.getElem?_append_left (by simp;omega)]
 simp only [List.length_map,h,List.getElem?_map,List.getD_eq_getElem?_getD]
 rw [show 8 + j - 8 = j by omega,List.getElem?_eq_getElem (by omega)]
 rfl
theorem dgCells_setw (ws bl : List Int) (n : Int) (h : ws.length = 8) (j : Nat) (hj : j < 8) (x : Int) : (dgCells ws bl n).toArray.setIfInBounds (1 + j) (.int .u32 x) = (dgCells (ws.set j x) bl n).toArray:=by
 simp only [dgCells,nums,List.setIfInBounds_toArray]
 rw [show 1 + j = j + 1 by omega,List.set_cons_succ,List.set_append,if_pos (by simp;omega),List.map_set]
def addP (x y : List Int) (j : Nat) : List Int:=(addW x y).take j ++ x.drop j
theorem addW_len (x y : List Int) (h : x.length = 8) (h' : y.length = 8) : (addW x y).length = 8:=by unfold addW;simp [h,h']
theorem addP_len (x y : List Int) (h : x.length = 8) (h' : y.length = 8) (j : Nat) (hj : j ≤ 8) : (addP x y j).length = 8:=by
 unfold addP
 rw [List.length_append,List.length_take,List.length_drop,addW_len x y h h',h]
 omega
theorem addP_at (x y : List Int) (h : x.length = 8) (h' : y.length = 8) (j : Nat) (hj : j < 8) : (addP x y j).getD j 0 = x.getD j 0:=by
 unfold addP
 simp only [List.getD_eq_getElem?_getD]
 rw [List.getElem?_append_right (by rw [List.length_take,addW_len x y h h'];omega),List.length_take,addW_len x y h h',List.getElem?_drop]
 congr 2
 omega
theorem addP_set (x y : List Int) (h : x.length = 8) (h' : y.length = 8) (j : Nat) (hj : j < 8) : (addP x y j).set j ((x.getD j 0 + y.getD j 0) % 4294967296) = addP x y (j + 1):=by
 obtain ⟨a,b,c,d,e,f,g,k,rfl⟩:=eight_of h
 obtain ⟨a',b',c',d',e',f',g',k',rfl⟩:=eight_of h'
 rcases (show j = 0 ∨ j = 1 ∨ j = 2 ∨ j = 3 ∨ j = 4 ∨ j = 5 ∨ j = 6 ∨ j = 7 by omega) with rfl|rfl|rfl|rfl|rfl|rfl|rfl|rfl <;> rfl
end Go.Proofs.YtedfgkjimnjdpaaDoor.X
namespace Go.Proofs.YtedfgkjimnjdpaaDoor.X
open Go.RowKit Go.Proofs.YtedfgkjimnjdpaaDoorW.PrintWords
set_option linter.unusedVariables false
set_option linter.unusedSimpArgs false
theorem v8Info : ∃ ie,Tryd.prog.info? 150 = some ie ∧ ie.size = 8:=Option.map_eq_some_iff.1 (show (Tryd.prog.info? 150).map (·.size) = some 8 by kernel_rfl)
theorem wrapT {h e f g rk sk T : Int} (hTe : (h + bits .xor .u32 (bits .xor .u32 (rotr e 6) (rotr e 11)) (rotr e 25) + bits .xor .u32 (bits .and .u32 e f) (bits .and .u32 (bits .xor .u32 IntKind.u32.max e) g) + rk + sk) % 4294967296 = T) :
  IntKind.u32.wrap (IntKind.u32.wrap (IntKind.u32.wrap (IntKind.u32.wrap (h + bits .xor .u32 (bits .xor .u32 (rotr e 6) (rotr e 11)) (rotr e 25)) + bits .xor .u32 (bits .and .u32 e f) (bits .and .u32 (bits .xor .u32 (if IntKind.u32.signed = true then -1 else IntKind.u32.max) e) g)) + rk) + sk) = T:=by
 have hw : ∀ n : Int,IntKind.u32.wrap n = n % 4294967296:=fun n => rfl
 have hs : (if IntKind.u32.signed = true then -1 else IntKind.u32.max) = IntKind.u32.max:=rfl
 rw [hs]
 simp only [hw]
 rw [← hTe]
 generalize bits .xor .u32 (bits .xor .u32 (rotr e 6) (rotr e 11)) (rotr e 25) = x
 generalize bits .xor .u32 (bits .and .u32 e f) (bits .and .u32 (bits .xor .u32 IntKind.u32.max e) g) = y
 omega
theorem wrapU {a b c U : Int} (hUe : (bits .xor .u32 (bits .xor .u32 (rotr a 2) (rotr a 13)) (rotr a 22) + bits .xor .u32 (bits .xor .u32 (bits .and .u32 a b) (bits .and .u32 a c)) (bits .and .u32 b c)) % 4294967296 = U) :
  IntKind.u32.wrap (bits .xor .u32 (bits .xor .u32 (rotr a 2) (rotr a 13)) (rotr a 22) + bits .xor .u32 (bits .xor .u32 (bits .and .u32 a b) (bits .and .u32 a c)) (bits .and .u32 b c)) = U:=by
 have hw : ∀ n : Int,IntKind.u32.wrap n = n % 4294967296:=fun n => rfl
 rw [hw]
 exact hUe
theorem built8 (x0 x1 x2 x3 x4 x5 x6 x7 : Int) : Tryd.prog.built 150 [(0,.int .u32 x0),(1,.int .u32 x1),(2,.int .u32 x2),(3,.int .u32 x3),(4,.int .u32 x4),(5,.int .u32 x5),(6,.int .u32 x6),(7,.int .u32 x7)] = some #[.int .u32 x0,.int .u32 x1,.int .u32 x2,.int .u32 x3,.int .u32 x4,.int .u32 x5,.int .u32 x6,.int .u32 x7]:=by kernel_rfl
theorem store8 (V : Nat) (L L' : List Int) (W : World) (h : W.heap[V]? = some (.cells (nums .u32 L).toArray 150 (0,0))) (hl : L.length = 8) (hl' : L'.length = 8) :
  ∃ W',(storeVar 150 ⟨V,0,none⟩ (.agg (nums .u32 L').toArray)).run Tryd.prog W = .ok () W' ∧ W'.heap[V]? = some (.cells (nums .u32 L').toArray 150 (0,0)) ∧ Upd V W W':=by
 obtain ⟨ie,hie,hsz⟩:=v8Info
 refine ⟨_,Lib.rl_storeVar_cells (P:=Tryd.prog) 150 ie hie V 0 (nums .u32 L') (by rw [hsz];simp [nums,hl']) (fun v hv => by
  simp only [nums,List.mem_map] at hv
  obtain ⟨_,_,rfl⟩:=hv
  rfl) _ (fun k hk => by rw [Nat.zero_add,blk_cell (cs:=(nums .u32 L).toArray) h,List.getElem?_toArray,List.getElem?_eq_getElem (by simp [nums,hl'] at hk;simp [nums,hl];omega)];rfl) (fun k hk => blk_frozen h _),?_,upd_setCells _ _ _ (Upd.refl _ _)⟩
 have:=blk_setCells V 150 (nums .u32 L') 0 W (nums .u32 L) (by simp [nums,hl,hl']) h
 rw [List.take_zero,List.nil_append] at this
 exact this
set_option maxHeartbeats 40000000 in
set_option maxRecDepth 100000 in
theorem mix_calls (B : Nat) (ws bl : List Int) (n : Int) (w : World) (hw : ws.length = 8) (hbl : bl.length = 64) (hT : GlobDg w) (hB : w.heap[B]? = some (.cells (dgCells ws bl n).toArray 153 (0,0))) :
  Calls Tryd.prog 119 #[.pointer (some ⟨B,0,none⟩)] w fun e w' => e = .returned (.tuple #[]) ∧ w'.heap[B]? = some (.cells (dgCells (mixW ws bl) bl n).toArray 153 (0,0)) ∧ Upd B w w':=by
 have hBlt : B < w.heap.size:=(Array.getElem?_eq_some_iff.mp hB).1
 have hTlt : 1 < w.heap.size:=(Array.getElem?_eq_some_iff.mp hT).1
 obtain ⟨ie,hie,hsz⟩:=v8Info
 have hagg : ∀ w,(isAgg 150).run Tryd.prog w = .ok true w:=fun w => by kernel_rfl
 go_enter Tryd.func119,Tryd.ntmps119
 go_wp2
 go_loopw [13] (fun i wr => ∃ (k : Nat),i = .int .i64 k ∧ k ≤ 64 ∧ wr.heap[w.heap.size]? = some (.cells (nums .u32 (dgM bl k)).toArray 163 (0,0)) ∧ Below w.heap.size w wr)
  (fun i _ => (64 - intOf i).toNat)
 case atStart => exact ⟨0,rfl,by omega,heap_alloc_new w _,(Below.refl _ _).alloc (Nat.le_refl _) _⟩
 case round => as_aux_lemma =>
  obtain ⟨k,rfl,hk,hm,hbel⟩:=hrel
  by_cases h64 : k < 64
  ·have hlt : decide ((k : Int) < 64) = true:=by simp;omega
   have hBr : wr.heap[B]? = some (.cells (dgCells ws bl n).toArray 153 (0,0)):=by rw [hbel.block B hBlt];exact hB
   have hlen : (dgM bl k).length = 64:=dgM_len bl k (by omega)
   have hset : (dgM bl k).set k (dgNext bl (dgS bl k) k) = dgM bl (k + 1):=dgM_set bl k h64
   by_cases h16 : k < 16
   ·have h16d : decide ((k : Int) < 16) = true:=by simp;omega
    have hd : wr.drew.heap[B]? = some (.cells (dgCells ws bl n).toArray 153 (0,0)):=hBr
    have hword : dgNext bl (dgS bl k) k = wordB (bl.getD (4 * k) 0) (bl.getD (4 * k + 1) 0) (bl.getD (4 * k + 2) 0) (bl.getD (4 * k + 3) 0):=by unfold dgNext;rw [if_pos h16];rfl
    have c0 : wr.drew.cell? ⟨B,9 + 4 * k,none⟩ = some (.int .u8 (bl.getD (4 * k) 0)):=by rw [blk_cell hd];exact dgCells_blk ws bl n hw hbl _ (by omega)
    have c1 : wr.drew.cell? ⟨B,9 + (4 * k + 1),none⟩ = some (.int .u8 (bl.getD (4 * k + 1) 0)):=by rw [blk_cell hd];exact dgCells_blk ws bl n hw hbl _ (by omega)
    have c2 : wr.drew.cell? ⟨B,9 + (4 * k + 2),none⟩ = some (.int .u8 (bl.getD (4 * k + 2) 0)):=by rw [blk_cell hd];exact dgCells_blk ws bl n hw hbl _ (by omega)
    have c3 : wr.drew.cell? ⟨B,9 + (4 * k + 3),none⟩ = some (.int .u8 (bl.getD (4 * k + 3) 0)):=by rw [blk_cell hd];exact dgCells_blk ws bl n hw hbl _ (by omega)
    have hmd : wr.drew.heap[w.heap.size]? = some (.cells (nums .u32 (dgM bl k)).toArray 163 (0,0)):=hm
    have hbeld : Below w.heap.size w wr.drew:=hbel.drew
    have hcm : wr.drew.cell? ⟨w.heap.size,k,none⟩ = some (.int .u32 ((dgM bl k).getD k 0)):=cell_u32 hmd k (by omega)
    have hfr : wr.drew.frozen? ⟨w.heap.size,k,none⟩ = false:=blk_frozen hmd _
    have hb2 : (wr.drew.setCell ⟨w.heap.size,k,none⟩ (.int .u32 (dgNext bl (dgS bl k) k))).heap[w.heap.size]? = some (.cells (nums .u32 (dgM bl (k + 1))).toArray 163 (0,0)):=by
     rw [← hset,← nums_set32];exact blk_set hmd _ _
    rw [hword] at hb2
    generalize bl.getD (4 * k) 0 = b0 at *
    generalize bl.getD (4 * k + 1) 0 = b1 at *
    generalize bl.getD (4 * k + 2) 0 = b2 at *
    generalize bl.getD (4 * k + 3) 0 = b3 at *
    have HM:=Lib.hid hb2
    clear hb2 hset hword hmd hm hd hBr hlen
    have e0 : IntKind.i64.wrap (4 * (k : Int)) = 4 * (k : Int):=IntWalk.i64_in _ (by omega)
    have e1 : IntKind.i64.wrap (4 * (k : Int) + 1) = 4 * (k : Int) + 1:=IntWalk.i64_in _ (by omega)
    have e2 : IntKind.i64.wrap (4 * (k : Int) + 2) = 4 * (k : Int) + 2:=IntWalk.i64_in _ (by omega)
    have e3 : IntKind.i64.wrap (4 * (k : Int) + 3) = 4 * (k : Int) + 3:=IntWalk.i64_in _ (by omega)
    have l0:=fun W => at_block B (4 * (k : Int)) (4 * k) W (by omega) (by omega)
    have l1:=fun W => at_block B (4 * (k : Int) + 1) (4 * k + 1) W (by omega) (by omega)
    have l2:=fun W => at_block B (4 * (k : Int) + 2) (4 * k + 2) W (by omega) (by omega)
    have l3:=fun W => at_block B (4 * (k : Int) + 3) (4 * k + 3) W (by omega) (by omega)
    have lm:=fun W => at_w64 w.heap.size (k : Int) k W (by omega) (by omega)
    go_wp2
    go_still_tail 43,(by kernel_rfl)
    change wpList _ _ _ _ _ wr.drew
    generalize wr.drew = w2 at *
    go_wp2
    go_roundw
    case rel => exact ⟨k + 1,rfl,by omega,HM.out,hbeld.setCell (by simp) _⟩
    case measure => simp [intOf];omega
   ·have h16d : decide ((k : Int) < 16) = false:=by simp;omega
    have hword : dgNext bl (dgS bl k) k = dgMore ((dgM bl k).getD (k - 16) 0) ((dgM bl k).getD (k - 7) 0) ((dgM bl k).getD (k - 15) 0) ((dgM bl k).getD (k - 2) 0):=by
     unfold dgNext
     rw [if_neg h16,dgM_at bl k _ (by omega),dgM_at bl k _ (by omega),dgM_at bl k _ (by omega),dgM_at bl k _ (by omega)]
    have hmd : wr.drew.heap[w.heap.size]? = some (.cells (nums .u32 (dgM bl k)).toArray 163 (0,0)):=hm
    have hmd2 : wr.drew.drew.heap[w.heap.size]? = some (.cells (nums .u32 (dgM bl k)).toArray 163 (0,0)):=hm
    have hbeld : Below w.heap.size w wr.drew.drew:=hbel.drew.drew
    have c15:=cell_u32 hmd (k - 15) (by omega)
    have c2:=cell_u32 hmd (k - 2) (by omega)
    have c16:=cell_u32 hmd2 (k - 16) (by omega)
    have c7:=cell_u32 hmd2 (k - 7) (by omega)
    have hcm:=cell_u32 hmd2 k (by omega)
    have hfr : wr.drew.drew.frozen? ⟨w.heap.size,k,none⟩ = false:=blk_frozen hmd2 _
    have hb2 : (wr.drew.drew.setCell ⟨w.heap.size,k,none⟩ (.int .u32 (dgNext bl (dgS bl k) k))).heap[w.heap.size]? = some (.cells (nums .u32 (dgM bl (k + 1))).toArray 163 (0,0)):=by
     rw [← hset,← nums_set32];exact blk_set hmd2 _ _
    rw [hword] at hb2
    unfold dgMore sgA sgB at hb2
    generalize (dgM bl k).getD (k - 16) 0 = x16 at *
    generalize (dgM bl k).getD (k - 7) 0 = x7 at *
    generalize (dgM bl k).getD (k - 15) 0 = x15 at *
    generalize (dgM bl k).getD (k - 2) 0 = x2 at *
    have HM:=Lib.hid hb2
    clear hb2 hset hword hmd hmd2 hm hBr hlen
    have e15 : IntKind.i64.wrap ((k : Int) - 15) = (k : Int) - 15:=IntWalk.i64_in _ (by omega)
    have e2 : IntKind.i64.wrap ((k : Int) - 2) = (k : Int) - 2:=IntWalk.i64_in _ (by omega)
    have e16 : IntKind.i64.wrap ((k : Int) - 16) = (k : Int) - 16:=IntWalk.i64_in _ (by omega)
    have e7 : IntKind.i64.wrap ((k : Int) - 7) = (k : Int) - 7:=IntWalk.i64_in _ (by omega)
    have l15:=fun W => at_w64 w.heap.size ((k : Int) - 15) (k - 15) W (by omega) (by omega)
    have l2:=fun W => at_w64 w.heap.size ((k : Int) - 2) (k - 2) W (by omega) (by omega)
    have l16:=fun W => at_w64 w.heap.size ((k : Int) - 16) (k - 16) W (by omega) (by omega)
    have l7:=fun W => at_w64 w.heap.size ((k : Int) - 7) (k - 7) W (by omega) (by omega)
    have lm:=fun W => at_w64 w.heap.size (k : Int) k W (by omega) (by omega)
    go_wp2
    go_still (by kernel_rfl)
    change Exit.then _ _ Exit.normal _ wr.drew
    clear c15 c2
    generalize wr.drew = w2 at *
    go_wp2
    refine wp_region_still_tail 29 (by kernel_rfl) (by kernel_rfl) ?_
    simp only [List.take_succ_cons,List.take_zero,List.drop_succ_cons,List.drop_zero]
    repeat still_step
    still_call (rotr_calls _ _ (by decide) (by decide) _)
    repeat still_step
    still_call (rotr_calls _ _ (by decide) (by decide) _)
    repeat still_step
    still_call (rotr_calls _ _ (by decide) (by decide) _)
    repeat still_step
    still_call (rotr_calls _ _ (by decide) (by decide) _)
    repeat still_step
    refine wpStill_nil ?_
    change wpList _ _ _ _ _ w2.drew
    generalize w2.drew = w3 at *
    go_wp2
    go_roundw
    case rel => exact ⟨k + 1,rfl,by omega,HM.out,hbeld.setCell (by simp) _⟩
    case measure => simp [intOf];omega
  ·have hk64 : k = 64:=by omega
   subst hk64
   clear h64 hk
   have hBr : wr.heap[B]? = some (.cells (dgCells ws bl n).toArray 153 (0,0)):=by rw [hbel.block B hBlt];exact hB
   have hnlt : w.heap.size < wr.heap.size:=(Array.getElem?_eq_some_iff.mp hm).1
   have hdm : dgM bl 64 = dgS bl 64:=by unfold dgM;simp
   rw [hdm] at hm
   have hSl:=dgS_len bl 64
   obtain ⟨S,hS⟩ : ∃ S,dgS bl 64 = S:=⟨_,rfl⟩
   rw [hS] at hm hSl
   have hl1:=Lib.rl_loadVar_cells (P:=Tryd.prog) 150 ie hie hagg B 1 (nums .u32 ws) (by rw [hsz];simp [nums,hw]) wr (fun k v h => by
    rw [blk_cell hBr,← h]
    have hk8 : k < 8:=by
     have:=(List.getElem?_eq_some_iff.mp h).1
     simpa [nums,hw] using this
    rw [dgCells_w ws bl n hw k hk8]
    simp only [nums,List.getElem?_map,List.getD_eq_getElem?_getD]
    rw [List.getElem?_eq_getElem (by omega)]
    rfl)
   obtain ⟨w4,hst,hv4,hb4⟩ : ∃ w4,(storeVar 150 ⟨wr.heap.size,0,none⟩ (.agg (nums .u32 ws).toArray)).run Tryd.prog (wr.alloc (.cells (nums .u32 (List.replicate 8 0)).toArray 150 (0,0))) = .ok () w4 ∧ w4.heap[wr.heap.size]? = some (.cells (nums .u32 ws).toArray 150 (0,0)) ∧ Below wr.heap.size wr w4:=by
    have hX : (nums .u32 (List.replicate 8 0)).length = 8:=rfl
    have hb:=heap_alloc_new wr (.cells (nums .u32 (List.replicate 8 0)).toArray 150 (0,0))
    have hbw : Below wr.heap.size wr (wr.alloc (.cells (nums .u32 (List.replicate 8 0)).toArray 150 (0,0))):=(Below.refl _ _).alloc (Nat.le_refl _) _
    have hu : Upd wr.heap.size wr ((wr.alloc (.cells (nums .u32 (List.replicate 8 0)).toArray 150 (0,0))).setCells wr.heap.size 0 (nums .u32 ws)):=upd_setCells _ _ _ (Upd.of_below hbw)
    refine ⟨_,Lib.rl_storeVar_cells (P:=Tryd.prog) 150 ie hie wr.heap.size 0 (nums .u32 ws) (by rw [hsz];simp [nums,hw]) (fun v hv => by
     simp only [nums,List.mem_map] at hv
     obtain ⟨_,_,rfl⟩:=hv
     rfl) _ (fun k hk => by rw [Nat.zero_add,blk_cell (cs:=(nums .u32 (List.replicate 8 0)).toArray) hb,List.getElem?_toArray,List.getElem?_eq_getElem (by simp [nums,hw] at hk;omega)];rfl) (fun k hk => blk_frozen hb _),?_,hu.below (Nat.le_refl _) (Nat.le_refl _)⟩
    have:=blk_setCells wr.heap.size 150 (nums .u32 ws) 0 _ _ (by rw [hX];simp [nums,hw]) hb
    rw [List.take_zero,List.nil_append] at this
    exact this
   have hm4 : w4.heap[w.heap.size]? = some (.cells (nums .u32 S).toArray 163 (0,0)):=(hb4.block _ hnlt).trans hm
   have hbel4 : Below w.heap.size w w4:=hbel.trans (hb4.mono (by omega) )
   obtain ⟨V,hV⟩ : ∃ V,wr.heap.size = V:=⟨_,rfl⟩
   rw [hV] at hst hv4 hnlt
   go_upto_region 9 with (fail)
   refine wp_region_lit ?_
   iterate 3 (refine wpList_step (fun K hK => ?_);go_simp;refine hK _ _ ?_;clear hK K)
   refine wpList_load_at rfl _ _ rfl _ rfl _ hl1 ?_
   refine wpList_step (fun K hK => ?_)
   go_simp
   refine hK _ _ ?_
   clear hK K
   refine wpList_store_at rfl _ _ _ rfl _ rfl _ rfl hst ?_
   refine wpList_nil ?_
   simp only [Act.put]
   clear hl1 hst hb4 hBr hm hbel hV
   clear wr
   go_wp2
   go_loopw [103] (fun i wr => ∃ (k : Nat),i = .int .i64 k ∧ k ≤ 64 ∧ wr.heap[V]? = some (.cells (nums .u32 (dgRun S ws k)).toArray 150 (0,0)) ∧ wr.heap[w.heap.size]? = some (.cells (nums .u32 S).toArray 163 (0,0)) ∧ Below w.heap.size w wr)
    (fun i _ => (64 - intOf i).toNat)
   case atStart => exact ⟨0,rfl,by omega,hv4,hm4,hbel4⟩
   case round => as_aux_lemma =>
    clear hv4 hm4 hbel4
    obtain ⟨k,rfl,hk,hv,hm,hbel⟩:=hrel
    by_cases h64 : k < 64
    ·have hlt : decide ((k : Int) < 64) = true:=by simp;omega
     obtain ⟨a,b,c,d,e,f,g,h,hrun⟩:=eight_of (dgRun_len S ws hw k)
     obtain ⟨rk,hrk⟩ : ∃ rk,roundsL.getD k 0 = rk:=⟨_,rfl⟩
     obtain ⟨sk,hsk⟩ : ∃ sk,S.getD k 0 = sk:=⟨_,rfl⟩
     obtain ⟨T,hTe⟩ : ∃ T,dgT e f g h rk sk = T:=⟨_,rfl⟩
     obtain ⟨U,hUe⟩ : ∃ U,dgU a b c = U:=⟨_,rfl⟩
     obtain ⟨p0,hp0⟩ : ∃ p0,IntKind.u32.wrap (T + U) = p0:=⟨_,rfl⟩
     obtain ⟨p4,hp4⟩ : ∃ p4,IntKind.u32.wrap (d + T) = p4:=⟨_,rfl⟩
     have hnext : dgRun S ws (k + 1) = [p0,a,b,c,p4,e,f,g]:=by
      have hw32 : ∀ n : Int,IntKind.u32.wrap n = n % 4294967296:=fun n => rfl
      rw [dgRun,hrun,← hp0,← hp4,hw32,hw32,← hTe,← hUe,← hrk,← hsk]
      rfl
     rw [hrun] at hv
     have hd1 : wr.drew.heap[V]? = some (.cells (nums .u32 [a,b,c,d,e,f,g,h]).toArray 150 (0,0)):=hv
     have hd2 : wr.drew.drew.heap[V]? = some (.cells (nums .u32 [a,b,c,d,e,f,g,h]).toArray 150 (0,0)):=hv
     have hd3 : wr.drew.drew.drew.heap[V]? = some (.cells (nums .u32 [a,b,c,d,e,f,g,h]).toArray 150 (0,0)):=hv
     have hm3 : wr.drew.drew.drew.heap[w.heap.size]? = some (.cells (nums .u32 S).toArray 163 (0,0)):=hm
     have hbel3 : Below w.heap.size w wr.drew.drew.drew:=hbel.drew.drew.drew
     have hR : wr.heap[1]? = some (.cells (nums .u32 roundsL).toArray 163 (0,0)):=(hbel.block _ hTlt).trans hT
     have hR2 : wr.drew.drew.heap[1]? = some (.cells (nums .u32 roundsL).toArray 163 (0,0)):=hR
     have hm2 : wr.drew.drew.heap[w.heap.size]? = some (.cells (nums .u32 S).toArray 163 (0,0)):=hm
     have c10 : wr.drew.cell? ⟨V,0,none⟩ = some (.int .u32 a):=cell_u32 hd1 0 (by simp)
     have c14 : wr.drew.cell? ⟨V,4,none⟩ = some (.int .u32 e):=cell_u32 hd1 4 (by simp)
     have c27 : wr.drew.drew.cell? ⟨V,7,none⟩ = some (.int .u32 h):=cell_u32 hd2 7 (by simp)
     have c25 : wr.drew.drew.cell? ⟨V,5,none⟩ = some (.int .u32 f):=cell_u32 hd2 5 (by simp)
     have c26 : wr.drew.drew.cell? ⟨V,6,none⟩ = some (.int .u32 g):=cell_u32 hd2 6 (by simp)
     have cr : wr.drew.drew.cell? ⟨1,k,none⟩ = some (.int .u32 rk):=by rw [← hrk];exact cell_u32 hR2 k h64
     have cs : wr.drew.drew.cell? ⟨w.heap.size,k,none⟩ = some (.int .u32 sk):=by rw [← hsk];exact cell_u32 hm2 k (by omega)
     have c31 : wr.drew.drew.drew.cell? ⟨V,1,none⟩ = some (.int .u32 b):=cell_u32 hd3 1 (by simp)
     have c32 : wr.drew.drew.drew.cell? ⟨V,2,none⟩ = some (.int .u32 c):=cell_u32 hd3 2 (by simp)
     have c33 : wr.drew.drew.drew.cell? ⟨V,3,none⟩ = some (.int .u32 d):=cell_u32 hd3 3 (by simp)
     have c35 : wr.drew.drew.drew.cell? ⟨V,5,none⟩ = some (.int .u32 f):=cell_u32 hd3 5 (by simp)
     have c36 : wr.drew.drew.drew.cell? ⟨V,6,none⟩ = some (.int .u32 g):=cell_u32 hd3 6 (by simp)
     have lr:=fun W => at_w64 1 (k : Int) k W rfl h64
     have ls:=fun W => at_w64 w.heap.size (k : Int) k W rfl h64
     obtain ⟨w5,hst,hv5,hu5⟩:=store8 V [a,b,c,d,e,f,g,h] [p0,a,b,c,p4,e,f,g] wr.drew.drew.drew hd3 rfl rfl
     have hm5 : w5.heap[w.heap.size]? = some (.cells (nums .u32 S).toArray 163 (0,0)):=(hu5.block _ (Array.getElem?_eq_some_iff.mp hm3).1 (by omega)).trans hm3
     have hb5 : Below w.heap.size w w5:=hbel3.trans (hu5.below (by omega) hbel3.size)
     unfold dgT sumA not32 at hTe
     unfold dgU sumB at hUe
     have HS:=Lib.hid hst
     have HN:=Lib.hid hnext
     clear hst hnext hd1 hd2 hd3 hm3 hR hR2 hm2 hv hm hrun hu5 hbel3 hbel hrk hsk
     go_wp2
     go_still (by kernel_rfl)
     change Exit.then _ _ Exit.normal _ wr.drew
     clear c10 c14
     generalize wr.drew = w2 at *
     go_wp2
     refine wp_region_still_lit (by kernel_rfl) (by kernel_rfl) ?_
     repeat still_step
     still_call (rotr_calls _ _ (by decide) (by decide) _)
     repeat still_step
     still_call (rotr_calls _ _ (by decide) (by decide) _)
     repeat still_step
     still_call (rotr_calls _ _ (by decide) (by decide) _)
     repeat still_step
     refine wpStill_nil ?_
     change Exit.then _ _ Exit.normal _ w2.drew
     rw [show IntKind.u32.wrap (IntKind.u32.wrap (IntKind.u32.wrap (IntKind.u32.wrap (h + bits .xor .u32 (bits .xor .u32 (rotr e 6) (rotr e 11)) (rotr e 25)) + bits .xor .u32 (bits .and .u32 e f) (bits .and .u32 (bits .xor .u32 (if IntKind.u32.signed = true then -1 else IntKind.u32.max) e) g)) + rk) + sk) = T from wrapT hTe]
     clear c27 c25 c26 cr cs hTe
     generalize w2.drew = w3 at *
     go_upto_region 15 with (fail)
     refine wp_region_still_lit (by kernel_rfl) (by kernel_rfl) ?_
     repeat still_step
     still_call (rotr_calls _ _ (by decide) (by decide) _)
     repeat still_step
     still_call (rotr_calls _ _ (by decide) (by decide) _)
     repeat still_step
     still_call (rotr_calls _ _ (by decide) (by decide) _)
     repeat still_step
     refine wpStill_nil ?_
     change Exit.then _ _ Exit.normal _ w3.drew
     rw [show IntKind.u32.wrap (bits .xor .u32 (bits .xor .u32 (rotr a 2) (rotr a 13)) (rotr a 22) + bits .xor .u32 (bits .xor .u32 (bits .and .u32 a b) (bits .and .u32 a c)) (bits .and .u32 b c)) = U from wrapU hUe]
     clear hUe
     generalize w3.drew = w4 at *
     go_upto_region 16 with (fail)
     refine wp_region_lit ?_
     iterate 17 (refine wpList_step (fun K hK => ?_);go_simp;refine hK _ _ ?_;clear hK K)
     refine wpList_buildTo rfl 150 _ rfl (some 181) rfl #[.int .u32 p0,.int .u32 a,.int .u32 b,.int .u32 c,.int .u32 p4,.int .u32 e,.int .u32 f,.int .u32 g] ?_ ?_
     ·simp only [List.map_toArray,List.map_cons,List.map_nil]
      exact built8 p0 a b c p4 e f g
     refine wpList_store_at rfl _ _ _ rfl _ rfl _ rfl HS.out ?_
     refine wpList_nil ?_
     simp only [Act.put]
     clear HS
     clear c31 c32 c33 c35 c36
     go_wp2
     go_roundw
     case rel => exact ⟨k + 1,rfl,by omega,by rw [HN.out];exact hv5,hm5,hb5⟩
     case measure => simp [intOf];omega
    ·have hk64 : k = 64:=by omega
     subst hk64
     clear h64 hk
     have hRl : (dgRun S ws 64).length = 8:=dgRun_len S ws hw 64
     have hmx : mixW ws bl = addW ws (dgRun S ws 64):=by unfold mixW;rw [hS]
     obtain ⟨R,hRR⟩ : ∃ R,dgRun S ws 64 = R:=⟨_,rfl⟩
     rw [hRR] at hv hRl hmx
     have hB1 : wr.heap[B]? = some (.cells (dgCells ws bl n).toArray 153 (0,0)):=by rw [hbel.block B hBlt];exact hB
     go_wp2
     go_loopw [183] (fun i wr => ∃ (k : Nat),i = .int .i64 k ∧ k ≤ 8 ∧ wr.heap[B]? = some (.cells (dgCells (addP ws R k) bl n).toArray 153 (0,0)) ∧ wr.heap[V]? = some (.cells (nums .u32 R).toArray 150 (0,0)) ∧ Upd B w wr)
      (fun i _ => (8 - intOf i).toNat)
     case atStart => exact ⟨0,rfl,by omega,by unfold addP;simpa using hB1,hv,Upd.of_below hbel⟩
     case round => as_aux_lemma =>
      clear hv hm hbel hB1
      obtain ⟨k,rfl,hk,hB1,hv,hu⟩:=hrel
      by_cases h8 : k < 8
      ·have hlt : decide ((k : Int) < 8) = true:=by simp;omega
       have hAl:=addP_len ws R hw hRl k (by omega)
       have hAt:=addP_at ws R hw hRl k h8
       have hAs:=addP_set ws R hw hRl k h8
       have hBd : wr.drew.heap[B]? = some (.cells (dgCells (addP ws R k) bl n).toArray 153 (0,0)):=hB1
       have hvd : wr.drew.heap[V]? = some (.cells (nums .u32 R).toArray 150 (0,0)):=hv
       have cw : wr.drew.cell? ⟨B,1 + k,none⟩ = some (.int .u32 (ws.getD k 0)):=by rw [blk_cell hBd,dgCells_w _ bl n hAl k h8,hAt]
       have cv:=cell_u32 hvd k (by omega)
       have hfr : wr.drew.frozen? ⟨B,1 + k,none⟩ = false:=blk_frozen hBd _
       have hB2 : (wr.drew.setCell ⟨B,1 + k,none⟩ (.int .u32 ((ws.getD k 0 + R.getD k 0) % 4294967296))).heap[B]? = some (.cells (dgCells (addP ws R (k + 1)) bl n).toArray 153 (0,0)):=by
        rw [← hAs,← dgCells_setw _ bl n hAl k h8];exact blk_set hBd _ _
       have hv2 : (wr.drew.setCell ⟨B,1 + k,none⟩ (.int .u32 ((ws.getD k 0 + R.getD k 0) % 4294967296))).heap[V]? = some (.cells (nums .u32 R).toArray 150 (0,0)):=(Below.heap_setCell _ _ _ V (by show V ≠ B;omega)).trans hvd
       have hu2:=(hu.drew).set (1 + k) (.int .u32 ((ws.getD k 0 + R.getD k 0) % 4294967296))
       have lw:=fun W => at_words B (k : Int) k W rfl h8
       have lv:=fun W => at_v8 V (k : Int) k W rfl h8
       generalize ws.getD k 0 = x at *
       generalize R.getD k 0 = y at *
       have H1:=Lib.hid hB2
       have H2:=Lib.hid hv2
       have H3:=Lib.hid hu2
       clear hB2 hv2 hu2 hBd hvd hB1 hv hAl hAt hAs hu
       go_wp2
       go_still_tail 13,(by kernel_rfl)
       change wpList _ _ _ _ _ wr.drew
       generalize wr.drew = w2 at *
       go_wp2
       go_roundw
       case rel => exact ⟨_,_,_,_,_,_,_,_,_,_,_,_,_,_,_,_,_,_,⟨k + 1,rfl,by omega,H1.out,H2.out,H3.out⟩,rfl⟩
       case measure => trace_state;simp [intOf];omega
      ·have hk8 : k = 8:=by omega
       subst hk8
       have hfin : addP ws R 8 = mixW ws bl:=by rw [hmx];unfold addP;rw [List.take_of_length_le (by rw [addW_len ws R hw hRl];omega),List.drop_eq_nil_of_le (by omega),List.append_nil]
       rw [hfin] at hB1
       have H1:=Lib.hid hB1
       clear hB1 hv h8 hk
       go_wp2
       go_end0
       exact ⟨rfl,H1.out,hu⟩
end Go.Proofs.YtedfgkjimnjdpaaDoor.X
namespace Go.Proofs.YtedfgkjimnjdpaaDoor.X
open Go.RowKit Go.Proofs.YtedfgkjimnjdpaaDoorW.PrintWords
set_option linter.unusedVariables false
set_option linter.unusedSimpArgs false
structure Dg where
 ws : List Int
 bl : List Int
 n : Nat
def Dg.Ok (s : Dg) : Prop:=s.ws.length = 8 ∧ s.bl.length = 64
def Dg.cells (s : Dg) : Array Value:=(dgCells s.ws s.bl s.n).toArray
def Dg.byte (s : Dg) (x : Int) : Dg :=
 if (s.n + 1) % 64 = 0 then ⟨mixW s.ws (s.bl.set (s.n % 64) x),s.bl.set (s.n % 64) x,s.n + 1⟩ else ⟨s.ws,s.bl.set (s.n % 64) x,s.n + 1⟩
def Dg.bytes (s : Dg) (l : List Int) : Dg:=l.foldl Dg.byte s
theorem Dg.byte_ok {s : Dg} (h : s.Ok) (x : Int) : (s.byte x).Ok:=by
 unfold Dg.byte
 split
 ·exact ⟨mixW_len _ _ h.1,by simp [h.2]⟩
 ·exact ⟨h.1,by simp [h.2]⟩
theorem Dg.byte_n (s : Dg) (x : Int) : (s.byte x).n = s.n + 1:=by
 unfold Dg.byte
 split <;> rfl
theorem Dg.bytes_ok {s : Dg} (h : s.Ok) (l : List Int) : (s.bytes l).Ok:=by
 induction l generalizing s with
 | nil => exact h
 | cons x l ih => exact ih (Dg.byte_ok h x)
theorem Dg.bytes_n (s : Dg) (l : List Int) : (s.bytes l).n = s.n + l.length:=by
 induction l generalizing s with
 | nil => rfl
 | cons x l ih =>
  show ((s.byte x).bytes l).n = _
  rw [ih,Dg.byte_n,List.length_cons]
  omega
theorem Dg.bytes_snoc (s : Dg) (l : List Int) (x : Int) : s.bytes (l ++ [x]) = (s.bytes l).byte x:=by simp [Dg.bytes]
theorem Dg.bytes_append (s : Dg) (l m : List Int) : s.bytes (l ++ m) = (s.bytes l).bytes m:=by simp [Dg.bytes]
theorem splice_snoc (L : List Int) (o : Nat) (l : List Int) (x : Int) (h : o + l.length < L.length) : splice L o (l ++ [x]) = (splice L o l).set (o + l.length) x:=by
 unfold splice
 rw [List.set_append,if_neg (by rw [List.length_take];omega),List.length_take,Nat.min_eq_left (by omega),show o + l.length - o = l.length by omega,List.set_append,if_neg (by omega),Nat.sub_self,List.length_append,List.length_singleton,List.append_assoc]
 congr 2
 rw [show o + (l.length + 1) = (o + l.length) + 1 by omega]
 rw [List.drop_eq_getElem_cons (show o + l.length < L.length from h),List.set_cons_zero]
 rfl
theorem Dg.bytes_in (s : Dg) (hs : s.Ok) (l : List Int) (h : s.n % 64 + l.length < 64) : s.bytes l = ⟨s.ws,splice s.bl (s.n % 64) l,s.n + l.length⟩:=by
 have key : ∀ n (l : List Int),l.length = n → s.n % 64 + l.length < 64 → s.bytes l = ⟨s.ws,splice s.bl (s.n % 64) l,s.n + l.length⟩:=by
  intro n
  induction n with
  | zero =>
   intro l hl _
   have : l = []:=List.eq_nil_of_length_eq_zero hl
   subst this
   unfold splice
   simp [Dg.bytes]
  | succ n ih =>
   intro l hl hh
   obtain ⟨l',x,rfl⟩ : ∃ l' x,l = l' ++ [x]:=by
    have hne : l ≠ []:=by rintro rfl;simp at hl
    exact ⟨l.dropLast,l.getLast hne,(List.dropLast_concat_getLast hne).symm⟩
   have hl' : l'.length = n:=by simpa using hl
   rw [List.length_append,List.length_singleton] at hh
   rw [Dg.bytes_snoc,ih l' hl' (by omega)]
   unfold Dg.byte
   simp only
   rw [if_neg (by omega),splice_snoc _ _ _ _ (by rw [hs.2];omega),List.length_append,List.length_singleton]
   rw [show (s.n + l'.length) % 64 = s.n % 64 + l'.length by omega]
   rfl
 exact key l.length l rfl h
theorem Dg.bytes_upto (s : Dg) (hs : s.Ok) (l : List Int) (h0 : 0 < l.length) (h : s.n % 64 + l.length ≤ 64) :
  s.bytes l = if (s.n + l.length) % 64 = 0 then ⟨mixW s.ws (splice s.bl (s.n % 64) l),splice s.bl (s.n % 64) l,s.n + l.length⟩ else ⟨s.ws,splice s.bl (s.n % 64) l,s.n + l.length⟩:=by
 by_cases hz : (s.n + l.length) % 64 = 0
 ·obtain ⟨l',x,rfl⟩ : ∃ l' x,l = l' ++ [x]:=by
   have hne : l ≠ []:=by rintro rfl;simp at h0
   exact ⟨l.dropLast,l.getLast hne,(List.dropLast_concat_getLast hne).symm⟩
  rw [if_pos hz]
  rw [List.length_append,List.length_singleton] at *
  rw [Dg.bytes_snoc,Dg.bytes_in s hs l' (by omega)]
  unfold Dg.byte
  simp only
  rw [if_pos (by omega),splice_snoc _ _ _ _ (by rw [hs.2];omega),show (s.n + l'.length) % 64 = s.n % 64 + l'.length by omega]
  rfl
 ·rw [if_neg hz]
  exact Dg.bytes_in s hs l (by omega)
theorem dgCells_n (ws bl : List Int) (n : Int) (h : ws.length = 8) (hb : bl.length = 64) : (dgCells ws bl n).toArray[73]? = some (.int .i64 n):=by
 simp only [dgCells,nums,List.getElem?_toArray]
 rw [List.getElem?_cons_succ,List.getElem?_append_right (by simp [h]),List.getElem?_append_right (by simp [h,hb])]
 simp [h,hb]
theorem dgCells_setn (ws bl : List Int) (n m : Int) (h : ws.length = 8) (hb : bl.length = 64) : (dgCells ws bl n).toArray.setIfInBounds 73 (.int .i64 m) = (dgCells ws bl m).toArray:=by
 obtain ⟨a,b,c,d,e,f,g,k,rfl⟩:=eight_of h
 simp only [dgCells,nums,List.setIfInBounds_toArray,List.map_cons,List.map_nil,List.cons_append,List.nil_append,List.set_cons_succ]
 rw [List.set_append,if_neg (by simp [hb])]
 simp [hb]
theorem dgCells_splice (ws bl : List Int) (n : Int) (h : ws.length = 8) (hb : bl.length = 64) (j : Nat) (l : List Int) (hj : j + l.length ≤ 64) :
  ((dgCells ws bl n).take (9 + j) ++ (nums .u8 l ++ (dgCells ws bl n).drop (9 + j + (nums .u8 l).length))) = dgCells ws (splice bl j l) n:=by
 obtain ⟨a,b,c,d,e,f,g,k,rfl⟩:=eight_of h
 have hlen : (nums .u8 l).length = l.length:=by simp [nums]
 rw [hlen,show 9 + j + l.length = (j + l.length) + 1 + 1 + 1 + 1 + 1 + 1 + 1 + 1 + 1 by omega,show 9 + j = j + 1 + 1 + 1 + 1 + 1 + 1 + 1 + 1 + 1 by omega]
 simp only [dgCells,nums,List.map_cons,List.map_nil,List.cons_append,List.nil_append,List.take_succ_cons,List.drop_succ_cons]
 rw [List.take_append_of_le_length (by simp;omega),List.drop_append_of_le_length (by simp;omega)]
 unfold splice
 simp only [List.map_append,List.map_take,List.map_drop,List.append_assoc]
def BytesAt (B : Nat) (w : World) (A : Option Addr) (l : List Int) : Prop :=
 l = [] ∨ ∃ M o,A = some ⟨M,o,none⟩ ∧ M ≠ B ∧ M < w.heap.size ∧ ∀ w' : World,w'.heap[M]? = w.heap[M]? → ∀ j,j < l.length → w'.cell? ⟨M,o + j,none⟩ = some (.int .u8 (l.getD j 0))
theorem BytesAt.upd {B : Nat} {w w' : World} {A : Option Addr} {l : List Int} (h : BytesAt B w A l) (hu : Upd B w w') : BytesAt B w' A l:=by
 rcases h with rfl|⟨M,o,rfl,h1,h2,h3⟩
 ·exact .inl rfl
 ·exact .inr ⟨M,o,rfl,h1,Nat.lt_of_lt_of_le h2 hu.size,fun w2 h => h3 w2 (h.trans (hu.block M h2 h1))⟩
theorem BytesAt.drop {B : Nat} {w : World} {A : Option Addr} {l : List Int} (h : BytesAt B w A l) (k : Nat) : BytesAt B w (A.map (·.add (k * 1))) (l.drop k):=by
 rcases h with rfl|⟨M,o,rfl,h1,h2,h3⟩
 ·exact .inl (by simp)
 ·refine .inr ⟨M,o + k,?_,h1,h2,fun w' hw j hj => ?_⟩
  ·simp only [Option.map_some,Nat.mul_one]
   unfold Addr.add
   split
   ·rename_i hz
    rw [hz,Nat.add_zero]
   ·rfl
  ·rw [List.length_drop] at hj
   rw [show o + k + j = o + (k + j) by omega,h3 w' hw (k + j) (by omega)]
   simp only [List.getD_eq_getElem?_getD,List.getElem?_drop]
theorem bytesAt_new (B : Nat) (w : World) (l : List Int) (t : TypeId) (hB : B < w.heap.size) : BytesAt B (w.alloc (.cells (nums .u8 l).toArray t (0,0))) (some ⟨w.heap.size,0,none⟩) l:=by
 refine .inr ⟨w.heap.size,0,rfl,by omega,by rw [World.size_alloc];omega,fun w' h j hj => ?_⟩
 rw [heap_alloc_new] at h
 rw [blk_cell h,Nat.zero_add]
 simp only [nums,List.getElem?_toArray,List.getElem?_map,List.getD_eq_getElem?_getD]
 rw [List.getElem?_eq_getElem hj]
 rfl
set_option maxHeartbeats 1000000 in
set_option maxRecDepth 100000 in
theorem none_calls (B : Nat) (cs : List Value) (w : World) (hB : w.heap[B]? = some (.cells (.bool true :: cs).toArray 153 (0,0))) :
  Calls Tryd.prog 118 #[.pointer (some ⟨B,0,none⟩)] w fun e w' => e = .returned (.bool false) ∧ w' = w:=by
 have h0 : w.cell? ⟨B,0,none⟩ = some (.bool true):=by rw [blk_cell hB];rfl
 have HB:=Lib.hid hB
 clear hB
 go_enter Tryd.func118,Tryd.ntmps118
 go_wp2
 go_ret
 exact ⟨rfl,rfl⟩
theorem dg_none (B : Nat) (s : Dg) (w : World) (hB : w.heap[B]? = some (.cells s.cells 153 (0,0))) :
  Calls Tryd.prog 118 #[.pointer (some ⟨B,0,none⟩)] w fun e w' => e = .returned (.bool false) ∧ w' = w :=
 none_calls B (nums .u32 s.ws ++ (nums .u8 s.bl ++ [Value.int .i64 s.n])) w hB
theorem upd_setRow {B : Nat} {w w' : World} (h : Upd B w w') (cs : Array Value) : Upd B w (w'.setRow B cs) :=
 h.trans ⟨rfl,rfl,rfl,by simp [World.setRow],fun k hk hb => setRow_other w' B k cs hb⟩
set_option maxHeartbeats 8000000 in
set_option maxRecDepth 100000 in
theorem dwrite_calls (B : Nat) (s : Dg) (A : Option Addr) (l : List Int) (c : Nat) (w : World) (hs : s.Ok) (hn : s.n + l.length ≤ 1000000000000) (hc : l.length ≤ c) (hT : GlobDg w) (hb1 : 1 ≠ B) (hB : w.heap[B]? = some (.cells s.cells 153 (0,0))) (hA : BytesAt B w A l) :
  Calls Tryd.prog 95 #[.pointer (some ⟨B,0,none⟩),.slice A l.length c] w fun e w' => e = .returned (.int .i64 0) ∧ w'.heap[B]? = some (.cells (s.bytes l).cells 153 (0,0)) ∧ Upd B w w':=by
 have hBlt : B < w.heap.size:=(Array.getElem?_eq_some_iff.mp hB).1
 have hTlt : 1 < w.heap.size:=(Array.getElem?_eq_some_iff.mp hT).1
 go_enter Tryd.func95,Tryd.ntmps95
 go_wp2_with (go_at_call 118;refine (dg_none B s _ hB).mono ?_;rintro e w1 ⟨rfl,rfl⟩)
 go_loopw [1] (fun v wr => ∃ (pre rest : List Int) (A : Option Addr) (c : Nat),v = .slice A rest.length c ∧ l = pre ++ rest ∧ rest.length ≤ c ∧ wr.heap[B]? = some (.cells (s.bytes pre).cells 153 (0,0)) ∧ BytesAt B wr A rest ∧ Upd B w1 wr)
  (fun v _ => match v with | .slice _ n _ => n|_ => 0)
 case atStart => exact ⟨[],l,A,c,rfl,rfl,hc,hB,hA,Upd.refl _ _⟩
 case round => as_aux_lemma =>
  clear hA hB hc
  obtain ⟨pre,rest,A,c,rfl,rfl,hc,hB,hA,hu⟩:=hrel
  by_cases h0 : 0 < rest.length
  ·rcases hA with rfl|⟨M,o,rfl,hMB,hMlt,hM⟩
   ·simp at h0
   have hA : BytesAt B wr (some ⟨M,o,none⟩) rest:=.inr ⟨M,o,rfl,hMB,hMlt,hM⟩
   have hd : decide ((0 : Int) < rest.length) = true:=by simp;omega
   have hok:=Dg.bytes_ok hs pre
   have hnn:=Dg.bytes_n s pre
   rw [List.length_append] at hn
   obtain ⟨m,hm⟩ : ∃ m,m = Nat.min rest.length (64 - (s.bytes pre).n % 64):=⟨_,rfl⟩
   have hmr : m ≤ rest.length:=by rw [hm];exact Nat.min_le_left _ _
   have hm64 : m ≤ 64 - (s.bytes pre).n % 64:=by rw [hm];exact Nat.min_le_right _ _
   have hm0 : 0 < m:=by rw [hm];exact Nat.lt_min.2 ⟨h0,by omega⟩
   have hstep : s.bytes (pre ++ rest.take m) = (s.bytes pre).bytes (rest.take m):=Dg.bytes_append _ _ _
   have htl : (rest.take m).length = m:=by rw [List.length_take];omega
   rw [Dg.bytes_upto _ hok _ (by omega) (by omega),htl] at hstep
   generalize s.bytes pre = t at *
   obtain ⟨ws,bl,n⟩:=t
   obtain ⟨hw8,hb64⟩:=hok
   simp only at hnn hw8 hb64 hm hm64 hstep
   have hnb : n + m ≤ 1000000000000:=by omega
   obtain ⟨j,hj⟩ : ∃ j,n % 64 = j:=⟨_,rfl⟩
   have hj64 : j < 64:=by omega
   rw [hj] at hm hm64 hstep
   have HNN:=Lib.hid hnn
   clear hnn
   have hBd : wr.drew.heap[B]? = some (.cells (dgCells ws bl n).toArray 153 (0,0)):=hB
   have hud : Upd B w1 wr.drew:=hu.drew
   have hMd:=hM wr.drew rfl
   have hAd : BytesAt B wr.drew (some ⟨M,o,none⟩) rest:=hA.upd (Upd.refl B wr).drew
   have cN : wr.drew.cell? ⟨B,73,none⟩ = some (.int .i64 n):=by rw [blk_cell hBd];exact dgCells_n ws bl n hw8 hb64
   have wm : (n : Int).tmod 64 = (j : Int):=by rw [Int.tmod_eq_emod_of_nonneg (by omega)];omega
   have wq : IntKind.i64.wrap (j : Int) = (j : Int):=IntWalk.i64_in _ (by omega)
   have hsl : ∀ W,(Instr.sliceAt 151 (.pointer (some ⟨B,9,none⟩)) (some (.int .i64 (j : Int))) none none).run Tryd.prog W = .ok (.slice (some ⟨B,9 + j,none⟩) (64 - j) (64 - j)) W:=by
    intro W
    rw [run_sliceAt_array_l W 151 ⟨B,9,none⟩ (by kernel_rfl) .i64 (j : Int) (by omega) (by rw [show Tryd.prog.arrayLen 151 = 64 by kernel_rfl];omega)]
    rw [show ∀ W,(sizeOf (Tryd.prog.elem 151)).run Tryd.prog W = .ok 1 W from fun W => by kernel_rfl,show Tryd.prog.arrayLen 151 = 64 by kernel_rfl]
    simp only [Result.andThen,slicedAt,Int.toNat_natCast,Nat.mul_one]
    rw [if_neg (by omega)]
    unfold Addr.add
    split
    ·rename_i hz
     rw [hz,Nat.add_zero]
    ·rfl
   have HU:=Lib.hid hud
   have HB:=Lib.hid hBd
   have HA:=Lib.hid hAd
   have HS:=Lib.hid hstep
   have HM:=Lib.hid hm
   have HJ:=Lib.hid hj
   have HD:=Lib.hid hMd
   clear hud hBd hAd hstep hm hj hB hA hu hM hMd
   go_wp2
   go_still_tail 10,(by kernel_rfl)
   change wpList _ _ _ _ _ wr.drew
   clear cN
   generalize wr.drew = w2 at *
   have hnl : (nums .u8 (rest.take m)).length = m:=by simp only [nums,List.length_map];exact htl
   refine wpList_copy_own rfl (.tmp 19) (.tmp 20) 49 49 rfl 5 (by kernel_rfl) (by kernel_rfl) B (9 + j) (64 - j) (64 - j) ⟨M,o,none⟩ rest.length c rfl rfl (dgCells ws bl n).toArray _ HB.out (nums .u8 (rest.take m)) (by rw [hnl,HM.out]) (fun i v hv => ?_) (by rw [hnl];simp [dgCells,nums,hw8,hb64];omega) (fun v hv => ?_) ?_
   ·have hi : i < m:=by rw [← hnl];exact (List.getElem?_eq_some_iff.mp hv).1
    have:=HD.out i (by omega)
    have ea : (⟨M,o,none⟩ : Addr).add i = ⟨M,o + i,none⟩:=by
     unfold Addr.add
     split
     ·rename_i hz
      rw [hz,Nat.add_zero]
     ·rfl
    rw [ea,this,← hv]
    simp only [nums,List.getElem?_map,List.getD_eq_getElem?_getD]
    rw [List.getElem?_take_of_lt hi,List.getElem?_eq_getElem (by omega)]
    rfl
   ·simp only [nums,List.mem_map] at hv
    obtain ⟨_,_,rfl⟩:=hv
    rfl
   rw [show ((dgCells ws bl n).toArray.toList.take (9 + j) ++ (nums .u8 (rest.take m) ++ (dgCells ws bl n).toArray.toList.drop (9 + j + (nums .u8 (rest.take m)).length))) = dgCells ws (splice bl j (rest.take m)) n from dgCells_splice ws bl n hw8 hb64 j _ (by omega),hnl]
   have hB3 : (w2.setRow B (dgCells ws (splice bl j (rest.take m)) n).toArray).heap[B]? = some (.cells (dgCells ws (splice bl j (rest.take m)) n).toArray 153 (0,0)):=setRow_heap w2 B _ _ _ _ HB.out
   have hu3 : Upd B w1 (w2.setRow B (dgCells ws (splice bl j (rest.take m)) n).toArray):=upd_setRow HU.out _
   have hA3 : BytesAt B (w2.setRow B (dgCells ws (splice bl j (rest.take m)) n).toArray) (some ⟨M,o,none⟩) rest:=HA.out.upd (upd_setRow (Upd.refl B w2) _)
   generalize w2.setRow B (dgCells ws (splice bl j (rest.take m)) n).toArray = w3 at *
   have hb3 : (splice bl j (rest.take m)).length = 64:=by rw [length_splice _ _ _ (by omega),hb64]
   generalize splice bl j (rest.take m) = bl3 at *
   have cN3 : w3.cell? ⟨B,73,none⟩ = some (.int .i64 n):=by rw [blk_cell hB3];exact dgCells_n ws _ n hw8 hb3
   have fN : w3.frozen? ⟨B,73,none⟩ = false:=blk_frozen hB3 _
   have hB4 : (w3.setCell ⟨B,73,none⟩ (.int .i64 ((n : Int) + (m : Int)))).heap[B]? = some (.cells (dgCells ws bl3 ((n + m : Nat) : Int)).toArray 153 (0,0)):=by
    rw [Int.natCast_add,← dgCells_setn ws _ n _ hw8 hb3];exact blk_set hB3 _ _
   have hu4 : Upd B w1 (w3.setCell ⟨B,73,none⟩ (.int .i64 ((n : Int) + (m : Int)))):=hu3.set _ _
   have hA4 : BytesAt B (w3.setCell ⟨B,73,none⟩ (.int .i64 ((n : Int) + (m : Int)))) (some ⟨M,o,none⟩) rest:=hA3.upd ((Upd.refl B w3).set _ _)
   have HB4:=Lib.hid hB4
   have HA4:=Lib.hid hA4
   have HU4:=Lib.hid hu4
   have HW8:=Lib.hid hw8
   have HB3:=Lib.hid hb3
   clear hB3 hu3 hA3 hB4 hA4 hu4 HB HU HA hw8 hb3 hb64 hnl htl hs
   have hmi : (m : Int) ≤ (rest.length : Int):=by omega
   obtain ⟨A',hA'⟩ : ∃ A' : Option Addr,A' = if c = m then some ⟨M,o,none⟩ else (some (⟨M,o,none⟩ : Addr)).map (·.add (m * 1)):=⟨_,rfl⟩
   have hs2 : ∀ W,(Instr.sliceAt 49 (.slice (some ⟨M,o,none⟩) rest.length c) (some (.int .i64 (m : Int))) none none).run Tryd.prog W = .ok (.slice A' (rest.length - m) (c - m)) W:=by
    intro W
    rw [run_sliceAt_slice (P:=Tryd.prog) W 49 _ _ _ _ Tryd.underlying49,run_slice_l (P:=Tryd.prog) W 49 (some ⟨M,o,none⟩) rest.length c Tryd.underlying49 .i64 (m : Int) (by omega) hmi]
    rw [show ∀ W,(sizeOf (Tryd.prog.elem 49)).run Tryd.prog W = .ok 1 W from fun W => by kernel_rfl]
    simp only [Result.andThen,sliced,Int.toNat_natCast]
    rw [hA']
   have hBA : ∀ W,BytesAt B W (some ⟨M,o,none⟩) rest → BytesAt B W A' (rest.drop m):=by
    intro W h
    rw [hA']
    by_cases hcm : c = m
    ·exact .inl (by apply List.drop_eq_nil_of_le;omega)
    ·rw [if_neg hcm];exact h.drop m
   have HBA:=Lib.hid hBA
   clear hBA
   clear hA'
   by_cases hz : (n + m) % 64 = 0
   ·have hq : (((n : Int) + (m : Int)) % 64 == 0) = true:=by simp;omega
    go_wp2_with (go_at_call 119;refine (mix_calls B ws bl3 ((n + m : Nat) : Int) _ HW8.out HB3.out (by have hu:=HU4.out;exact (hu.block _ hTlt hb1).trans hT) HB4.out).mono ?_;rintro e w5 ⟨rfl,hB5,hu5⟩)
    go_roundw
    case rel =>
     refine ⟨pre ++ rest.take m,rest.drop m,A',c - m,by rw [List.length_drop],by rw [List.append_assoc,List.take_append_drop],by rw [List.length_drop];omega,?_,HBA.out _ (HA4.out.upd hu5),HU4.out.trans hu5⟩
     rw [HS.out,if_pos hz]
     exact hB5
    case measure => show rest.length - m < rest.length;omega
   ·have hq : (((n : Int) + (m : Int)) % 64 == 0) = false:=by simp;omega
    go_wp2
    go_roundw
    case rel =>
     refine ⟨pre ++ rest.take m,rest.drop m,A',c - m,by rw [List.length_drop],by rw [List.append_assoc,List.take_append_drop],by rw [List.length_drop];omega,?_,HBA.out _ HA4.out,HU4.out⟩
     rw [HS.out,if_neg hz]
     exact HB4.out
    case measure => show rest.length - m < rest.length;omega
  ·have hr : rest = []:=List.eq_nil_of_length_eq_zero (by omega)
   subst hr
   have HB1:=Lib.hid hB
   clear hB hA
   go_wp2
   go_ret
   exact ⟨rfl,by rw [List.append_nil];exact HB1.out,hu⟩
end Go.Proofs.YtedfgkjimnjdpaaDoor.X
namespace Go.Proofs.YtedfgkjimnjdpaaDoor.X
open Go.RowKit Go.Proofs.YtedfgkjimnjdpaaDoorW.PrintWords
set_option linter.unusedVariables false
set_option linter.unusedSimpArgs false
def dg0 : Dg:=⟨[1779033703,3144134277,1013904242,2773480762,1359893119,2600822924,528734635,1541459225],List.replicate 64 0,0⟩
theorem dg0_ok : dg0.Ok:=⟨rfl,rfl⟩
set_option maxHeartbeats 2000000 in
set_option maxRecDepth 100000 in
theorem new_calls (w : World) : Calls Tryd.prog 94 #[] w fun e w' => e = .returned (.pointer (some ⟨w.heap.size,0,none⟩)) ∧ w' = w.alloc (.cells dg0.cells 153 (0,0)):=by
 go_enter Tryd.func94,Tryd.ntmps94
 go_wp2
 go_ret
 exact ⟨rfl,rfl⟩
theorem itoa_arr32 : Tryd.prog.underlying 88 = some (.array (Tryd.prog.arrayLen 88) (Tryd.prog.elem 88)):=by kernel_rfl
theorem arr32Info : ∃ ie,Tryd.prog.info? 88 = some ie ∧ ie.size = 32:=Option.map_eq_some_iff.1 (show (Tryd.prog.info? 88).map (·.size) = some 32 by kernel_rfl)
theorem dgInfo : ∃ ie,Tryd.prog.info? 153 = some ie ∧ ie.size = 74:=Option.map_eq_some_iff.1 (show (Tryd.prog.info? 153).map (·.size) = some 74 by kernel_rfl)
set_option maxHeartbeats 2000000 in
set_option maxRecDepth 100000 in
theorem copy_calls (B : Nat) (s : Dg) (w : World) (hs : s.Ok) (hB : w.heap[B]? = some (.cells s.cells 153 (0,0))) :
  Calls Tryd.prog 120 #[.pointer (some ⟨B,0,none⟩)] w fun e w' => e = .returned (.pointer (some ⟨w.heap.size,0,none⟩)) ∧ w'.heap[w.heap.size]? = some (.cells s.cells 153 (0,0)) ∧ Below w.heap.size w w':=by
 obtain ⟨ie,hie,hsz⟩:=dgInfo
 have hagg : ∀ w,(isAgg 153).run Tryd.prog w = .ok true w:=fun w => by kernel_rfl
 have hcl : s.cells.toList.length = 74:=by
  obtain ⟨a,b⟩:=hs
  simp [Dg.cells,dgCells,nums,a,b]
 have hone : ∀ v ∈ s.cells.toList,v.oneCell' = true:=by
  intro v hv
  simp only [Dg.cells,dgCells,nums,List.mem_cons,List.mem_append,List.mem_map,List.mem_nil_iff,or_false] at hv
  rcases hv with rfl|⟨_,_,rfl⟩|⟨_,_,rfl⟩|rfl <;> rfl
 have hl2 : (loadVar 153 ⟨B,0,none⟩).run Tryd.prog w = .ok (.agg s.cells) w:=by
  have:=Lib.rl_loadVar_cells (P:=Tryd.prog) 153 ie hie hagg B 0 s.cells.toList (by rw [hcl,hsz]) w (fun k v h => by rw [Nat.zero_add,blk_cell hB,← h];simp)
  rw [this]
 obtain ⟨w4,hst,hC,hbel⟩ : ∃ w4,(storeVar 153 ⟨w.heap.size,0,none⟩ (.agg s.cells)).run Tryd.prog (w.alloc (.cells Tryd.zeroCells153 153 (0,0))) = .ok () w4 ∧ w4.heap[w.heap.size]? = some (.cells s.cells 153 (0,0)) ∧ Below w.heap.size w w4:=by
  have hX : Tryd.zeroCells153.toList.length = 74:=by kernel_rfl
  have hb:=heap_alloc_new w (.cells Tryd.zeroCells153.toList.toArray 153 (0,0))
  have hbw : Below w.heap.size w (w.alloc (.cells Tryd.zeroCells153.toList.toArray 153 (0,0))):=(Below.refl _ _).alloc (Nat.le_refl _) _
  have hu : Upd w.heap.size w ((w.alloc (.cells Tryd.zeroCells153.toList.toArray 153 (0,0))).setCells w.heap.size 0 s.cells.toList):=upd_setCells _ _ _ (Upd.of_below hbw)
  refine ⟨_,Lib.rl_storeVar_cells (P:=Tryd.prog) 153 ie hie w.heap.size 0 s.cells.toList (by rw [hcl,hsz]) hone _ (fun k hk => by rw [Nat.zero_add,blk_cell (cs:=Tryd.zeroCells153.toList.toArray) hb,List.getElem?_toArray,List.getElem?_eq_getElem (by omega)];rfl) (fun k hk => blk_frozen hb _),?_,hu.below (Nat.le_refl _) (Nat.le_refl _)⟩
  have:=blk_setCells w.heap.size 153 s.cells.toList 0 _ _ (by rw [hcl,hX]) hb
  rw [List.take_zero,List.nil_append] at this
  exact this
 have hno:=dg_none B s w hB
 have HC:=Lib.hid hC
 have HN:=Lib.hid hno
 clear hB hC hone hcl hie hsz hagg hno
 go_enter Tryd.func120,Tryd.ntmps120
 go_upto_region 3 with (go_at_call 118;refine HN.out.mono ?_;rintro e w1 ⟨rfl,rfl⟩)
 refine wp_region_lit ?_
 iterate 2 (refine wpList_step (fun K hK => ?_);go_simp;refine hK _ _ ?_;clear hK K)
 refine wpList_load_at rfl _ _ rfl _ rfl _ hl2 ?_
 refine wpList_step (fun K hK => ?_)
 go_simp
 refine hK _ _ ?_
 clear hK K
 refine wpList_store_at rfl _ _ _ rfl _ rfl _ rfl hst ?_
 refine wpList_nil ?_
 simp only [Act.put]
 clear hl2 hst
 go_wp2
 go_ret
 exact ⟨rfl,HC.out,hbel⟩
def dgZ (n : Nat) : Nat:=(120 - n % 64) % 64
def sizeB (n : Nat) : List Int:=(List.range 8).map fun i => (n : Int) * 8 / 2 ^ (8 * (7 - i)) % 256
def outB (ws : List Int) : List Int:=ws.flatMap fun w => [w / 16777216 % 256,w / 65536 % 256,w / 256 % 256,w % 256]
def Dg.fin (s : Dg) : Dg:=(((s.byte 128).bytes (List.replicate (dgZ (s.n + 1)) 0)).bytes (sizeB s.n))
def Dg.sum (s : Dg) : List Int:=outB s.fin.ws
theorem GlobDg.upd {B : Nat} {w w' : World} (h : GlobDg w) (hu : Upd B w w') (h1 : 1 ≠ B) : GlobDg w' :=
 (hu.block _ (Array.getElem?_eq_some_iff.mp h).1 h1).trans h
structure DSum (w : World) (n0 : Nat) (wr : World) (t : Dg) : Prop where
 ok : t.Ok
 C : wr.heap[n0 + 2]? = some (.cells t.cells 153 (0,0))
 R : wr.heap[n0]? = some (.cells (nums .u8 (List.replicate 32 0)).toArray 88 (0,0))
 O : wr.heap[n0 + 1]? = some (.cells (nums .u8 (List.replicate 32 0)).toArray 88 (0,0))
 bel : Below n0 w wr
 T : GlobDg wr
theorem DSum.drew {w : World} {n0 : Nat} {wr : World} {t : Dg} (h : DSum w n0 wr t) : DSum w n0 wr.drew t:=⟨h.ok,h.C,h.R,h.O,h.bel.drew,h.T⟩
theorem DSum.write {w : World} {n0 : Nat} {wr : World} {t : Dg} (h : DSum w n0 wr t) (h1 : 1 < n0) (l : List Int) (hn : t.n + l.length ≤ 1000000000000) :
  Calls Tryd.prog 95 #[.pointer (some ⟨n0 + 2,0,none⟩),.slice (some ⟨wr.heap.size,0,none⟩) l.length l.length] (wr.alloc (.cells (nums .u8 l).toArray 5 (0,0))) fun e w' => e = .returned (.int .i64 0) ∧ DSum w n0 w' (t.bytes l):=by
 have hlt : n0 + 2 < wr.heap.size:=(Array.getElem?_eq_some_iff.mp h.C).1
 have hb : Below wr.heap.size wr (wr.alloc (.cells (nums .u8 l).toArray 5 (0,0))):=(Below.refl _ _).alloc (Nat.le_refl _) _
 have hu:=Upd.of_below (B:=n0 + 2) hb
 refine (dwrite_calls (n0 + 2) t (some ⟨wr.heap.size,0,none⟩) l l.length _ h.ok hn (Nat.le_refl _) (h.T.upd hu (by omega)) (by omega) ((hb.block _ hlt).trans h.C) (bytesAt_new (n0 + 2) wr l 5 hlt)).mono ?_
 rintro e w' ⟨rfl,hC,hu'⟩
 have hh:=hu.trans hu'
 exact ⟨rfl,Dg.bytes_ok h.ok l,hC,(hh.block _ (by omega) (by omega)).trans h.R,(hh.block _ (by omega) (by omega)).trans h.O,h.bel.trans (hh.below (by omega) (by omega)),h.T.upd hh (by omega)⟩
def outQ (ws : List Int) (j : Nat) : List Int:=outB (ws.take j) ++ List.replicate (32 - 4 * j) 0
theorem nums_set8 (d : List Int) (j : Nat) (x : Int) : (nums .u8 d).toArray.setIfInBounds j (.int .u8 x) = (nums .u8 (d.set j x)).toArray:=by
 simp [nums,List.map_set]
theorem at_out (B : Nat) (i : Int) (j : Nat) (W : World) (hj : i = j) (hl : j < 32) :
  (Instr.indexAt 88 (.pointer (some ⟨B,0,none⟩)) (.int .i64 i)).run Tryd.prog W = .ok (.pointer (some ⟨B,j,none⟩)) W:=by
 have:=at_array 88 32 B 0 i j W hj hl (by kernel_rfl) (by kernel_rfl) (fun W => by kernel_rfl)
 rw [Nat.zero_add] at this
 exact this
theorem out_cell {W : World} {B : Nat} {L : List Int} (h : W.heap[B]? = some (.cells (nums .u8 L).toArray 88 (0,0))) (hl : L.length = 32) (k : Nat) (hk : k < 32) : W.cell? ⟨B,k,none⟩ = some (.int .u8 (L.getD k 0)):=by
 rw [blk_cell h]
 simp only [nums,List.getElem?_toArray,List.getElem?_map,List.getD_eq_getElem?_getD]
 rw [List.getElem?_eq_getElem (by omega)]
 rfl
theorem out_set {W : World} {B : Nat} {L : List Int} (h : W.heap[B]? = some (.cells (nums .u8 L).toArray 88 (0,0))) (k : Nat) (x : Int) : (W.setCell ⟨B,k,none⟩ (.int .u8 x)).heap[B]? = some (.cells (nums .u8 (L.set k x)).toArray 88 (0,0)):=by
 rw [← nums_set8];exact blk_set h k _
def lastNat (B : Nat) (wr : World) : Nat:=match wr.cell? ⟨B,73,none⟩ with|some (.int _ n) => n.toNat|_ => 0
theorem lastNat_of {B : Nat} {wr : World} {k : IntKind} {n : Nat} (h : wr.cell? ⟨B,73,none⟩ = some (.int k n)) : lastNat B wr = n:=by unfold lastNat;rw [h];simp
theorem DSum.last {w : World} {n0 : Nat} {wr : World} {t : Dg} (h : DSum w n0 wr t) : wr.cell? ⟨n0 + 2,73,none⟩ = some (.int .i64 t.n):=by rw [blk_cell h.C];exact dgCells_n _ _ _ h.ok.1 h.ok.2
set_option maxHeartbeats 8000000 in
set_option maxRecDepth 100000 in
theorem dsum_calls (B : Nat) (s : Dg) (w : World) (hs : s.Ok) (hn : s.n ≤ 1000000) (hT : GlobDg w) (hb1 : 1 < w.heap.size) (hB : w.heap[B]? = some (.cells s.cells 153 (0,0))) :
  Calls Tryd.prog 96 #[.pointer (some ⟨B,0,none⟩)] w fun e w' => e = .returned (.agg (nums .u8 s.sum).toArray) ∧ Below w.heap.size w w':=by
 have hBlt : B < w.heap.size:=(Array.getElem?_eq_some_iff.mp hB).1
 go_enter Tryd.func96,Tryd.ntmps96
 go_wp2_with fail
 obtain ⟨w2,e2⟩ : ∃ x,(w.alloc (.cells (nums .u8 (List.replicate 32 0)).toArray 88 (0,0))).alloc (.cells (nums .u8 (List.replicate 32 0)).toArray 88 (0,0)) = x:=⟨_,rfl⟩
 have hbel0 : Below w.heap.size w (w.alloc (.cells (nums .u8 (List.replicate 32 0)).toArray 88 (0,0))):=(Below.refl _ _).alloc (Nat.le_refl _) _
 have hbel : Below w.heap.size w w2:=by rw [← e2];exact hbel0.alloc (by rw [World.size_alloc];omega) _
 have hsz2 : w2.heap.size = w.heap.size + 2:=by rw [← e2,World.size_alloc,World.size_alloc]
 have hR : w2.heap[w.heap.size]? = some (.cells (nums .u8 (List.replicate 32 0)).toArray 88 (0,0)):=by
  rw [← e2]
  exact (((Below.refl (w.heap.size + 1) (w.alloc (.cells (nums .u8 (List.replicate 32 0)).toArray 88 (0,0)))).alloc (by rw [World.size_alloc];omega) _).block _ (by omega)).trans (heap_alloc_new w _)
 have hO : w2.heap[w.heap.size + 1]? = some (.cells (nums .u8 (List.replicate 32 0)).toArray 88 (0,0)):=by
  rw [← e2]
  have:=heap_alloc_new (w.alloc (.cells (nums .u8 (List.replicate 32 0)).toArray 88 (0,0))) (.cells (nums .u8 (List.replicate 32 0)).toArray 88 (0,0))
  rw [World.size_alloc] at this
  exact this
 have hB2 : w2.heap[B]? = some (.cells s.cells 153 (0,0)):=(hbel.block B hBlt).trans hB
 change Calls _ _ _ ((w.alloc (.cells (nums .u8 (List.replicate 32 0)).toArray 88 (0,0))).alloc (.cells (nums .u8 (List.replicate 32 0)).toArray 88 (0,0))) _
 rw [e2]
 clear e2 hbel0
 refine (copy_calls B s w2 hs hB2).mono ?_
 rintro e w4 ⟨rfl,hC,hb4⟩
 rw [hsz2] at hC
 have hI : DSum w w.heap.size w4 s:=⟨hs,hC,(hb4.block _ (by omega)).trans hR,(hb4.block _ (by omega)).trans hO,hbel.trans (hb4.mono (by omega)),(hb4.block _ (by omega)).trans ((hbel.block _ hb1).trans hT)⟩
 rw [hsz2]
 clear hR hO hB2 hB hb4 hC
 have c73:=hI.last
 have hw1:=hI.write hb1 [128] (by show s.n + 1 ≤ _;omega)
 have HI:=Lib.hid hI
 have HW:=Lib.hid hw1
 clear hI hw1 hsz2 hbel
 go_wp2_with (go_at_call 95;refine HW.out.mono ?_;rintro e w5 ⟨rfl,hI⟩)
 have hI0 : DSum w w.heap.size w5 (s.byte 128):=hI
 clear hI HW HI c73
 go_loopw [] (fun wr => ∃ j,j ≤ dgZ (s.n + 1) ∧ DSum w w.heap.size wr ((s.byte 128).bytes (List.replicate j 0)))
  (fun wr => s.n + 100 - lastNat (w.heap.size + 2) wr)
 case atStart => exact ⟨0,Nat.zero_le _,hI0⟩
 case round => as_aux_lemma =>
  obtain ⟨j,hj,hI⟩:=hrel
  have c73:=hI.last
  have hlN:=lastNat_of c73
  have hN : ((s.byte 128).bytes (List.replicate j 0)).n = s.n + 1 + j:=by rw [Dg.bytes_n,Dg.byte_n,List.length_replicate]
  rw [hN] at c73 hlN
  obtain ⟨N,hNe⟩ : ∃ N,s.n + 1 + j = N:=⟨_,rfl⟩
  rw [hNe] at c73 hlN hN
  have hz : dgZ (s.n + 1) = (120 - (s.n + 1) % 64) % 64:=rfl
  by_cases hlt : j < dgZ (s.n + 1)
  ·have hq : ((N : Int) % 64 != 56) = true:=by simp;omega
   have hst : ((s.byte 128).bytes (List.replicate j 0)).bytes [0] = (s.byte 128).bytes (List.replicate (j + 1) 0):=by rw [List.replicate_succ',Dg.bytes_snoc];rfl
   have hw1:=hI.write hb1 [0] (by rw [hN];show N + 1 ≤ _;omega)
   rw [hst] at hw1
   have hNb : N ≤ 1000100:=by omega
   have HW:=Lib.hid hw1
   have HN:=Lib.hid hNe
   have HZ:=Lib.hid hz
   have HL:=Lib.hid hlN
   clear hw1 hI hst hN hz hNe hlN
   go_wp2_with (go_at_call 95;refine HW.out.mono ?_;rintro e w6 ⟨rfl,hI6⟩)
   have hl6:=lastNat_of hI6.last
   rw [Dg.bytes_n,Dg.byte_n,List.length_replicate] at hl6
   go_roundw
   case rel => exact ⟨j + 1,hlt,hI6⟩
   case measure =>
    have:=HN.out
    have:=HL.out
    have : dgZ (s.n + 1) ≤ 63:=by unfold dgZ;omega
    omega
  ·have hq : ((N : Int) % 64 != 56) = false:=by simp;omega
   have hjz : j = dgZ (s.n + 1):=by omega
   subst hjz
   have hNb : N ≤ 1000100:=by omega
   obtain ⟨t2,ht2⟩ : ∃ t2,(s.byte 128).bytes (List.replicate (dgZ (s.n + 1)) 0) = t2:=⟨_,rfl⟩
   rw [ht2] at hI hN
   clear hNe hlN hlt hz hj
   go_wp2
   go_loopw [6] (fun k wr => ∃ j : Nat,k = .int .i64 (56 - 8 * (j : Int)) ∧ j ≤ 8 ∧ DSum w w.heap.size wr (t2.bytes ((sizeB s.n).take j)))
    (fun k _ => (intOf k + 8).toNat)
   case atStart => exact ⟨0,rfl,by omega,by simpa [Dg.bytes] using hI⟩
   case round => as_aux_lemma =>
    obtain ⟨j,rfl,hj,hI⟩:=hrel
    by_cases hlt : j < 8
    ·obtain ⟨q,hq7⟩ : ∃ q : Nat,j + q = 7:=⟨7 - j,by omega⟩
     have hd : decide (0 ≤ 8 * (q : Int)) = true:=by simp;omega
     have htn : (t2.bytes ((sizeB s.n).take j)).n ≤ 1000108:=by
      rw [Dg.bytes_n,hN,List.length_take]
      omega
     have hst : (t2.bytes ((sizeB s.n).take j)).bytes [(s.n : Int) * 8 / 2 ^ (8 * q) % 256] = t2.bytes ((sizeB s.n).take (j + 1)):=by
      rw [List.take_add_one,show (sizeB s.n)[j]? = some ((s.n : Int) * 8 / 2 ^ (8 * q) % 256) by
       simp only [sizeB,List.getElem?_map,List.getElem?_range hlt,Option.map_some]
       rw [show 7 - j = q by omega]]
      simp only [Option.toList_some]
      rw [Dg.bytes_snoc]
      rfl
     have hw1:=hI.write hb1 [(s.n : Int) * 8 / 2 ^ (8 * q) % 256] (by show _ + 1 ≤ _;omega)
     rw [hst] at hw1
     have HW:=Lib.hid hw1
     have HI:=Lib.hid hI
     rw [show 56 - 8 * (j : Int) = 8 * (q : Int) by omega]
     have hq7b : q ≤ 7:=by omega
     have HQ:=Lib.hid hq7
     clear hw1 hst hI htn hq7 hj
     go_wp2_with (go_at_call 95;refine HW.out.mono ?_;rintro e w6 ⟨rfl,hI6⟩)
     have hq7:=HQ.out
     go_roundw
     case rel => exact ⟨j + 1,by congr 1;omega,by omega,hI6⟩
     case measure => simp [intOf];omega
    ·have hj8 : j = 8:=by omega
     subst hj8
     clear hlt hj
     have hfin : t2.bytes ((sizeB s.n).take 8) = s.fin:=by
      rw [List.take_of_length_le (by simp [sizeB]),← ht2]
      rfl
     rw [hfin] at hI
     obtain ⟨ws,hws⟩ : ∃ ws,s.fin.ws = ws:=⟨_,rfl⟩
     have hsum : s.sum = outB ws:=by rw [← hws];rfl
     have hw8 : ws.length = 8:=by rw [← hws];exact hI.ok.1
     have hcell : ∀ k,wr.cell? ⟨w.heap.size + 2,k,none⟩ = (dgCells ws s.fin.bl s.fin.n).toArray[k]?:=fun k => by rw [blk_cell hI.C,← hws];rfl
     obtain ⟨ie,hie,hsz⟩:=v8Info
     have hagg : ∀ w,(isAgg 150).run Tryd.prog w = .ok true w:=fun w => by kernel_rfl
     have hl1:=Lib.rl_loadVar_cells (P:=Tryd.prog) 150 ie hie hagg (w.heap.size + 2) 1 (nums .u32 ws) (by rw [hsz];simp [nums,hw8]) wr (fun k v h => by
      rw [hcell,← h]
      have hk8 : k < 8:=by
       have:=(List.getElem?_eq_some_iff.mp h).1
       simpa [nums,hw8] using this
      rw [dgCells_w ws s.fin.bl s.fin.n hw8 k hk8]
      simp only [nums,List.getElem?_map,List.getD_eq_getElem?_getD]
      rw [List.getElem?_eq_getElem (by omega)]
      rfl)
     obtain ⟨y0,y1,y2,y3,y4,y5,y6,y7,hy⟩:=eight_of hw8
     subst hy
     have hRr:=hI.R
     have hOr:=hI.O
     have hbr:=hI.bel
     have HSUM:=Lib.hid hsum
     clear hI hI0 hcell hws hsum hfin ht2 hN
     go_upto_region 13 with (fail)
     refine wp_region_lit ?_
     iterate 3 (refine wpList_step (fun K hK => ?_);go_simp;refine hK _ _ ?_;clear hK K)
     refine wpList_load_at rfl _ _ rfl _ rfl _ hl1 ?_
     refine wpList_step (fun K hK => ?_)
     go_simp
     refine hK _ _ ?_
     clear hK K
     refine wpList_nil ?_
     clear hl1 hie hsz hagg
     go_wp2
     go_loopw [47] (fun i wr => ∃ j,i = .int .i64 (j : Nat) ∧ j ≤ 8 ∧ wr.heap[w.heap.size + 1]? = some (.cells (nums .u8 (outQ [y0,y1,y2,y3,y4,y5,y6,y7] j)).toArray 88 (0,0)) ∧ wr.heap[w.heap.size]? = some (.cells (nums .u8 (List.replicate 32 0)).toArray 88 (0,0)) ∧ Below w.heap.size w wr)
      (fun i _ => (8 - intOf i).toNat)
     case atStart => exact ⟨0,rfl,by omega,hOr,hRr,hbr⟩
     case round => as_aux_lemma =>
      obtain ⟨j,rfl,hj,hO,hR,hb⟩:=hrel
      by_cases hlt : j < 8
      ·have hd : decide ((j : Int) < 8) = true:=by simp;omega
       have hL : (outQ [y0,y1,y2,y3,y4,y5,y6,y7] j).length = 32:=by
        rcases (show j = 0 ∨ j = 1 ∨ j = 2 ∨ j = 3 ∨ j = 4 ∨ j = 5 ∨ j = 6 ∨ j = 7 by omega) with rfl|rfl|rfl|rfl|rfl|rfl|rfl|rfl <;> rfl
       obtain ⟨y,hy⟩ : ∃ y,[y0,y1,y2,y3,y4,y5,y6,y7].getD j 0 = y:=⟨_,rfl⟩
       have hix : ∀ W,(Instr.index 150 (.agg (nums .u32 [y0,y1,y2,y3,y4,y5,y6,y7]).toArray) (.int .i64 (j : Int))).run Tryd.prog W = .ok (.int .u32 y) W:=by
        intro W
        subst hy
        rcases (show j = 0 ∨ j = 1 ∨ j = 2 ∨ j = 3 ∨ j = 4 ∨ j = 5 ∨ j = 6 ∨ j = 7 by omega) with rfl|rfl|rfl|rfl|rfl|rfl|rfl|rfl <;> rfl
       have hnext : ((((outQ [y0,y1,y2,y3,y4,y5,y6,y7] j).set (4 * j) (y / 16777216 % 256)).set (4 * j + 1) (y / 65536 % 256)).set (4 * j + 2) (y / 256 % 256)).set (4 * j + 3) (y % 256) = outQ [y0,y1,y2,y3,y4,y5,y6,y7] (j + 1):=by
        subst hy
        rcases (show j = 0 ∨ j = 1 ∨ j = 2 ∨ j = 3 ∨ j = 4 ∨ j = 5 ∨ j = 6 ∨ j = 7 by omega) with rfl|rfl|rfl|rfl|rfl|rfl|rfl|rfl <;> rfl
       obtain ⟨L,hLe⟩ : ∃ L,outQ [y0,y1,y2,y3,y4,y5,y6,y7] j = L:=⟨_,rfl⟩
       rw [hLe] at hnext hL hO
       obtain ⟨L2,hL2⟩ : ∃ L2,outQ [y0,y1,y2,y3,y4,y5,y6,y7] (j + 1) = L2:=⟨_,rfl⟩
       rw [hL2] at hnext
       have e0 : IntKind.i64.wrap (4 * (j : Int)) = 4 * (j : Int):=IntWalk.i64_in _ (by omega)
       have l0:=fun W => at_out (w.heap.size + 1) (4 * (j : Int)) (4 * j) W (by omega) (by omega)
       have l1:=fun W => at_out (w.heap.size + 1) (4 * (j : Int) + 1) (4 * j + 1) W (by omega) (by omega)
       have l2:=fun W => at_out (w.heap.size + 1) (4 * (j : Int) + 2) (4 * j + 2) W (by omega) (by omega)
       have l3:=fun W => at_out (w.heap.size + 1) (4 * (j : Int) + 3) (4 * j + 3) W (by omega) (by omega)
       have d0:=out_cell hO hL (4 * j) (by omega)
       have f0 : wr.frozen? ⟨w.heap.size + 1,4 * j,none⟩ = false:=blk_frozen hO _
       have f1 : wr.frozen? ⟨w.heap.size + 1,4 * j + 1,none⟩ = false:=blk_frozen hO _
       have f2 : wr.frozen? ⟨w.heap.size + 1,4 * j + 2,none⟩ = false:=blk_frozen hO _
       have f3 : wr.frozen? ⟨w.heap.size + 1,4 * j + 3,none⟩ = false:=blk_frozen hO _
       have hO1:=out_set hO (4 * j) (y / 16777216 % 256)
       have d1:=out_cell hO1 (by simp [hL]) (4 * j + 1) (by omega)
       have hO2:=out_set hO1 (4 * j + 1) (y / 65536 % 256)
       have d2:=out_cell hO2 (by simp [hL]) (4 * j + 2) (by omega)
       have hO3:=out_set hO2 (4 * j + 2) (y / 256 % 256)
       have d3:=out_cell hO3 (by simp [hL]) (4 * j + 3) (by omega)
       have hO4:=out_set hO3 (4 * j + 3) (y % 256)
       rw [hnext] at hO4
       have HO4:=Lib.hid hO4
       have HR4:=Lib.hid hR
       clear hO1 hO2 hO3 hO4 hO hR hnext hRr hOr hbr hy
       have hu:=((((Upd.refl (w.heap.size + 1) wr).set (4 * j) (.int .u8 (y / 16777216 % 256))).set (4 * j + 1) (.int .u8 (y / 65536 % 256))).set (4 * j + 2) (.int .u8 (y / 256 % 256))).set (4 * j + 3) (.int .u8 (y % 256))
       have HE:=Lib.hid hL2
       clear hL2 hLe
       go_wp2
       go_roundw
       case rel => exact ⟨j + 1,rfl,by omega,by rw [HE.out];exact HO4.out,(hu.block _ (Array.getElem?_eq_some_iff.mp HR4.out).1 (by omega)).trans HR4.out,hb.trans (hu.below (by omega) hb.size)⟩
       case measure => simp [intOf];omega
      ·have hj8 : j = 8:=by omega
       subst hj8
       clear hlt hj hRr hOr hbr
       have hout : outQ [y0,y1,y2,y3,y4,y5,y6,y7] 8 = s.sum:=by rw [HSUM.out];simp [outQ]
       have hl32 : s.sum.length = 32:=by rw [HSUM.out];rfl
       rw [hout] at hO
       obtain ⟨ie,hie,hsz⟩:=arr32Info
       have hagg : ∀ w,(isAgg 88).run Tryd.prog w = .ok true w:=fun w => by kernel_rfl
       have hn32 : (nums .u8 s.sum).length = 32:=by simp [nums,hl32]
       have hld:=Lib.rl_loadVar_cells (P:=Tryd.prog) 88 ie hie hagg (w.heap.size + 1) 0 (nums .u8 s.sum) (by rw [hn32,hsz]) wr (fun k v h => by rw [Nat.zero_add,blk_cell hO,← h];simp)
       have hst:=Lib.rl_storeVar_cells (P:=Tryd.prog) 88 ie hie w.heap.size 0 (nums .u8 s.sum) (by rw [hn32,hsz]) (fun v hv => by
        simp only [nums,List.mem_map] at hv
        obtain ⟨_,_,rfl⟩:=hv
        rfl) wr (fun k hk => by rw [Nat.zero_add,blk_cell hR];simp [nums];omega) (fun k hk => blk_frozen hR _)
       have hfin:=blk_setCells w.heap.size 88 (nums .u8 s.sum) 0 wr (nums .u8 (List.replicate 32 0)) (by rw [hn32];rfl) hR
       have hbf : Below w.heap.size w (wr.setCells w.heap.size 0 (nums .u8 s.sum)):=hb.trans ((upd_setCells (nums .u8 s.sum) 0 wr (Upd.refl _ _)).below (Nat.le_refl _) hb.size)
       go_upto_region 18 with (fail)
       refine wp_region_lit ?_
       refine wpList_load_at rfl _ _ rfl _ rfl _ hld ?_
       refine wpList_store_at rfl _ _ _ rfl _ rfl _ rfl hst ?_
       refine wpList_nil ?_
       simp only [Act.put]
       generalize wr.setCells w.heap.size 0 (nums .u8 s.sum) = w9 at *
       clear hld hst
       rw [List.take_zero,List.nil_append] at hfin
       have hsz9 : (Tryd.prog.info? 88).map (·.size) = some (nums .u8 s.sum).toArray.size:=by rw [List.size_toArray,hn32];kernel_rfl
       have HF:=Lib.hid hfin
       have HZ:=Lib.hid hsz9
       clear hfin hsz9 hn32
       go_wp2
       exact ⟨rfl,_,results_single rfl (.cell w.heap.size 88 _ (0,0) _ rfl HF.out itoa_arr32 rfl HZ.out .nil),rfl,hbf⟩
end Go.Proofs.YtedfgkjimnjdpaaDoor.X
namespace Go.Proofs.YtedfgkjimnjdpaaDoor.X
open Go.RowKit Go.Proofs.YtedfgkjimnjdpaaDoorW.PrintWords Go.Proofs.YtedfgkjimnjdpaaDoorW.PrintLast
set_option linter.unusedVariables false
set_option linter.unusedSimpArgs false
def BytesIn (w : World) (A : Option Addr) (l : List Int) : Prop :=
 l = [] ∨ ∃ M o,A = some ⟨M,o,none⟩ ∧ M < w.heap.size ∧ ∀ w' : World,w'.heap[M]? = w.heap[M]? → ∀ j,j < l.length → w'.cell? ⟨M,o + j,none⟩ = some (.int .u8 (l.getD j 0))
theorem BytesIn.at {w w' : World} {A : Option Addr} {l : List Int} (h : BytesIn w A l) (hb : Below w.heap.size w w') (B : Nat) (hB : w.heap.size ≤ B) : BytesAt B w' A l:=by
 rcases h with rfl|⟨M,o,rfl,h1,h2⟩
 ·exact .inl rfl
 ·exact .inr ⟨M,o,rfl,by omega,Nat.lt_of_lt_of_le h1 hb.size,fun w2 h => h2 w2 (h.trans (hb.block M h1))⟩
theorem bytesIn_str (w : World) (x : ByteArray) (t : TypeId) : BytesIn (Lib.bytesWorld w t x) (some ⟨w.heap.size,0,none⟩) (bytesOf x):=by
 refine .inr ⟨w.heap.size,0,rfl,by rw [Lib.bytesWorld_size];omega,fun w' h j hj => ?_⟩
 rw [bytesOf_length] at hj
 have:=Lib.bytesWorld_cell w t x j hj
 have e : w'.cell? ⟨w.heap.size,0 + j,none⟩ = (Lib.bytesWorld w t x).cell? ⟨w.heap.size,j,none⟩:=by rw [Nat.zero_add];simp only [World.cell?,h]
 rw [e,this]
 congr 2
 simp only [bytesOf,List.getD_eq_getElem?_getD,List.getElem?_map]
 rw [List.getElem?_eq_getElem (by simpa using hj)]
 rfl
theorem sum_len (s : Dg) (h : s.Ok) : s.sum.length = 32:=by
 obtain ⟨a,b,c,d,e,f,g,k,hw⟩:=eight_of (show s.fin.ws.length = 8 from (Dg.bytes_ok (Dg.bytes_ok (Dg.byte_ok h _) _) _).1)
 unfold Dg.sum
 rw [hw]
 rfl
theorem sum_byte (s : Dg) : ∀ x ∈ s.sum,0 ≤ x ∧ x < 256:=by
 intro x hx
 simp only [Dg.sum,outB,List.mem_flatMap,List.mem_cons,List.mem_nil_iff,or_false] at hx
 obtain ⟨y,_,rfl|rfl|rfl|rfl⟩:=hx <;> omega
set_option maxHeartbeats 4000000 in
set_option maxRecDepth 100000 in
theorem dof_calls (A : Option Addr) (l : List Int) (c : Nat) (w : World) (hl : l.length ≤ 900000) (hc : l.length ≤ c) (hT : GlobDg w) (hA : BytesIn w A l) :
  Calls Tryd.prog 58 #[.slice A l.length c] w fun e w' => e = .returned (.agg (nums .u8 (dg0.bytes l).sum).toArray) ∧ Below w.heap.size w w':=by
 have hTlt : 1 < w.heap.size:=(Array.getElem?_eq_some_iff.mp hT).1
 go_enter Tryd.func58,Tryd.ntmps58
 go_wp2_with fail
 obtain ⟨w1,e1⟩ : ∃ x,w.alloc (.cells (nums .u8 (List.replicate 32 0)).toArray 88 (0,0)) = x:=⟨_,rfl⟩
 have hb1 : Below w.heap.size w w1:=by rw [← e1];exact (Below.refl _ _).alloc (Nat.le_refl _) _
 have hs1 : w1.heap.size = w.heap.size + 1:=by rw [← e1,World.size_alloc]
 have hO1 : w1.heap[w.heap.size]? = some (.cells (nums .u8 (List.replicate 32 0)).toArray 88 (0,0)):=by rw [← e1];exact heap_alloc_new w _
 change Calls _ _ _ (w.alloc (.cells (nums .u8 (List.replicate 32 0)).toArray 88 (0,0))) _
 rw [e1]
 clear e1
 refine (new_calls w1).mono ?_
 rintro e w2' ⟨rfl,e2⟩
 have hb2 : Below w1.heap.size w1 w2':=by rw [e2];exact (Below.refl _ _).alloc (Nat.le_refl _) _
 have hP2 : w2'.heap[w1.heap.size]? = some (.cells dg0.cells 153 (0,0)):=by rw [e2];exact heap_alloc_new w1 _
 clear e2
 rw [hs1] at hP2 ⊢
 have hO2 : w2'.heap[w.heap.size]? = some (.cells (nums .u8 (List.replicate 32 0)).toArray 88 (0,0)):=(hb2.block _ (by omega)).trans hO1
 have hbb : Below w.heap.size w w2':=hb1.trans (hb2.mono (by omega))
 have hT2 : GlobDg w2':=(hbb.block _ hTlt).trans hT
 have hW:=dwrite_calls (w.heap.size + 1) dg0 A l c w2' dg0_ok (by show 0 + _ ≤ _;omega) hc hT2 (by omega) hP2 (hA.at hbb _ (by omega))
 have HW:=Lib.hid hW
 have HT2:=Lib.hid hT2
 have HO2:=Lib.hid hO2
 have HBB:=Lib.hid hbb
 clear hW hT2 hO2 hbb hP2 hb2 hO1 hb1 hs1 hA hT
 go_upto_region 3 with (go_at_call 95;refine HW.out.mono ?_;rintro e w3 ⟨rfl,hP3,hu3⟩)
 have hlt2 : w.heap.size < w2'.heap.size:=(Array.getElem?_eq_some_iff.mp HO2.out).1
 have hO3 : w3.heap[w.heap.size]? = some (.cells (nums .u8 (List.replicate 32 0)).toArray 88 (0,0)):=(hu3.block _ hlt2 (by omega)).trans HO2.out
 have hb3 : Below w.heap.size w w3:=HBB.out.trans (hu3.below (by omega) HBB.out.size)
 have hT3 : GlobDg w3:=(hu3.block _ (Array.getElem?_eq_some_iff.mp HT2.out).1 (by omega)).trans HT2.out
 have hS:=dsum_calls (w.heap.size + 1) (dg0.bytes l) w3 (Dg.bytes_ok dg0_ok l) (by rw [Dg.bytes_n];show 0 + _ ≤ _;omega) hT3 (Nat.lt_of_lt_of_le hTlt hb3.size) hP3
 have hl32:=sum_len (dg0.bytes l) (Dg.bytes_ok dg0_ok l)
 obtain ⟨S,hSe⟩ : ∃ S,(dg0.bytes l).sum = S:=⟨_,rfl⟩
 rw [hSe] at hS hl32
 have HSE:=Lib.hid hSe
 clear hSe
 have HS:=Lib.hid hS
 clear hS hT3 hP3 hu3 HW HT2 HO2 HBB
 refine wp_region_lit ?_
 refine wpList_step (fun K hK => ?_)
 go_simp
 refine hK _ _ ?_
 clear hK K
 refine goesL_ (some 9) rfl rfl Tryd.func96 (by kernel_rfl) rfl #[.pointer (some ⟨w.heap.size + 1,0,none⟩)] rfl (by simp only [List.map_toArray,List.map_cons,List.map_nil];rfl) ?_
 refine HS.out.mono ?_
 rintro e w4 ⟨rfl,hb4⟩
 refine ⟨_,rfl,?_⟩
 obtain ⟨ie,hie,hsz⟩:=arr32Info
 have hn32 : (nums .u8 S).length = 32:=by simp [nums,hl32]
 have hlt3 : w.heap.size < w3.heap.size:=(Array.getElem?_eq_some_iff.mp hO3).1
 have hO4 : w4.heap[w.heap.size]? = some (.cells (nums .u8 (List.replicate 32 0)).toArray 88 (0,0)):=(hb4.block _ hlt3).trans hO3
 have hst:=Lib.rl_storeVar_cells (P:=Tryd.prog) 88 ie hie w.heap.size 0 (nums .u8 S) (by rw [hn32,hsz]) (fun v hv => by
  simp only [nums,List.mem_map] at hv
  obtain ⟨_,_,rfl⟩:=hv
  rfl) w4 (fun k hk => by rw [Nat.zero_add,blk_cell hO4];simp [nums];omega) (fun k hk => blk_frozen hO4 _)
 have hfin:=blk_setCells w.heap.size 88 (nums .u8 S) 0 w4 (nums .u8 (List.replicate 32 0)) (by rw [hn32];rfl) hO4
 have hbf : Below w.heap.size w (w4.setCells w.heap.size 0 (nums .u8 S)):=(hb3.trans (hb4.mono hb3.size)).trans ((upd_setCells (nums .u8 S) 0 w4 (Upd.refl _ _)).below (Nat.le_refl _) (Nat.le_trans hb3.size hb4.size))
 refine wpList_store_at rfl _ _ _ rfl _ rfl _ rfl hst ?_
 refine wpList_nil ?_
 simp only [Act.put]
 generalize w4.setCells w.heap.size 0 (nums .u8 S) = w9 at *
 clear hst
 rw [List.take_zero,List.nil_append] at hfin
 have hsz9 : (Tryd.prog.info? 88).map (·.size) = some (nums .u8 S).toArray.size:=by rw [List.size_toArray,hn32];kernel_rfl
 have HF:=Lib.hid hfin
 have HZ:=Lib.hid hsz9
 clear hfin hsz9 hn32
 go_wp2
 rw [HSE.out]
 exact ⟨rfl,_,results_single rfl (.cell w.heap.size 88 _ (0,0) _ rfl HF.out itoa_arr32 rfl HZ.out .nil),rfl,hbf⟩
end Go.Proofs.YtedfgkjimnjdpaaDoor.X
namespace Go.Proofs.YtedfgkjimnjdpaaDoor.X
open Go.RowKit Go.Proofs.YtedfgkjimnjdpaaDoorW.PrintWords Go.Proofs.YtedfgkjimnjdpaaDoorW.PrintLast
set_option linter.unusedVariables false
set_option linter.unusedSimpArgs false
def hexD (n : Nat) : Int:=if n < 10 then 48 + n else 87 + n
def hexL (l : List Int) : List Int:=l.flatMap fun x => [hexD (x / 16).toNat,hexD (x % 16).toNat]
theorem hexL_len (l : List Int) : (hexL l).length = 2 * l.length:=by
 induction l with
 | nil => rfl
 | cons x l ih => simp only [hexL,List.flatMap_cons,List.length_append,List.length_cons] at ih ⊢;rw [ih];simp;omega
theorem u8info : ∃ i,Tryd.prog.info? 5 = some i ∧ i.zero = some (.int .u8 0) ∧ i.size = 1 ∧ i.bytes = 1:=by
 obtain ⟨i,h,h2⟩:=Option.map_eq_some_iff.1 (show (Tryd.prog.info? 5).map (fun i => (i.zero,i.size,i.bytes)) = some (some (.int .u8 0),1,1) by kernel_rfl)
 simp only [Prod.mk.injEq] at h2
 exact ⟨i,h,h2.1,h2.2.1,h2.2.2⟩
theorem append_run_value {P : Program} {a : Act} {o : Oper} {w : World} (s x : Operand) (t : TypeId) (ho : o.op = .call { callee:=.builtin .append,args:=#[s,x],argTypes:=#[t,t] }) (u v : Value) (hs : a.eval s = u) (hx : a.eval x = v) {v' : Value} {w' : World}
  (hr : (Builtin.append_ #[t,t] o.type #[u,v]).run P w = .ok v' w') : (execOp a.eval o).run P w = .ok (.value v') w':=by
 unfold execOp
 simp only [ho,resolve,invoke,builtin,Sem.run_bind,Sem.run_pure,Result.andThen_ok,List.map_toArray,List.map_cons,List.map_nil,hs,hx,hr]
theorem and15 (x : Int) (h0 : 0 ≤ x) (h1 : x < 256) : bits .and .u8 x 15 = x % 16:=by
 obtain ⟨m,rfl⟩:=Int.eq_ofNat_of_zero_le h0
 have : ∀ k : Fin 256,bits .and .u8 ((k.val : Nat) : Int) 15 = ((k.val : Nat) : Int) % 16:=by decide +kernel
 exact this ⟨m,by omega⟩
theorem tens_at (i : Int) (h0 : 0 ≤ i) (h1 : i < 16) (W : World) : (Instr.index 9 (.string ⟨#[48,49,50,51,52,53,54,55,56,57,97,98,99,100,101,102]⟩) (.int .u8 i)).run Tryd.prog W = .ok (.int .u8 (hexD i.toNat)) W:=by
 obtain ⟨m,rfl⟩:=Int.eq_ofNat_of_zero_le h0
 rcases (show m = 0 ∨ m = 1 ∨ m = 2 ∨ m = 3 ∨ m = 4 ∨ m = 5 ∨ m = 6 ∨ m = 7 ∨ m = 8 ∨ m = 9 ∨ m = 10 ∨ m = 11 ∨ m = 12 ∨ m = 13 ∨ m = 14 ∨ m = 15 by omega) with rfl|rfl|rfl|rfl|rfl|rfl|rfl|rfl|rfl|rfl|rfl|rfl|rfl|rfl|rfl|rfl <;> kernel_rfl
theorem hexL_snoc (l : List Int) (x : Int) : hexL (l ++ [x]) = hexL l ++ [hexD (x / 16).toNat,hexD (x % 16).toNat]:=by simp [hexL]
set_option maxHeartbeats 2000000 in
set_option maxRecDepth 100000 in
theorem hex_calls (A0 : Option Addr) (c0 : Nat) (l : List Int) (w : World) (hr : Kd.C (Kd.int .u8) w A0 l.length l) (hc : l.length ≤ c0) (hl : l.length ≤ 100000) (h8 : ∀ x ∈ l,0 ≤ x ∧ x < 256) :
  Calls Tryd.prog 61 #[.slice A0 l.length c0] w fun e w' => e = .returned (.string (strOfNums (hexL l))) ∧ Below w.heap.size w w':=by
 obtain ⟨i8,hi8,hz8,hs8,hb8⟩:=u8info
 go_enter Tryd.func61,Tryd.ntmps61
 go_wp2
 obtain ⟨w1,hmk,hown,hg⟩:=run_make_own (P:=Tryd.prog) w w.heap.size 49 5 i8 (.int .u8 0) 1 Tryd.underlying49 hi8 hz8 hs8 .i64 .i64 (2 * l.length) (by rw [hb8];omega) (by unfold maxLen;omega) (Nat.le_refl _)
 rw [show ((2 * l.length : Nat) : Int) = 2 * (l.length : Int) by omega] at hmk
 rw [hmk]
 simp only [Result.andThen]
 have hbel : Below w.heap.size w w1:=(Below.refl _ _).grown hg (Nat.le_refl _) (by simp)
 go_wp2
 go_loopw [3,12] (fun o i wr => ∃ k,i = .int .i64 (k : Nat) ∧ k ≤ l.length ∧ o = .slice (some ⟨w.heap.size,0,none⟩) (2 * k) (2 * l.length) ∧ wr.ownsRow w.heap.size 5 1 (.slice (some ⟨w.heap.size,0,none⟩) (2 * k) (2 * l.length)) (2 * k) (nums .u8 (hexL (l.take k))) ∧ Below w.heap.size w wr)
  (fun _ i _ => (l.length - intOf i).toNat)
 case atStart => exact ⟨0,rfl,by omega,rfl,by simpa [hexL,nums] using hown,hbel⟩
 case round =>
  obtain ⟨k,rfl,hk,rfl,ho,hb⟩:=hrel
  by_cases hlt : k < l.length
  ·have hd : decide ((k : Int) < l.length) = true:=by simp;omega
   obtain ⟨ad,rfl,hcell⟩:=Kd.at_int (Kd.C_below hr hb) (k : Int) (by omega) (by omega)
   simp only [Int.toNat_natCast] at hcell
   have hx:=h8 (l.getD k 0) (by rw [List.getD_eq_getElem?_getD,List.getElem?_eq_getElem hlt];simp)
   have hrd : rd l (k : Int) = l.getD k 0:=rfl
   rw [hrd] at hcell
   have hsn : hexL (l.take (k + 1)) = hexL (l.take k) ++ [hexD (l.getD k 0 / 16).toNat,hexD (l.getD k 0 % 16).toNat]:=by
    rw [List.take_add_one,List.getElem?_eq_getElem hlt]
    simp only [Option.toList_some]
    rw [hexL_snoc,List.getD_eq_getElem?_getD,List.getElem?_eq_getElem hlt]
    rfl
   generalize l.getD k 0 = x at *
   have hcd : wr.drew.cell? (ad.add k) = some (.int .u8 x):=hcell
   have hm:=and15 x hx.1 hx.2
   have t1:=tens_at (x / 16) (by omega) (by omega)
   have t2:=tens_at (x % 16) (by omega) (by omega)
   generalize hexD (x / 16).toNat = p at *
   generalize hexD (x % 16).toNat = q at *
   have HS:=Lib.hid hsn
   have hlk:=hexL_len (l.take k)
   rw [List.length_take,Nat.min_eq_left (by omega)] at hlk
   have HLK:=Lib.hid hlk
   clear hsn hlk
   go_wp2
   have ho2:=ho.drew
   have hb2:=hb.drew
   have hba : Below wr.drew.heap.size wr.drew (wr.drew.alloc (.cells #[.int .u8 p,.int .u8 q] 5 (0,0))):=(Below.refl _ _).alloc (Nat.le_refl _) _
   have hnew:=heap_alloc_new wr.drew (.cells #[.int .u8 p,.int .u8 q] 5 (0,0))
   obtain ⟨w3,hrun,ho3,hg3⟩:=run_append_fits (P:=Tryd.prog) (wr.drew.alloc (.cells #[.int .u8 p,.int .u8 q] 5 (0,0))) w.heap.size 49 49 5 i8 1 Tryd.underlying49 hi8 hs8 w.heap.size (2 * k) (2 * l.length) (nums .u8 (hexL (l.take k))) (own_move ho2 (fun g hg => hba.block g (own_lt ho2 g hg))) ⟨wr.drew.heap.size,0,none⟩ 2 2 [.int .u8 p,.int .u8 q] rfl
    (fun j u hu => by
     rw [show (Addr.add ⟨wr.drew.heap.size,0,none⟩ j) = ⟨wr.drew.heap.size,j,none⟩ by unfold Addr.add;split <;> simp_all,blk_cell hnew,← hu]
     simp) (fun u hu => by
     simp only [List.mem_cons,List.mem_nil_iff,or_false] at hu
     rcases hu with rfl|rfl <;> rfl) (by omega)
   have hb3 : Below w.heap.size w w3:=(hb2.alloc hb2.size _).grown hg3 (Nat.le_trans hb2.size hba.size) (by simp)
   have HR:=Lib.hid hrun
   have HO3:=Lib.hid ho3
   clear hrun ho3 hg3 hnew hba ho2 ho hb hb2
   refine start_ (n:=10) (S:=fun w' => True) (ds:=[]) #[false,false,false,false,false,false,false,false,false,false] (by kernel_rfl) rfl rfl trivial (fun hHeld => ?_)
   refine pure_ (i:=0) (N:=some 16) (v:=?_) (a':=?_) #[true,false,false,false,false,false,false,false,false,false] rfl rfl (by kernel_rfl) (fun _ _ _ h => h) (Or.inl ⟨by rfl,?_⟩) ?_ ?_
   rotate_left
   ·intro w'
    go_simp
    with_reducible rfl
   rotate_left
   ·simp only [Act.put,List.setIfInBounds_toArray,List.set_cons_zero,List.set_cons_succ,i64_w,i32_w]
    rfl
   refine pure_ (i:=1) (N:=some 17) (v:=?_) (a':=?_) #[true,true,false,false,false,false,false,false,false,false] rfl rfl (by kernel_rfl) (fun _ _ _ h => h) (Or.inl ⟨by rfl,?_⟩) ?_ ?_
   rotate_left
   ·intro w'
    go_simp
    with_reducible rfl
   rotate_left
   ·simp only [Act.put,List.setIfInBounds_toArray,List.set_cons_zero,List.set_cons_succ,i64_w,i32_w]
    rfl
   refine pure_ (i:=2) (N:=some 18) (v:=?_) (a':=?_) #[true,true,true,false,false,false,false,false,false,false] rfl rfl (by kernel_rfl) (fun _ _ _ h => h) (Or.inl ⟨by rfl,?_⟩) ?_ ?_
   rotate_left
   ·intro w'
    go_simp
    with_reducible rfl
   rotate_left
   ·simp only [Act.put,List.setIfInBounds_toArray,List.set_cons_zero,List.set_cons_succ,i64_w,i32_w]
    rfl
   refine pure_ (i:=4) (N:=some 20) (v:=?_) (a':=?_) #[true,true,true,false,true,false,false,false,false,false] rfl rfl (by kernel_rfl) (fun _ _ _ h => h) (Or.inl ⟨by rfl,?_⟩) ?_ ?_
   rotate_left
   ·intro w'
    go_simp
    with_reducible rfl
   rotate_left
   ·simp only [Act.put,List.setIfInBounds_toArray,List.set_cons_zero,List.set_cons_succ,i64_w,i32_w]
    rfl
   refine pure_ (i:=5) (N:=some 21) (v:=?_) (a':=?_) #[true,true,true,false,true,true,false,false,false,false] rfl rfl (by kernel_rfl) (fun _ _ _ h => h) (Or.inl ⟨by rfl,?_⟩) ?_ ?_
   rotate_left
   ·intro w'
    go_simp
    with_reducible rfl
   rotate_left
   ·simp only [Act.put,List.setIfInBounds_toArray,List.set_cons_zero,List.set_cons_succ,i64_w,i32_w]
    rfl
   refine take_ (i:=3) (N:=some 19) (v:=?_) (a':=?_) #[true,true,true,true,true,true,false,false,false,false] rfl rfl (by kernel_rfl) (fun _ _ _ h => h) (Or.inl ⟨by rfl,?_⟩) hHeld ?_ ?_
   rotate_left
   ·intro w' _
    go_simp
    with_reducible rfl
   rotate_left
   ·simp only [Act.put,List.setIfInBounds_toArray,List.set_cons_zero,List.set_cons_succ,i64_w,i32_w]
    rfl
   refine take_ (i:=6) (N:=some 22) (v:=?_) (a':=?_) #[true,true,true,true,true,true,true,false,false,false] rfl rfl (by kernel_rfl) (fun _ _ _ h => h) (Or.inl ⟨by rfl,?_⟩) hHeld ?_ ?_
   rotate_left
   ·intro w' _
    go_simp
    with_reducible rfl
   rotate_left
   ·simp only [Act.put,List.setIfInBounds_toArray,List.set_cons_zero,List.set_cons_succ,i64_w,i32_w]
    rfl
   refine one_ (i:=7) (N:=some 23) #[true,true,true,true,true,true,true,true,false,false] rfl rfl (by kernel_rfl) (by decide) (fun K hK => ?_)
   refine value_ (w1:=?_) (v:=?_) (by rfl) rfl ?_ ?_
   rotate_left 2
   ·go_simp
    constructor
    ·rfl
    ·rfl
   refine hK.out _ _ trivial (fun hHeld => ?_)
   clear hK K
   refine norm_ (a':=?_) ?_ ?_
   rotate_left
   ·show Act.put _ (some 23) _ = _
    simp only [Act.put,List.setIfInBounds_toArray,List.set_cons_zero,List.set_cons_succ,i64_w,i32_w]
    rfl
   refine one_ (i:=8) (N:=some 24) #[true,true,true,true,true,true,true,true,true,false] rfl rfl (by kernel_rfl) (by decide) (fun K hK => ?_)
   refine value_ (w1:=w3) (v:=.slice (some ⟨w.heap.size,0,none⟩) (2 * k + 2) (2 * l.length)) (by rfl) rfl ?_ ?_
   ·exact append_run_value _ _ _ rfl _ _ rfl rfl HR.out
   refine hK.out _ _ trivial (fun hHeld => ?_)
   clear hK K
   refine norm_ (a':=?_) ?_ ?_
   rotate_left
   ·show Act.put _ (some 24) _ = _
    simp only [Act.put,List.setIfInBounds_toArray,List.set_cons_zero,List.set_cons_succ,i64_w,i32_w]
    rfl
   refine pure_ (i:=9) (N:=some 3) (v:=?_) (a':=?_) #[true,true,true,true,true,true,true,true,true,true] rfl rfl (by kernel_rfl) (fun _ _ _ h => h) (Or.inl ⟨by rfl,?_⟩) ?_ ?_
   rotate_left
   ·intro w'
    go_simp
    with_reducible rfl
   rotate_left
   ·simp only [Act.put,List.setIfInBounds_toArray,List.set_cons_zero,List.set_cons_succ,i64_w,i32_w]
    rfl
   refine done_ (by kernel_rfl) ?_
   go_wp2
   go_roundw
   case rel =>
    refine ⟨k + 1,rfl,by omega,by rw [show 2 * (k + 1) = 2 * k + 2 by omega],?_,hb3⟩
    rw [HS.out,show 2 * (k + 1) = 2 * k + 2 by omega]
    have:=HO3.out
    simpa [nums] using this
   case measure => simp [intOf];omega
  ·have hkl : k = l.length:=by omega
   subst hkl
   rw [List.take_length] at ho
   clear hlt hk
   have hcv : (convert 49 9 (.slice (some ⟨w.heap.size,0,none⟩) (2 * l.length) (2 * l.length))).run Tryd.prog wr = .ok (.string (strOfNums (hexL l))) wr:=by
    refine string_of_reads Tryd.underlying49 Tryd.underlying5 Tryd.underlying9 ⟨hexL_len l,by omega,fun _ => ⟨_,rfl,fun j hj => ?_⟩⟩
    have hlj : j < (hexL l).length:=by rw [hexL_len];omega
    refine ho.cells (g:=w.heap.size) rfl j _ ?_
    simp only [nums,List.getElem?_map,List.getD_eq_getElem?_getD]
    rw [List.getElem?_eq_getElem hlj]
    rfl
   clear ho
   go_wp2
   go_ret
   exact ⟨rfl,hb⟩
end Go.Proofs.YtedfgkjimnjdpaaDoor.X
namespace Go.Proofs.YtedfgkjimnjdpaaDoor.X
open Go.RowKit Go.Proofs.YtedfgkjimnjdpaaDoorW.PrintWords Go.Proofs.YtedfgkjimnjdpaaDoorW.PrintLast
set_option linter.unusedVariables false
set_option linter.unusedSimpArgs false
set_option maxHeartbeats 2000000 in
theorem parts_calls (A0 : Option Addr) (c0 : Nat) (l0 : List ByteArray) (r : ByteArray) (w : World) (hr0 : Kd.C Kd.string w A0 l0.length l0) (hc0 : l0.length ≤ c0) (h : strings_Join.f l0 ⟨#[47]⟩ = some r) (hs : r.size ≤ 1000000) :
  Calls Tryd.prog 59 #[.slice A0 l0.length c0] w fun e w' => e = .returned (.string (r ++ ⟨#[47]⟩)) ∧ Below w.heap.size w w':=by
 have hj:=strings_Join.calls A0 c0 l0 ⟨#[47]⟩ r w hr0 hc0 h
 have H:=Lib.hid hj
 clear hj h hr0
 go_enter Tryd.func59,Tryd.ntmps59
 go_wp2_with (go_at_call 77;refine H.out.mono ?_;rintro e w1 ⟨rfl,hb⟩)
 go_ret
 exact ⟨rfl,hb⟩
def idDash (h : ByteArray) : ByteArray:=h.extract 0 8 ++ ⟨#[45]⟩ ++ h.extract 8 12 ++ ⟨#[45]⟩ ++ h.extract 12 16 ++ ⟨#[45]⟩ ++ h.extract 16 20 ++ ⟨#[45]⟩ ++ h.extract 20 32
def idText (s0 a1 s2 : ByteArray) : Option ByteArray:=(strings_Join.f [s0,a1,s2] ⟨#[47]⟩).bind fun r => if r.size ≤ 500000 then some (r ++ ⟨#[47]⟩) else none
def ticket_Id.f (a0 : Int) (a1 : ByteArray) (a2 : Int) : Option ByteArray :=
 (basic_Itoa.f a0).bind fun s0 => (basic_Itoa.f a2).bind fun s2 => (idText s0 a1 s2).bind fun t =>
  some (idDash (strOfNums (hexL ((dg0.bytes (bytesOf t)).sum.take 16))))
theorem strOfNums_size (l : List Int) : (strOfNums l).size = l.length:=by unfold strOfNums;simp [ByteArray.size]
theorem str3_C (w : World) (a b c : ByteArray) (t : TypeId) : Kd.C Kd.string (w.alloc (.cells #[.string a,.string b,.string c] t (0,0))) (some ⟨w.heap.size,0,none⟩) 3 [a,b,c]:=by
 refine ⟨rfl,by omega,fun _ => ⟨_,rfl,fun j p hp => ⟨[.string p],rfl,rfl,fun i u hu => ?_⟩⟩⟩
 rcases i with _|i
 ·simp at hu
  subst hu
  have hb:=heap_alloc_new w (.cells #[.string a,.string b,.string c] t (0,0))
  have hj : j < 3:=(List.getElem?_eq_some_iff.mp hp).1
  have e : (Addr.add ⟨w.heap.size,0,none⟩ (j * Kd.string.sz + 0)) = ⟨w.heap.size,j,none⟩:=by
   show (Addr.add ⟨w.heap.size,0,none⟩ (j * 1 + 0)) = _
   unfold Addr.add
   split <;> simp_all
  rw [e,blk_cell hb]
  rcases (show j = 0 ∨ j = 1 ∨ j = 2 by omega) with rfl|rfl|rfl <;> simp at hp <;> subst hp <;> rfl
 ·simp at hu
set_option maxHeartbeats 4000000 in
set_option maxRecDepth 100000 in
theorem ticket_Id.calls (a0 : Int) (a1 : ByteArray) (a2 : Int) (r : ByteArray) (w : World) (hG : GlobDg w) (h : ticket_Id.f a0 a1 a2 = some r) :
  Calls Tryd.prog 25 #[.int .i64 a0,.string a1,.int .i64 a2] w fun e w' => e = .returned (.string r) ∧ Below w.heap.size w w':=by
 unfold ticket_Id.f at h
 obtain ⟨s0,h0,h⟩:=Option.bind_eq_some_iff.mp h
 obtain ⟨s2,h2,h⟩:=Option.bind_eq_some_iff.mp h
 obtain ⟨t,ht,h⟩:=Option.bind_eq_some_iff.mp h
 obtain rfl:=Option.some.inj h
 unfold idText at ht
 obtain ⟨j,hj,ht⟩:=Option.bind_eq_some_iff.mp ht
 split at ht
 ·rename_i hjs
  obtain rfl:=Option.some.inj ht
  have hts : (j ++ (⟨#[47]⟩ : ByteArray)).size ≤ 600000:=by
   rw [ByteArray.size_append]
   show j.size + 1 ≤ _
   omega
  obtain ⟨t,htt⟩ : ∃ t,j ++ (⟨#[47]⟩ : ByteArray) = t:=⟨_,rfl⟩
  rw [htt] at hts ⊢
  have H0:=Lib.hid h0
  have H2:=Lib.hid h2
  have HJ:=Lib.hid hj
  have HT:=Lib.hid htt
  have HG:=Lib.hid hG
  clear h0 h2 hj htt ht h hG
  go_enter Tryd.func25,Tryd.ntmps25
  go_upto_region 1 with (fail)
  refine wp_region_lit ?_
  refine wpList_step (fun K hK => ?_);go_simp;refine hK _ _ ?_;clear hK K
  refine goesL_ (some 10) rfl rfl Tryd.func60 (by kernel_rfl) rfl #[.int .i64 a0] rfl (by simp only [List.map_toArray,List.map_cons,List.map_nil];rfl) ?_
  refine (basic_Itoa.calls a0 s0 _ H0.out).mono ?_
  rintro e w1 ⟨rfl,hb1⟩
  refine ⟨_,rfl,?_⟩
  iterate 2 (refine wpList_step (fun K hK => ?_);go_simp;refine hK _ _ ?_;clear hK K)
  refine goesL_ (some 13) rfl rfl Tryd.func60 (by kernel_rfl) rfl #[.int .i64 a2] rfl (by simp only [List.map_toArray,List.map_cons,List.map_nil];rfl) ?_
  refine (basic_Itoa.calls a2 s2 _ H2.out).mono ?_
  rintro e w2 ⟨rfl,hb2⟩
  refine ⟨_,rfl,?_⟩
  refine wpList_step (fun K hK => ?_);go_simp;refine hK _ _ ?_;clear hK K
  have hC:=str3_C w2 s0 a1 s2 9
  have hP:=parts_calls (some ⟨w2.heap.size,0,none⟩) 3 [s0,a1,s2] j _ hC (Nat.le_refl _) HJ.out (by omega)
  have hb3 : Below w.heap.size w (w2.alloc (.cells #[.string s0,.string a1,.string s2] 9 (0,0))):=(hb1.trans (hb2.mono hb1.size)).alloc (Nat.le_trans hb1.size hb2.size) _
  generalize w2.alloc (.cells #[.string s0,.string a1,.string s2] 9 (0,0)) = w3 at *
  have HP:=Lib.hid hP
  clear hP hC hb1 hb2
  refine goesL_ (some 15) rfl rfl Tryd.func59 (by kernel_rfl) rfl #[.slice (some ⟨w2.heap.size,0,none⟩) 3 3] rfl (by simp only [List.map_toArray,List.map_cons,List.map_nil];rfl) ?_
  refine HP.out.mono ?_
  rintro e w4 ⟨rfl,hb4⟩
  refine ⟨_,rfl,?_⟩
  rw [HT.out]
  have hcv:=Lib.run_convert_string_bytes (P:=Tryd.prog) w4 9 49 5 t Tryd.underlying9 Tryd.underlying49 Tryd.underlying5
  have hA:=bytesIn_str w4 t 5
  have hb5 : Below w4.heap.size w4 (Lib.bytesWorld w4 5 t):=⟨rfl,rfl,rfl,by rw [Lib.bytesWorld_size];omega,fun k hk => Lib.bytesWorld_at_old w4 _ t k hk⟩
  have hb54 : Below w.heap.size w (Lib.bytesWorld w4 5 t):=(hb3.trans (hb4.mono hb3.size)).trans (hb5.mono (Nat.le_trans hb3.size hb4.size))
  have hT5 : GlobDg (Lib.bytesWorld w4 5 t):=HG.out.below hb54
  have hO:=fun c (hc : (bytesOf t).length ≤ c) => dof_calls (some ⟨w4.heap.size,0,none⟩) (bytesOf t) c (Lib.bytesWorld w4 5 t) (by rw [bytesOf_length];omega) hc hT5 hA
  rw [bytesOf_length] at hO
  have HO:=Lib.hid hO
  clear hO hT5 hA hb5 hb3 hb4 HP
  refine wpList_step (fun K hK => ?_)
  go_simp
  refine hK _ _ ?_
  clear hK K hcv
  refine goesL_ (some 17) rfl rfl Tryd.func58 (by kernel_rfl) rfl #[.slice (some ⟨w4.heap.size,0,none⟩) t.size (grownCap w4 t.size 0 5)] rfl (by simp only [List.map_toArray,List.map_cons,List.map_nil];rfl) ?_
  refine (HO.out _ (grownCap_ge _ _ _ _)).mono ?_
  rintro e w6 ⟨rfl,hb6⟩
  refine ⟨_,rfl,?_⟩
  have hbw : Below w.heap.size w w6:=hb54.trans (hb6.mono hb54.size)
  have hl32:=sum_len (dg0.bytes (bytesOf t)) (Dg.bytes_ok dg0_ok _)
  have hb8:=sum_byte (dg0.bytes (bytesOf t))
  obtain ⟨S,hSe⟩ : ∃ S,(dg0.bytes (bytesOf t)).sum = S:=⟨_,rfl⟩
  rw [hSe] at hl32 hb8 ⊢
  have HSE:=Lib.hid hSe
  clear hSe hb6 hb54 HO
  obtain ⟨N,hNe⟩ : ∃ N,w6.heap.size = N:=⟨_,rfl⟩
  have hNw : w.heap.size ≤ N:=by rw [← hNe];exact hbw.size
  have hZ:=heap_alloc_new w6 (.cells (nums .u8 (List.replicate 32 0)).toArray 88 (0,0))
  rw [hNe] at hZ
  have hbz : Below w6.heap.size w6 (w6.alloc (.cells (nums .u8 (List.replicate 32 0)).toArray 88 (0,0))):=(Below.refl _ _).alloc (Nat.le_refl _) _
  obtain ⟨ie,hie,hsz⟩:=arr32Info
  have hn32 : (nums .u8 S).length = 32:=by simp [nums,hl32]
  have hst:=Lib.rl_storeVar_cells (P:=Tryd.prog) 88 ie hie N 0 (nums .u8 S) (by rw [hn32,hsz]) (fun v hv => by
   simp only [nums,List.mem_map] at hv
   obtain ⟨_,_,rfl⟩:=hv
   rfl) (w6.alloc (.cells (nums .u8 (List.replicate 32 0)).toArray 88 (0,0))) (fun k hk => by rw [Nat.zero_add,blk_cell hZ];simp [nums];omega) (fun k hk => blk_frozen hZ _)
  have hfin:=blk_setCells N 88 (nums .u8 S) 0 _ (nums .u8 (List.replicate 32 0)) (by rw [hn32];rfl) hZ
  rw [List.take_zero,List.nil_append] at hfin
  have hu4 : Upd N w6 ((w6.alloc (.cells (nums .u8 (List.replicate 32 0)).toArray 88 (0,0))).setCells N 0 (nums .u8 S)):=upd_setCells _ _ _ (Upd.of_below hbz)
  have hbf : Below w.heap.size w ((w6.alloc (.cells (nums .u8 (List.replicate 32 0)).toArray 88 (0,0))).setCells N 0 (nums .u8 S)):=hbw.trans (hu4.below hNw (by rw [hNe];exact hNw))
  have HFI:=Lib.hid hfin
  have HBF:=Lib.hid hbf
  clear hfin hbf hu4 hbz hZ hbw hie hsz
  refine wpList_step (fun K hK => ?_)
  go_simp
  refine hK _ _ ?_
  clear hK K
  refine wpList_store_at rfl _ _ _ rfl _ rfl _ rfl hst ?_
  refine wpList_nil ?_
  simp only [Act.put]
  generalize (w6.alloc (.cells (nums .u8 (List.replicate 32 0)).toArray 88 (0,0))).setCells N 0 (nums .u8 S) = w7 at *
  clear hst hNe
  have h16 : (S.take 16).length = 16:=by rw [List.length_take];omega
  have hH:=hex_calls (some ⟨N,0,none⟩) 32 (S.take 16) w7 ⟨rfl,by omega,fun _ => ⟨_,rfl,fun j p hp => ⟨[.int .u8 p],rfl,rfl,fun i u hu => by
   rcases i with _|i
   ·simp at hu
    subst hu
    have hjl : j < 16:=by rw [← h16];exact (List.getElem?_eq_some_iff.mp hp).1
    have:=out_cell HFI.out hl32 j (by omega)
    rw [List.getElem?_take_of_lt hjl] at hp
    rw [List.getD_eq_getElem?_getD,hp] at this
    have e : (Addr.add ⟨N,0,none⟩ (j * 1 + 0)) = ⟨N,j,none⟩:=by unfold Addr.add;split <;> simp_all
    show w7.cell? (Addr.add ⟨N,0,none⟩ (j * 1 + 0)) = _
    rw [e]
    exact this
   ·simp at hu⟩⟩⟩ (by omega) (by omega) (fun x hx => hb8 x (List.mem_of_mem_take hx))
  rw [h16] at hH
  have hs32 : (strOfNums (hexL (S.take 16))).size = 32:=by rw [strOfNums_size,hexL_len,h16]
  obtain ⟨x,hx⟩ : ∃ x,strOfNums (hexL (S.take 16)) = x:=⟨_,rfl⟩
  rw [hx] at hH hs32
  have HH:=Lib.hid hH
  have HX:=Lib.hid hx
  clear hH hb8 h16 hx hl32 hn32
  have hlt7 : w.heap.size ≤ w7.heap.size:=HBF.out.size
  go_upto_region 3 with (go_at_call 61;refine HH.out.mono ?_;rintro e w8 ⟨rfl,hb8⟩)
  go_still (by kernel_rfl)
  change Exit.then _ _ Exit.normal _ w8.drew
  have hbz : Below w.heap.size w w8.drew:=(HBF.out.trans (hb8.mono hlt7)).drew
  have HZ:=Lib.hid hbz
  clear hbz hb8
  go_wp2
  go_ret
  exact ⟨by rw [HSE.out,HX.out];rfl,HZ.out⟩
 ·exact absurd ht (by simp)
end Go.Proofs.YtedfgkjimnjdpaaDoor.X
namespace Go.Proofs.YtedfgkjimnjdpaaDoor.X
open Go.RowKit Go.Proofs.YtedfgkjimnjdpaaDoorW.PrintWords Go.Proofs.YtedfgkjimnjdpaaDoorW.PrintLast Go.Proofs.YtedfgkjimnjdpaaDoorW.PrintMore
attribute [local go_sem] max2_int min2_int max_two min_two max_three min_three max_four min_four
set_option linter.unusedVariables false
set_option linter.unusedSimpArgs false
def racewayref03_rounds.f  : Option (List Int):=some (([1116352408,1899447441,3049323471,3921009573,961987163,1508970993,2453635748,2870763221,3624381080,310598401,607225278,1426881987,1925078388,2162078206,2614888103,3248222580,3835390401,4022224774,264347078,604807628,770255983,1249150122,1555081692,1996064986,2554220882,2821834349,2952996808,3210313671,3336571891,3584528711,113926993,338241895,666307205,773529912,1294757372,1396182291,1695183700,1986661051,2177026350,2456956037,2730485921,2820302411,3259730800,3345764771,3516065817,3600352804,4094571909,275423344,430227734,506948616,659060556,883997877,958139571,1322822218,1537002063,1747873779,1955562222,2024104815,2227730452,2361852424,2428436474,2756734187,3204031479,3329325298] : List Int))
set_option maxHeartbeats 8000000 in
set_option maxRecDepth 100000 in
theorem racewayref03_rounds.calls  (r : List Int) (w : World) (h : racewayref03_rounds.f  = some r) :
  Calls Tryd.prog 97 #[] w fun e w' => ∃ v0_ : Value,e = .returned (v0_) ∧ Kd.R (Kd.int .u32) 107 w' w.heap.size (fun _ => True) v0_ r ∧ Below w.heap.size w w':=by
 have HB:=Aside0.mk (Below.refl w.heap.size w)
 have H : (some (([1116352408,1899447441,3049323471,3921009573,961987163,1508970993,2453635748,2870763221,3624381080,310598401,607225278,1426881987,1925078388,2162078206,2614888103,3248222580,3835390401,4022224774,264347078,604807628,770255983,1249150122,1555081692,1996064986,2554220882,2821834349,2952996808,3210313671,3336571891,3584528711,113926993,338241895,666307205,773529912,1294757372,1396182291,1695183700,1986661051,2177026350,2456956037,2730485921,2820302411,3259730800,3345764771,3516065817,3600352804,4094571909,275423344,430227734,506948616,659060556,883997877,958139571,1322822218,1537002063,1747873779,1955562222,2024104815,2227730452,2361852424,2428436474,2756734187,3204031479,3329325298] : List Int))) = some r:=h
 clear h
 obtain ⟨y149,hy149⟩ : ∃ y_ : List Int,y_ = (([1116352408,1899447441,3049323471,3921009573,961987163,1508970993,2453635748,2870763221,3624381080,310598401,607225278,1426881987,1925078388,2162078206,2614888103,3248222580,3835390401,4022224774,264347078,604807628,770255983,1249150122,1555081692,1996064986,2554220882,2821834349,2952996808,3210313671,3336571891,3584528711,113926993,338241895,666307205,773529912,1294757372,1396182291,1695183700,1986661051,2177026350,2456956037,2730485921,2820302411,3259730800,3345764771,3516065817,3600352804,4094571909,275423344,430227734,506948616,659060556,883997877,958139571,1322822218,1537002063,1747873779,1955562222,2024104815,2227730452,2361852424,2428436474,2756734187,3204031479,3329325298] : List Int)):=⟨_,rfl⟩
 replace H : (some y149) = some r:=by first|(rw [hy149];with_reducible exact H)|(have H2_:=(Option.bind_some _ _).symm.trans H;rw [hy149];with_reducible exact H2_)|(have H2_:=(Option.bind_some _ _).symm.trans H;with_reducible exact H2_)|with_reducible exact H|(rw [hy149];exact H)|exact H
 have Ny149:=Aside0.mk hy149
 clear hy149
 obtain rfl:=Option.some.inj H
 go_enter Tryd.func97,Tryd.ntmps97
 go_wp2_with (first|((with_reducible refine gate_dst (N:=1) rfl ?_);refine Kd.R_lit (Kd.int .u32) _ 107 ?hg (N:=1) ?hd (xs:=([1116352408,1899447441,3049323471,3921009573,961987163,1508970993,2453635748,2870763221,3624381080,310598401,607225278,1426881987,1925078388,2162078206,2614888103,3248222580,3835390401,4022224774,264347078,604807628,770255983,1249150122,1555081692,1996064986,2554220882,2821834349,2952996808,3210313671,3336571891,3584528711,113926993,338241895,666307205,773529912,1294757372,1396182291,1695183700,1986661051,2177026350,2456956037,2730485921,2820302411,3259730800,3345764771,3516065817,3600352804,4094571909,275423344,430227734,506948616,659060556,883997877,958139571,1322822218,1537002063,1747873779,1955562222,2024104815,2227730452,2361852424,2428436474,2756734187,3204031479,3329325298] : List Int)) (inner:=[.int .u32 1116352408,.int .u32 1899447441,.int .u32 3049323471,.int .u32 3921009573,.int .u32 961987163,.int .u32 1508970993,.int .u32 2453635748,.int .u32 2870763221,.int .u32 3624381080,.int .u32 310598401,.int .u32 607225278,.int .u32 1426881987,.int .u32 1925078388,.int .u32 2162078206,.int .u32 2614888103,.int .u32 3248222580,.int .u32 3835390401,.int .u32 4022224774,.int .u32 264347078,.int .u32 604807628,.int .u32 770255983,.int .u32 1249150122,.int .u32 1555081692,.int .u32 1996064986,.int .u32 2554220882,.int .u32 2821834349,.int .u32 2952996808,.int .u32 3210313671,.int .u32 3336571891,.int .u32 3584528711,.int .u32 113926993,.int .u32 338241895,.int .u32 666307205,.int .u32 773529912,.int .u32 1294757372,.int .u32 1396182291,.int .u32 1695183700,.int .u32 1986661051,.int .u32 2177026350,.int .u32 2456956037,.int .u32 2730485921,.int .u32 2820302411,.int .u32 3259730800,.int .u32 3345764771,.int .u32 3516065817,.int .u32 3600352804,.int .u32 4094571909,.int .u32 275423344,.int .u32 430227734,.int .u32 506948616,.int .u32 659060556,.int .u32 883997877,.int .u32 958139571,.int .u32 1322822218,.int .u32 1537002063,.int .u32 1747873779,.int .u32 1955562222,.int .u32 2024104815,.int .u32 2227730452,.int .u32 2361852424,.int .u32 2428436474,.int .u32 2756734187,.int .u32 3204031479,.int .u32 3329325298]) (ok:=fun _ => True) (okp:=fun _ => True) ?hr ?hp (fun _ hk => hk) trivial (Below.refl _ _) (Nat.le_refl _) (by simp) ?_;(case hd => rfl);(case hg => rfl);(case hr => first|(go_simp;done)|(go_simp;rfl));(case hp => exact (Reps.one (show Kd.M (Kd.int .u32) _ _ _ 1116352408 [.int .u32 1116352408] from rfl) (Reps.one (show Kd.M (Kd.int .u32) _ _ _ 1899447441 [.int .u32 1899447441] from rfl) (Reps.one (show Kd.M (Kd.int .u32) _ _ _ 3049323471 [.int .u32 3049323471] from rfl) (Reps.one (show Kd.M (Kd.int .u32) _ _ _ 3921009573 [.int .u32 3921009573] from rfl) (Reps.one (show Kd.M (Kd.int .u32) _ _ _ 961987163 [.int .u32 961987163] from rfl) (Reps.one (show Kd.M (Kd.int .u32) _ _ _ 1508970993 [.int .u32 1508970993] from rfl) (Reps.one (show Kd.M (Kd.int .u32) _ _ _ 2453635748 [.int .u32 2453635748] from rfl) (Reps.one (show Kd.M (Kd.int .u32) _ _ _ 2870763221 [.int .u32 2870763221] from rfl) (Reps.one (show Kd.M (Kd.int .u32) _ _ _ 3624381080 [.int .u32 3624381080] from rfl) (Reps.one (show Kd.M (Kd.int .u32) _ _ _ 310598401 [.int .u32 310598401] from rfl) (Reps.one (show Kd.M (Kd.int .u32) _ _ _ 607225278 [.int .u32 607225278] from rfl) (Reps.one (show Kd.M (Kd.int .u32) _ _ _ 1426881987 [.int .u32 1426881987] from rfl) (Reps.one (show Kd.M (Kd.int .u32) _ _ _ 1925078388 [.int .u32 1925078388] from rfl) (Reps.one (show Kd.M (Kd.int .u32) _ _ _ 2162078206 [.int .u32 2162078206] from rfl) (Reps.one (show Kd.M (Kd.int .u32) _ _ _ 2614888103 [.int .u32 2614888103] from rfl) (Reps.one (show Kd.M (Kd.int .u32) _ _ _ 3248222580 [.int .u32 3248222580] from rfl) (Reps.one (show Kd.M (Kd.int .u32) _ _ _ 3835390401 [.int .u32 3835390401] from rfl) (Reps.one (show Kd.M (Kd.int .u32) _ _ _ 4022224774 [.int .u32 4022224774] from rfl) (Reps.one (show Kd.M (Kd.int .u32) _ _ _ 264347078 [.int .u32 264347078] from rfl) (Reps.one (show Kd.M (Kd.int .u32) _ _ _ 604807628 [.int .u32 604807628] from rfl) (Reps.one (show Kd.M (Kd.int .u32) _ _ _ 770255983 [.int .u32 770255983] from rfl) (Reps.one (show Kd.M (Kd.int .u32) _ _ _ 1249150122 [.int .u32 1249150122] from rfl) (Reps.one (show Kd.M (Kd.int .u32) _ _ _ 1555081692 [.int .u32 1555081692] from rfl) (Reps.one (show Kd.M (Kd.int .u32) _ _ _ 1996064986 [.int .u32 1996064986] from rfl) (Reps.one (show Kd.M (Kd.int .u32) _ _ _ 2554220882 [.int .u32 2554220882] from rfl) (Reps.one (show Kd.M (Kd.int .u32) _ _ _ 2821834349 [.int .u32 2821834349] from rfl) (Reps.one (show Kd.M (Kd.int .u32) _ _ _ 2952996808 [.int .u32 2952996808] from rfl) (Reps.one (show Kd.M (Kd.int .u32) _ _ _ 3210313671 [.int .u32 3210313671] from rfl) (Reps.one (show Kd.M (Kd.int .u32) _ _ _ 3336571891 [.int .u32 3336571891] from rfl) (Reps.one (show Kd.M (Kd.int .u32) _ _ _ 3584528711 [.int .u32 3584528711] from rfl) (Reps.one (show Kd.M (Kd.int .u32) _ _ _ 113926993 [.int .u32 113926993] from rfl) (Reps.one (show Kd.M (Kd.int .u32) _ _ _ 338241895 [.int .u32 338241895] from rfl) (Reps.one (show Kd.M (Kd.int .u32) _ _ _ 666307205 [.int .u32 666307205] from rfl) (Reps.one (show Kd.M (Kd.int .u32) _ _ _ 773529912 [.int .u32 773529912] from rfl) (Reps.one (show Kd.M (Kd.int .u32) _ _ _ 1294757372 [.int .u32 1294757372] from rfl) (Reps.one (show Kd.M (Kd.int .u32) _ _ _ 1396182291 [.int .u32 1396182291] from rfl) (Reps.one (show Kd.M (Kd.int .u32) _ _ _ 1695183700 [.int .u32 1695183700] from rfl) (Reps.one (show Kd.M (Kd.int .u32) _ _ _ 1986661051 [.int .u32 1986661051] from rfl) (Reps.one (show Kd.M (Kd.int .u32) _ _ _ 2177026350 [.int .u32 2177026350] from rfl) (Reps.one (show Kd.M (Kd.int .u32) _ _ _ 2456956037 [.int .u32 2456956037] from rfl) (Reps.one (show Kd.M (Kd.int .u32) _ _ _ 2730485921 [.int .u32 2730485921] from rfl) (Reps.one (show Kd.M (Kd.int .u32) _ _ _ 2820302411 [.int .u32 2820302411] from rfl) (Reps.one (show Kd.M (Kd.int .u32) _ _ _ 3259730800 [.int .u32 3259730800] from rfl) (Reps.one (show Kd.M (Kd.int .u32) _ _ _ 3345764771 [.int .u32 3345764771] from rfl) (Reps.one (show Kd.M (Kd.int .u32) _ _ _ 3516065817 [.int .u32 3516065817] from rfl) (Reps.one (show Kd.M (Kd.int .u32) _ _ _ 3600352804 [.int .u32 3600352804] from rfl) (Reps.one (show Kd.M (Kd.int .u32) _ _ _ 4094571909 [.int .u32 4094571909] from rfl) (Reps.one (show Kd.M (Kd.int .u32) _ _ _ 275423344 [.int .u32 275423344] from rfl) (Reps.one (show Kd.M (Kd.int .u32) _ _ _ 430227734 [.int .u32 430227734] from rfl) (Reps.one (show Kd.M (Kd.int .u32) _ _ _ 506948616 [.int .u32 506948616] from rfl) (Reps.one (show Kd.M (Kd.int .u32) _ _ _ 659060556 [.int .u32 659060556] from rfl) (Reps.one (show Kd.M (Kd.int .u32) _ _ _ 883997877 [.int .u32 883997877] from rfl) (Reps.one (show Kd.M (Kd.int .u32) _ _ _ 958139571 [.int .u32 958139571] from rfl) (Reps.one (show Kd.M (Kd.int .u32) _ _ _ 1322822218 [.int .u32 1322822218] from rfl) (Reps.one (show Kd.M (Kd.int .u32) _ _ _ 1537002063 [.int .u32 1537002063] from rfl) (Reps.one (show Kd.M (Kd.int .u32) _ _ _ 1747873779 [.int .u32 1747873779] from rfl) (Reps.one (show Kd.M (Kd.int .u32) _ _ _ 1955562222 [.int .u32 1955562222] from rfl) (Reps.one (show Kd.M (Kd.int .u32) _ _ _ 2024104815 [.int .u32 2024104815] from rfl) (Reps.one (show Kd.M (Kd.int .u32) _ _ _ 2227730452 [.int .u32 2227730452] from rfl) (Reps.one (show Kd.M (Kd.int .u32) _ _ _ 2361852424 [.int .u32 2361852424] from rfl) (Reps.one (show Kd.M (Kd.int .u32) _ _ _ 2428436474 [.int .u32 2428436474] from rfl) (Reps.one (show Kd.M (Kd.int .u32) _ _ _ 2756734187 [.int .u32 2756734187] from rfl) (Reps.one (show Kd.M (Kd.int .u32) _ _ _ 3204031479 [.int .u32 3204031479] from rfl) (Reps.one (show Kd.M (Kd.int .u32) _ _ _ 3329325298 [.int .u32 3329325298] from rfl) (Reps.none _ _))))))))))))))))))))))))))))))))))))))))))))))))))))))))))))))))));intro v150 w1 ho2 hb hg_ hnew_;clear hg_ hnew_;(first|rw [← Ny149.out] at ho2|(simp only [Int.reduceToNat] at ho2;rw [← Ny149.out] at ho2));have n0_:=Aside0.mk (Kd.R_lower ho2 (below_size (by repeat (first|(with_reducible first|exact HB.out|apply below_alloc|apply pw_below_drewN|apply below_drew1)|exact HB.out))));have n1_:=Aside0.mk (below_step (by repeat (first|(with_reducible first|exact HB.out|apply below_alloc|apply pw_below_drewN|apply below_drew1)|exact HB.out)) hb);clear HB;have HO151:=n0_;have HB:=n1_;clear n0_ n1_;clear hb ho2))
 go_ret
 exact ⟨_,by first|rfl|(simp [errW_none,errW_some] <;> rfl)|(simp [*,errW_none,errW_some] <;> rfl),by (with_reducible repeat (first|apply Kd.R_alloc|apply Kd.R_drewN|apply Kd.R_drew));exact HO151.out,by repeat (first|(with_reducible first|exact HB.out|apply below_alloc|apply pw_below_drewN|apply below_drew1)|exact HB.out)⟩
end Go.Proofs.YtedfgkjimnjdpaaDoor.X
namespace Go.Proofs.YtedfgkjimnjdpaaDoor.X
open Go.RowKit Go.Proofs.YtedfgkjimnjdpaaDoorW.PrintWords Go.Proofs.YtedfgkjimnjdpaaDoorW.PrintLast Go.Proofs.YtedfgkjimnjdpaaDoorW.PrintMore
attribute [local go_sem] max2_int min2_int max_two min_two max_three min_three max_four min_four
set_option linter.unusedVariables false
set_option linter.unusedSimpArgs false
mutual
def racewayref03_padded.l0 : Nat → List Int → List Int → Option (List Int)
 | 0,_,_ => none
 | k + 1,x0,x3 => if ((x3.length : Int) % 64) = 56 then (racewayref03_padded.l1 k x3 (IntKind.u64.wrap ((IntKind.u64.wrap ((x0.length : Int))) * 8)) 7) else (if x3.length < 140737488355328 then (racewayref03_padded.l0 k x0 (x3 ++ [0])) else (none))
def racewayref03_padded.l1 : Nat → List Int → Int → Int → Option (List Int)
 | 0,_,_,_ => none
 | k + 1,x3,x4,x5 => if x5 ≥ 0 then (if 0 ≤ (wrap64 (8 * x5)) then (if x3.length < 140737488355328 then (racewayref03_padded.l1 k (x3 ++ [(shr .u64 x4 (wrap64 (8 * x5))) % 256]) x4 (wrap64 (x5 - 1))) else (none)) else (none)) else (some x3)
end
def racewayref03_padded.f (k : Nat) (l0 : List Int) : Option (List Int):=(some (([] : List Int) : List Int)).bind fun y152 => (if y152.length + l0.length < 140737488355328 then ((some (y152 ++ l0 : List Int)).bind fun y155 => (if y155.length < 140737488355328 then (racewayref03_padded.l0 k l0 (y155 ++ [128])) else (none))) else (none))
set_option maxHeartbeats 8000000 in
set_option maxRecDepth 100000 in
theorem racewayref03_padded.calls (k : Nat) (A0 : Option Addr) (c0 : Nat) (l0 : List Int) (r : List Int) (w : World) (hr0 : Kd.C (Kd.int .u8) w A0 l0.length l0) (hc0 : l0.length ≤ c0) (h : racewayref03_padded.f k l0 = some r) :
  Calls Tryd.prog 98 #[.slice A0 l0.length c0] w fun e w' => ∃ v0_ : Value,e = .returned (v0_) ∧ Kd.R (Kd.int .u8) 5 w' w.heap.size (fun _ => True) v0_ r ∧ Below w.heap.size w w':=by
 have HR0:=Aside0.mk hr0
 have HC0:=Aside0.mk hc0
 clear hr0 hc0
 have HB:=Aside0.mk (Below.refl w.heap.size w)
 have H : ((some (([] : List Int) : List Int)).bind fun y152 => (if y152.length + l0.length < 140737488355328 then ((some (y152 ++ l0 : List Int)).bind fun y155 => (if y155.length < 140737488355328 then (racewayref03_padded.l0 k l0 (y155 ++ [128])) else (none))) else (none))) = some r:=h
 clear h
 obtain ⟨y152,hy152⟩ : ∃ y_ : List Int,y_ = (([] : List Int)):=⟨_,rfl⟩
 replace H : (if y152.length + l0.length < 140737488355328 then ((some (y152 ++ l0 : List Int)).bind fun y155 => (if y155.length < 140737488355328 then (racewayref03_padded.l0 k l0 (y155 ++ [128])) else (none))) else (none)) = some r:=by first|(rw [hy152];with_reducible exact H)|(have H2_:=(Option.bind_some _ _).symm.trans H;rw [hy152];with_reducible exact H2_)|(have H2_:=(Option.bind_some _ _).symm.trans H;with_reducible exact H2_)|with_reducible exact H|(rw [hy152];exact H)|exact H
 have Ny152:=Aside0.mk hy152
 clear hy152
 by_cases c2 : y152.length + l0.length < 140737488355328
 ·rw [if_pos c2] at H
  have LMc2:=Aside0.mk c2
  clear c2
  obtain ⟨y155,hy155⟩ : ∃ y_ : List Int,y_ = (y152 ++ l0):=⟨_,rfl⟩
  replace H : (if y155.length < 140737488355328 then (racewayref03_padded.l0 k l0 (y155 ++ [128])) else (none)) = some r:=by first|(rw [hy155];with_reducible exact H)|(have H2_:=(Option.bind_some _ _).symm.trans H;rw [hy155];with_reducible exact H2_)|(have H2_:=(Option.bind_some _ _).symm.trans H;with_reducible exact H2_)|with_reducible exact H|(rw [hy155];exact H)|exact H
  have Ny155:=Aside0.mk hy155
  clear hy155
  by_cases c3 : y155.length < 140737488355328
  ·rw [if_pos c3] at H
   have LMc3:=Aside0.mk c3
   clear c3
   obtain ⟨y158,hy158⟩ : ∃ y_ : List Int,y_ = (y155 ++ [128]):=⟨_,rfl⟩
   replace H : (racewayref03_padded.l0 k l0 y158) = some r:=by first|(rw [hy158];with_reducible exact H)|(have H2_:=(Option.bind_some _ _).symm.trans H;rw [hy158];with_reducible exact H2_)|(have H2_:=(Option.bind_some _ _).symm.trans H;with_reducible exact H2_)|with_reducible exact H|(rw [hy158];exact H)|exact H
   have Ny158:=Aside0.mk hy158
   clear hy158
   have H':=Aside0.mk H
   clear H
   go_enter Tryd.func98,Tryd.ntmps98
   go_wp2_with (first|((with_reducible refine gate_dst (N:=6) rfl ?_);refine Kd.R_lit (Kd.int .u8) _ 5 ?hg (N:=6) ?hd (xs:=([] : List Int)) (inner:=[]) (ok:=fun _ => True) (okp:=fun _ => True) ?hr ?hp (fun _ hk => hk) trivial (Below.refl _ _) (Nat.le_refl _) (by simp) ?_;(case hd => rfl);(case hg => rfl);(case hr => first|(go_simp;done)|(go_simp;rfl));(case hp => exact (Reps.none _ _));intro v153 w4 ho5 hb hg_ hnew_;clear hg_ hnew_;(first|rw [← Ny152.out] at ho5|(simp only [Int.reduceToNat] at ho5;rw [← Ny152.out] at ho5));have n0_:=Aside0.mk (Kd.R_lower ho5 (below_size (by repeat (first|(with_reducible first|exact HB.out|apply below_alloc|apply pw_below_drewN|apply below_drew1)|exact HB.out))));have n1_:=Aside0.mk (below_step (by repeat (first|(with_reducible first|exact HB.out|apply below_alloc|apply pw_below_drewN|apply below_drew1)|exact HB.out)) hb);clear HB;have HO154:=n0_;have HB:=n1_;clear n0_ n1_;clear hb ho5)|((with_reducible refine gate_builtin (b:=.append) (xs:=#[.tmp 6,.tmp 7]) rfl ?_);at_builtin;refine Kd.R_append_rows (Kd.int .u8) (w0:=w) w.heap.size rfl (.tmp 6) (.tmp 7) 49 5 (.int .u8 0) 1 rfl Tryd.underlying49 info5 rfl (by decide) (by omega) v153 y152 l0 _ _ _ (fun _ => True) (fun _ => False) rfl rfl ?aO ?aR (fun _ _ h => h) (fun _ h => h.elim) ?aF ?aB ?aS ?aL ?_;(case aR => repeat (first|exact (Kd.C_below HR0.out HB.out)|(with_reducible refine Kd.C_alloc ?_ _)|(with_reducible refine Kd.C_drewN ?_ _)|(with_reducible refine Kd.C_drew ?_)));(case aB => exact (by repeat (first|(with_reducible first|exact HB.out|apply below_alloc|apply pw_below_drewN|apply below_drew1)|exact HB.out)));(case aF => exact (fun _ _ => trivial));(case aO => exact (by (with_reducible repeat (first|apply Kd.R_alloc|apply Kd.R_drewN|apply Kd.R_drew));exact HO154.out));(case aS => exact (below_size (by repeat (first|(with_reducible first|exact HB.out|apply below_alloc|apply pw_below_drewN|apply below_drew1)|exact HB.out))));(case aL => have:=LMc2.out;omega);intro v156 w6 ho hb hg hat;rw [← Ny155.out] at ho;have n0_:=Aside0.mk (hb);have n1_:=Aside0.mk (ho);clear HB;clear HO154;have HB:=n0_;have HO157:=n1_;clear n0_ n1_;clear ho hb hg hat)|((with_reducible refine gate_builtin (b:=.append) (xs:=#[.tmp 8,.tmp 9]) rfl ?_);at_builtin;refine Kd.R_append (Kd.int .u8) (w0:=w) w.heap.size rfl (.tmp 8) (.tmp 9) 49 5 (.int .u8 0) 1 rfl Tryd.underlying49 info5 rfl (by decide) (by omega) v156 y155 128 [.int .u8 128] (fun _ => True) (fun _ => False) rfl rfl ?aP (fun _ hk => hk.elim) ?aF ?aO ?aB ?aS ?aL ?_;(case aP => exact rfl);(case aB => exact (by repeat (first|(with_reducible first|exact HB.out|apply below_alloc|apply pw_below_drewN|apply below_drew1)|exact HB.out)));(case aF => exact (fun _ _ => trivial));(case aO => exact (by (with_reducible repeat (first|apply Kd.R_alloc|apply Kd.R_drewN|apply Kd.R_drew));exact HO157.out));(case aS => exact (below_size (by repeat (first|(with_reducible first|exact HB.out|apply below_alloc|apply pw_below_drewN|apply below_drew1)|exact HB.out))));(case aL => have:=LMc3.out;omega);intro v159 w7 ho hb hg hat;rw [← Ny158.out] at ho;have n0_:=Aside0.mk (hb);have n1_:=Aside0.mk (ho);clear HB;clear HO157;have HB:=n0_;have HO160:=n1_;clear n0_ n1_;clear ho hb hg hat))
   go_loopg [3] k (fun kq v3 w' => ∃ (x3_1 : List Int),Aside0 (racewayref03_padded.l0 kq l0 x3_1 = some r) ∧ Aside0 (kq ≤ k) ∧ Aside0 (Kd.R (Kd.int .u8) 5 w' w.heap.size (fun _ => True) v3 x3_1) ∧ Aside0 (Below w.heap.size w w'))
   case atStart => exact ⟨(y158),(by first|exact H'|(subst_vars;exact H')),⟨Nat.le_refl _⟩,⟨by (with_reducible repeat (first|apply Kd.R_alloc|apply Kd.R_drewN|apply Kd.R_drew));exact HO160.out⟩,⟨by repeat (first|(with_reducible first|exact HB.out|apply below_alloc|apply pw_below_drewN|apply below_drew1)|exact HB.out)⟩⟩
   case round =>
    clear H'
    try clear c2
    try clear p2
    try clear c3
    obtain ⟨x3_1,HA,HK1,HO_3,HB⟩:=hrel
    cases gk with
    | zero => exact absurd HA.out (by simp [racewayref03_padded.l0])
    | succ k1 =>
     have H:=HA.out
     clear HA
     simp only [racewayref03_padded.l0] at H
     by_cases c8 : ((x3_1.length : Int) % 64) = 56
     ·rw [if_pos c8] at H
      have c8b0 : (((x3_1.length : Int) % 64) == 56) = true:=beq_iff_eq.mpr c8
      have c8b1 : (((x3_1.length : Int) % 64) != 56) = false:=bne_eq_false_iff_eq.mpr c8
      clear c8
      have H':=Aside0.mk H
      clear H
      obtain ⟨Ao9,co9,eo9⟩:=Kd.R_slice HO_3.out
      subst eo9
      go_wp2
      go_loopg [3,5] k1 (fun kq v3 v5 w' => ∃ (x3_2 : List Int) (x5_2 : Int),v5 = .int .i64 x5_2 ∧ Aside0 (racewayref03_padded.l1 kq x3_2 (IntKind.u64.wrap ((IntKind.u64.wrap ((l0.length : Int))) * 8)) x5_2 = some r) ∧ Aside0 (kq ≤ k1) ∧ Aside0 (Kd.R (Kd.int .u8) 5 w' w.heap.size (fun _ => True) v3 x3_2) ∧ Aside0 (Below w.heap.size w w'))
      case atStart => exact ⟨(x3_1),(7),(by first|rfl|(simp;done)|(simp;decide +kernel)|(simp [*];done)),(by first|exact H'|(subst_vars;exact H')),⟨Nat.le_refl _⟩,⟨by (with_reducible repeat (first|apply Kd.R_alloc|apply Kd.R_drewN|apply Kd.R_drew));exact HO_3.out⟩,⟨by repeat (first|(with_reducible first|exact HB.out|apply below_alloc|apply pw_below_drewN|apply below_drew1)|exact HB.out)⟩⟩
      case round =>
       clear H'
       try clear c2
       try clear p2
       try clear c3
       try clear c8
       try clear c8b0
       try clear c8b1
       try clear c9
       try clear p2
       obtain ⟨x3_2,x5_2,rfl,HA,HK2,HO_3,HB⟩:=hrel
       cases gk with
       | zero => exact absurd HA.out (by simp [racewayref03_padded.l1])
       | succ k2 =>
        have H:=HA.out
        clear HA
        simp only [racewayref03_padded.l1] at H
        by_cases c10 : x5_2 ≥ 0
        ·rw [if_pos c10] at H
         have c10b0 : decide (0 ≤ x5_2) = true:=decide_eq_true c10
         clear c10
         obtain ⟨ji11,hji11⟩ : ∃ j_ : Int,(wrap64 (8 * x5_2)) = j_:=⟨_,rfl⟩
         replace H : (if 0 ≤ (ji11) then (if x3_2.length < 140737488355328 then (racewayref03_padded.l1 k2 (x3_2 ++ [(shr .u64 (IntKind.u64.wrap ((IntKind.u64.wrap ((l0.length : Int))) * 8)) (ji11)) % 256]) (IntKind.u64.wrap ((IntKind.u64.wrap ((l0.length : Int))) * 8)) (wrap64 (x5_2 - 1))) else (none)) else (none)) = some r:=by first|(rw [hji11] at H;exact H)|(simp only [hji11] at H ⊢;exact H)
         have hji11w : (IntKind.i64.wrap (8 * x5_2)) = ji11:=(i64_w _).trans hji11
         by_cases c12 : 0 ≤ (ji11)
         ·rw [if_pos c12] at H
          have c12b0:=eq_true c12
          have c12b1 : decide (0 ≤ (ji11)) = true:=decide_eq_true c12
          clear c12
          obtain ⟨ji13,hji13⟩ : ∃ j_ : Int,(shr .u64 (IntKind.u64.wrap ((IntKind.u64.wrap ((l0.length : Int))) * 8)) (ji11)) = j_:=⟨_,rfl⟩
          replace H : (if x3_2.length < 140737488355328 then (racewayref03_padded.l1 k2 (x3_2 ++ [(ji13) % 256]) (IntKind.u64.wrap ((IntKind.u64.wrap ((l0.length : Int))) * 8)) (wrap64 (x5_2 - 1))) else (none)) = some r:=by first|(rw [hji13] at H;exact H)|(simp only [hji13] at H ⊢;exact H)
          have hji13_ : ((IntKind.u64.wrap ((IntKind.u64.wrap ((l0.length : Int))) * 8)) / 2 ^ min (ji11).toNat 64) = ji13:=hji13
          have hji13z : (ji11) ≤ 64 → ((IntKind.u64.wrap ((IntKind.u64.wrap ((l0.length : Int))) * 8)) / 2 ^ (ji11).toNat) = ji13:=shr_small hji13
          by_cases c14 : x3_2.length < 140737488355328
          ·rw [if_pos c14] at H
           have LMc14:=Aside0.mk c14
           clear c14
           obtain ⟨y164,hy164⟩ : ∃ y_ : List Int,y_ = (x3_2 ++ [(ji13) % 256]):=⟨_,rfl⟩
           replace H : (racewayref03_padded.l1 k2 y164 (IntKind.u64.wrap ((IntKind.u64.wrap ((l0.length : Int))) * 8)) (wrap64 (x5_2 - 1))) = some r:=by first|(rw [hy164];with_reducible exact H)|(have H2_:=(Option.bind_some _ _).symm.trans H;rw [hy164];with_reducible exact H2_)|(have H2_:=(Option.bind_some _ _).symm.trans H;with_reducible exact H2_)|with_reducible exact H|(rw [hy164];exact H)|exact H
           have Ny164:=Aside0.mk hy164
           clear hy164
           have H':=Aside0.mk H
           clear H
           go_wp2_with (first|((with_reducible refine gate_builtin (b:=.append) (xs:=#[.tmp 26,.tmp 32]) rfl ?_);at_builtin;refine Kd.R_append (Kd.int .u8) (w0:=w) w.heap.size rfl (.tmp 26) (.tmp 32) 49 5 (.int .u8 0) 1 rfl Tryd.underlying49 info5 rfl (by decide) (by omega) u3 x3_2 ((ji13) % 256) [.int .u8 ((ji13) % 256)] (fun _ => True) (fun _ => False) rfl rfl ?aP (fun _ hk => hk.elim) ?aF ?aO ?aB ?aS ?aL ?_;(case aP => exact rfl);(case aB => exact (by repeat (first|(with_reducible first|exact HB.out|apply below_alloc|apply pw_below_drewN|apply below_drew1)|exact HB.out)));(case aF => exact (fun _ _ => trivial));(case aO => exact (by (with_reducible repeat (first|apply Kd.R_alloc|apply Kd.R_drewN|apply Kd.R_drew));exact HO_3.out));(case aS => exact (below_size (by repeat (first|(with_reducible first|exact HB.out|apply below_alloc|apply pw_below_drewN|apply below_drew1)|exact HB.out))));(case aL => have:=LMc14.out;omega);intro v165 w15 ho hb hg hat;rw [← Ny164.out] at ho;have n0_:=Aside0.mk (hb);have n1_:=Aside0.mk (ho);clear HB;clear HO_3;have HB:=n0_;have HO166:=n1_;clear n0_ n1_;clear ho hb hg hat))
           go_roundg k2
           case measure => have:=HK1.out;have:=HK2.out;omega
           case rel => exact ⟨(y164),(wrap64 (x5_2 - 1)),(by first|rfl|(simp;done)|(simp;decide +kernel)|(simp [*];done)),(by first|exact H'|(subst_vars;exact H')),⟨by have:=HK1.out;have:=HK2.out;omega⟩,⟨by (with_reducible repeat (first|apply Kd.R_alloc|apply Kd.R_drewN|apply Kd.R_drew));exact HO166.out⟩,⟨by repeat (first|(with_reducible first|exact HB.out|apply below_alloc|apply pw_below_drewN|apply below_drew1)|exact HB.out)⟩⟩
          ·rw [if_neg c14] at H
           exact absurd H (by simp)
         ·rw [if_neg c12] at H
          exact absurd H (by simp)
        ·rw [if_neg c10] at H
         have c10b0 : decide (0 ≤ x5_2) = false:=decide_eq_false c10
         clear c10
         obtain rfl:=Option.some.inj H
         go_wp2
         go_ret
         exact ⟨_,by first|rfl|(simp [errW_none,errW_some] <;> rfl)|(simp [*,errW_none,errW_some] <;> rfl),by (with_reducible repeat (first|apply Kd.R_alloc|apply Kd.R_drewN|apply Kd.R_drew));exact HO_3.out,by repeat (first|(with_reducible first|exact HB.out|apply below_alloc|apply pw_below_drewN|apply below_drew1)|exact HB.out)⟩
     ·rw [if_neg c8] at H
      have c8b0 : (((x3_1.length : Int) % 64) == 56) = false:=beq_eq_false_iff_ne.mpr c8
      have c8b1 : (((x3_1.length : Int) % 64) != 56) = true:=bne_iff_ne.mpr c8
      by_cases c16 : x3_1.length < 140737488355328
      ·rw [if_pos c16] at H
       have LMc16:=Aside0.mk c16
       clear c16
       obtain ⟨y161,hy161⟩ : ∃ y_ : List Int,y_ = (x3_1 ++ [0]):=⟨_,rfl⟩
       replace H : (racewayref03_padded.l0 k1 l0 y161) = some r:=by first|(rw [hy161];with_reducible exact H)|(have H2_:=(Option.bind_some _ _).symm.trans H;rw [hy161];with_reducible exact H2_)|(have H2_:=(Option.bind_some _ _).symm.trans H;with_reducible exact H2_)|with_reducible exact H|(rw [hy161];exact H)|exact H
       have Ny161:=Aside0.mk hy161
       clear hy161
       have H':=Aside0.mk H
       clear H
       obtain ⟨Ao17,co17,eo17⟩:=Kd.R_slice HO_3.out
       subst eo17
       go_wp2_with (first|((with_reducible refine gate_builtin (b:=.append) (xs:=#[.tmp 15,.tmp 16]) rfl ?_);at_builtin;refine Kd.R_append (Kd.int .u8) (w0:=w) w.heap.size rfl (.tmp 15) (.tmp 16) 49 5 (.int .u8 0) 1 rfl Tryd.underlying49 info5 rfl (by decide) (by omega) (.slice Ao17 x3_1.length co17) x3_1 0 [.int .u8 0] (fun _ => True) (fun _ => False) rfl rfl ?aP (fun _ hk => hk.elim) ?aF ?aO ?aB ?aS ?aL ?_;(case aP => exact rfl);(case aB => exact (by repeat (first|(with_reducible first|exact HB.out|apply below_alloc|apply pw_below_drewN|apply below_drew1)|exact HB.out)));(case aF => exact (fun _ _ => trivial));(case aO => exact (by (with_reducible repeat (first|apply Kd.R_alloc|apply Kd.R_drewN|apply Kd.R_drew));exact HO_3.out));(case aS => exact (below_size (by repeat (first|(with_reducible first|exact HB.out|apply below_alloc|apply pw_below_drewN|apply below_drew1)|exact HB.out))));(case aL => have:=LMc16.out;omega);intro v162 w18 ho hb hg hat;rw [← Ny161.out] at ho;have n0_:=Aside0.mk (hb);have n1_:=Aside0.mk (ho);clear HB;clear HO_3;have HB:=n0_;have HO163:=n1_;clear n0_ n1_;clear ho hb hg hat))
       go_roundg k1
       case measure => have:=HK1.out;omega
       case rel => exact ⟨(y161),(by first|exact H'|(subst_vars;exact H')),⟨by have:=HK1.out;omega⟩,⟨by (with_reducible repeat (first|apply Kd.R_alloc|apply Kd.R_drewN|apply Kd.R_drew));exact HO163.out⟩,⟨by repeat (first|(with_reducible first|exact HB.out|apply below_alloc|apply pw_below_drewN|apply below_drew1)|exact HB.out)⟩⟩
      ·rw [if_neg c16] at H
       exact absurd H (by simp)
  ·rw [if_neg c3] at H
   exact absurd H (by simp)
 ·rw [if_neg c2] at H
  exact absurd H (by simp)
end Go.Proofs.YtedfgkjimnjdpaaDoor.X
namespace Go.Proofs.YtedfgkjimnjdpaaDoor.X
open Go.RowKit Go.Proofs.YtedfgkjimnjdpaaDoorW.PrintWords Go.Proofs.YtedfgkjimnjdpaaDoorW.PrintLast Go.Proofs.YtedfgkjimnjdpaaDoorW.PrintMore
attribute [local go_sem] max2_int min2_int max_two min_two max_three min_three max_four min_four
set_option linter.unusedVariables false
set_option linter.unusedSimpArgs false
def racewayref03_turn.f (a0 : Int) (a1 : Int) : Option (Int):=if 0 ≤ a1 then (if 0 ≤ (wrap64 (32 - a1)) then (some (Go.bits .or .u32 (shr .u32 a0 a1) (shl .u32 a0 (wrap64 (32 - a1))))) else (none)) else (none)
set_option maxHeartbeats 8000000 in
set_option maxRecDepth 100000 in
theorem racewayref03_turn.calls (a0 : Int) (a1 : Int) (r : Int) (w : World) (h : racewayref03_turn.f a0 a1 = some r) :
  Calls Tryd.prog 100 #[.int .u32 a0,.int .i64 a1] w fun e w' => e = .returned (.int .u32 r) ∧ Drawn0 w w':=by
 have H : (if 0 ≤ a1 then (if 0 ≤ (wrap64 (32 - a1)) then (some (Go.bits .or .u32 (shr .u32 a0 a1) (shl .u32 a0 (wrap64 (32 - a1))))) else (none)) else (none)) = some r:=h
 clear h
 by_cases c3 : 0 ≤ a1
 ·rw [if_pos c3] at H
  have c3b0:=eq_true c3
  have c3b1 : decide (0 ≤ a1) = true:=decide_eq_true c3
  clear c3
  obtain ⟨ji4,hji4⟩ : ∃ j_ : Int,(shr .u32 a0 a1) = j_:=⟨_,rfl⟩
  replace H : (if 0 ≤ (wrap64 (32 - a1)) then (some (Go.bits .or .u32 (ji4) (shl .u32 a0 (wrap64 (32 - a1))))) else (none)) = some r:=by first|(rw [hji4] at H;exact H)|(simp only [hji4] at H ⊢;exact H)
  have hji4_ : (a0 / 2 ^ min a1.toNat 32) = ji4:=hji4
  have hji4z : a1 ≤ 32 → (a0 / 2 ^ a1.toNat) = ji4:=shr_small hji4
  obtain ⟨ji5,hji5⟩ : ∃ j_ : Int,(wrap64 (32 - a1)) = j_:=⟨_,rfl⟩
  replace H : (if 0 ≤ (ji5) then (some (Go.bits .or .u32 (ji4) (shl .u32 a0 (ji5)))) else (none)) = some r:=by first|(rw [hji5] at H;exact H)|(simp only [hji5] at H ⊢;exact H)
  have hji5w : (IntKind.i64.wrap (32 - a1)) = ji5:=(i64_w _).trans hji5
  by_cases c6 : 0 ≤ (ji5)
  ·rw [if_pos c6] at H
   have c6b0:=eq_true c6
   have c6b1 : decide (0 ≤ (ji5)) = true:=decide_eq_true c6
   clear c6
   obtain ⟨ji7,hji7⟩ : ∃ j_ : Int,(shl .u32 a0 (ji5)) = j_:=⟨_,rfl⟩
   replace H : (some (Go.bits .or .u32 (ji4) (ji7))) = some r:=by first|(rw [hji7] at H;exact H)|(simp only [hji7] at H ⊢;exact H)
   have hji7_ : (IntKind.u32.wrap (a0 * 2 ^ min (ji5).toNat 32)) = ji7:=hji7
   have hji7z : (ji5) ≤ 32 → (IntKind.u32.wrap (a0 * 2 ^ (ji5).toNat)) = ji7:=shl_small hji7
   obtain rfl:=Option.some.inj H
   go_enter Tryd.func100,Tryd.ntmps100
   go_wp2
   repeat (go_quiet (fail);try go_wp2)
   go_ret
   exact ⟨by first|rfl|(simp;done)|(simp only [← hji4,← hji5,← hji7] <;> (first|rfl|simp))|(simp [*];done),by repeat (first|exact Drawn0.refl _|apply Drawn0.step)⟩
  ·rw [if_neg c6] at H
   exact absurd H (by simp)
 ·rw [if_neg c3] at H
  exact absurd H (by simp)
end Go.Proofs.YtedfgkjimnjdpaaDoor.X
