/-
  What the claim's law rests on, part 5 of 6: printed walks, externals, plain lemmas; conditions: none of its own.
-/
import Derived.Lib.SliceRun
import Derived.OwnWalk
import Derived.Test.YtolpefnedpgaaaaDoorCz4
namespace Go.Proofs.YtolpefnedpgaaaaDoor.X
open Go.RowKit Go.Proofs.YtolpefnedpgaaaaDoorW.PrintWords Go.Proofs.YtolpefnedpgaaaaDoorW.PrintLast Go.Proofs.YtolpefnedpgaaaaDoorW.PrintMore
set_option linter.unusedVariables false
set_option linter.unusedSimpArgs false
def vA (x : S33) : List Value:=[.string x.f0,.string x.f1,.string x.f2]
def cellsA (xs : List S33) : List Value:=xs.flatMap vA
theorem cellsA_len (xs : List S33) : (cellsA xs).length = 3 * xs.length:=by
 induction xs with
 | nil => rfl
 | cons x l ih => simp only [cellsA,List.flatMap_cons,List.length_append,List.length_cons] at ih ⊢;rw [ih];simp [vA];omega
theorem cellsA_at : ∀ (xs : List S33) (t : List Value) (j : Nat) (d : S33),j < xs.length → ∀ k,k < 3 → (cellsA xs ++ t)[3 * j + k]? = (vA (xs.getD j d))[k]?
 | [],_,_,_,h,_,_ => by simp at h
 | x :: l,t,0,d,h,k,hk => by
  simp only [cellsA,List.flatMap_cons,List.getD_cons_zero,Nat.mul_zero,Nat.zero_add,List.append_assoc]
  rw [List.getElem?_append_left (by simp [vA];omega)]
 | x :: l,t,j + 1,d,h,k,hk => by
  have ih:=cellsA_at l t j d (by simpa using h) k hk
  simp only [cellsA,List.flatMap_cons,List.getD_cons_succ,List.append_assoc] at ih ⊢
  rw [List.getElem?_append_right (by simp [vA];omega),← ih]
  congr 1
  simp [vA]
  omega
theorem blk_setCells_mid (g : Nat) (t : TypeId) : ∀ (vs : List Value) (o : Nat) (w : World) (cs : List Value),o + vs.length ≤ cs.length → w.heap[g]? = some (.cells cs.toArray t (0,0)) → (w.setCells g o vs).heap[g]? = some (.cells (cs.take o ++ vs ++ cs.drop (o + vs.length)).toArray t (0,0))
 | [],o,w,cs,hl,h => by
  rw [World.setCells,h]
  simp
 | v :: r,o,w,cs,hl,h => by
  rw [World.setCells]
  simp only [List.length_cons] at hl ⊢
  have h1:=blk_set h o v
  rw [show cs.toArray.setIfInBounds o v = (cs.set o v).toArray by simp] at h1
  rw [blk_setCells_mid g t r (o + 1) _ _ (by simp;omega) h1]
  congr 2
  rw [List.take_set,List.take_add_one,List.getElem?_eq_getElem (by omega),List.drop_set_of_lt (by omega)]
  simp only [Option.toList_some]
  rw [List.set_append,if_neg (by simp;omega),List.length_take,Nat.min_eq_left (by omega),Nat.sub_self,List.append_assoc,List.append_assoc,List.append_assoc,show o + 1 + r.length = o + (r.length + 1) by omega]
  rfl
theorem cellsA_set : ∀ (xs : List S33) (t : List Value) (j : Nat) (y : S33),j < xs.length → (cellsA xs ++ t).take (3 * j) ++ vA y ++ (cellsA xs ++ t).drop (3 * j + 3) = cellsA (xs.set j y) ++ t
 | [],_,_,_,h => by simp at h
 | x :: l,t,0,y,h => by simp [cellsA,vA]
 | x :: l,t,j + 1,y,h => by
  have ih:=cellsA_set l t j y (by simpa using h)
  simp only [cellsA,List.flatMap_cons,List.set_cons_succ,List.append_assoc] at ih ⊢
  rw [← ih,show 3 * (j + 1) = 3 * j + 1 + 1 + 1 by omega,show 3 * j + 1 + 1 + 1 + 3 = 3 * j + 3 + 1 + 1 + 1 by omega]
  simp [vA]
theorem set_A {w : World} {g : Nat} {ys : List S33} {t : List Value} (h : w.heap[g]? = some (.cells (cellsA ys ++ t).toArray 33 (0,0))) (j : Nat) (y : S33) (hj : j < ys.length) :
  (w.setCells g (3 * j) (vA y)).heap[g]? = some (.cells (cellsA (ys.set j y) ++ t).toArray 33 (0,0)):=by
 have:=blk_setCells_mid g _ (vA y) (3 * j) w _ (by rw [List.length_append,cellsA_len];simp [vA];omega) h
 rw [this,← cellsA_set ys t j y hj]
 rfl
theorem infoA : ∃ ie,Tryd.prog.info? 33 = some ie ∧ ie.size = 3:=Option.map_eq_some_iff.1 (show (Tryd.prog.info? 33).map (·.size) = some 3 by kernel_rfl)
theorem store_A {w : World} {g : Nat} {ys : List S33} {t : List Value} (h : w.heap[g]? = some (.cells (cellsA ys ++ t).toArray 33 (0,0))) (j : Nat) (y : S33) (hj : j < ys.length) :
  (storeVar 33 ⟨g,3 * j,none⟩ (.agg (vA y).toArray)).run Tryd.prog w = .ok () (w.setCells g (3 * j) (vA y)):=by
 obtain ⟨ie,hie,hsz⟩:=infoA
 refine Lib.rl_storeVar_cells (P:=Tryd.prog) 33 ie hie g (3 * j) (vA y) (by rw [hsz];rfl) (fun v hv => ?_) w (fun k hk => ?_) (fun k hk => blk_frozen h _)
 ·simp only [vA,List.mem_cons,List.mem_nil_iff,or_false] at hv
  rcases hv with rfl|rfl|rfl <;> rfl
 ·rw [blk_cell h,List.getElem?_toArray,List.getElem?_eq_getElem (by rw [List.length_append,cellsA_len];simp [vA] at hk;omega)]
  rfl
theorem setA1 {w : World} {g : Nat} {ys : List S33} {t : List Value} (h : w.heap[g]? = some (.cells (cellsA ys ++ t).toArray 33 (0,0))) (m : Nat) (y : S33) (hj : m + 1 < ys.length) :
  (w.drew.setCells g (3 * m + 3) (vA y)).heap[g]? = some (.cells (cellsA (ys.set (m + 1) y) ++ t).toArray 33 (0,0)):=by
 have:=set_A (w:=w.drew) h (m + 1) y hj
 rw [show 3 * (m + 1) = 3 * m + 3 by omega] at this
 exact this
theorem storeA1 {w : World} {g : Nat} {ys : List S33} {t : List Value} (h : w.heap[g]? = some (.cells (cellsA ys ++ t).toArray 33 (0,0))) (m : Nat) (y : S33) (hj : m + 1 < ys.length) :
  (storeVar 33 ⟨g,3 * m + 3,none⟩ (.agg (vA y).toArray)).run Tryd.prog w.drew = .ok () (w.drew.setCells g (3 * m + 3) (vA y)):=by
 have:=store_A (w:=w.drew) h (m + 1) y hj
 rw [show 3 * (m + 1) = 3 * m + 3 by omega] at this
 exact this
theorem store_run_value {P : Program} {a : Act} {o : Oper} {w : World} (t : TypeId) (x y : Operand) (ho : o.op = .store t x y) (ad : Addr) (hx : a.eval x = .pointer (some ad)) (v : Value) (hy : a.eval y = v) {w' : World}
  (hr : (storeVar t ad v).run P w = .ok () w') : (execOp a.eval o).run P w = .ok .skip w':=by
 unfold execOp
 simp only [ho,hx,hy,Instr.storeAt,Instr.sureAddr,Sem.run_bind,Sem.run_pure,Result.andThen_ok,hr]
def cmpA (x y : S33) : Int:=Lib.compareBytes x.f0.data.toList y.f0.data.toList
def swapA (xs : List S33) (j : Nat) : List S33:=(xs.set j (xs.getD (j - 1) z33)).set (j - 1) (xs.getD j z33)
def sinkA : Nat → List S33 → List S33
 | 0,xs => xs
 | j + 1,xs => if cmpA (xs.getD (j + 1) z33) (xs.getD j z33) < 0 then sinkA j (swapA xs (j + 1)) else xs
def sortedTo (xs : List S33) : Nat → List S33
 | 0 => xs
 | i + 1 => sinkA (i + 1) (sortedTo xs i)
def sortA (xs : List S33) : List S33:=sortedTo xs (xs.length - 1)
theorem swapA_len (xs : List S33) (j : Nat) : (swapA xs j).length = xs.length:=by simp [swapA]
theorem sinkA_len : ∀ (j : Nat) (xs : List S33),(sinkA j xs).length = xs.length
 | 0,xs => rfl
 | j + 1,xs => by
  rw [sinkA]
  split
  ·rw [sinkA_len j,swapA_len]
  ·rfl
theorem sortedTo_len (xs : List S33) : ∀ i,(sortedTo xs i).length = xs.length
 | 0 => rfl
 | i + 1 => by rw [sortedTo,sinkA_len,sortedTo_len xs i]
set_option maxHeartbeats 1000000 in
set_option maxRecDepth 100000 in
theorem cmp_calls (x y : S33) (w : World) : Calls Tryd.prog 44 #[.agg (vA x).toArray,.agg (vA y).toArray] w fun e w' => e = .returned (.int .i64 (cmpA x y)) ∧ Below w.heap.size w w':=by
 unfold vA
 go_enter Tryd.func44,Tryd.ntmps44
 go_wp2_with (go_at_call 45;refine (Tryd.strings_Compare _ _ _).mono ?_;rintro e w1 ⟨rfl,rfl⟩)
 go_ret
 exact ⟨rfl,((Below.refl _ _).alloc (Nat.le_refl _) _).alloc (by rw [World.size_alloc];omega) _⟩
section
variable {P : Program} {ops : Array Oper} {Q : Exit → Act → World → Prop}
theorem gov_ {oi : Oper} {N : Option Tmp} {a : Act} {w : World} {K : Act → World → Prop} {f : FuncId} {fn : Func} {c : Operand} {ar : Array Operand} {ts : Array TypeId} (hf : P.funcs[f]? = some fn) (hname : (fn.name == "runtime.NumGoroutine") = false) (hb : fn.body.isSome = true) (args : Array Value)
  (hw : Region.wanted oi (yielded ops a.tmps) = true) (hN : oi.dst = N) (hop : oi.op = .call { callee:=.value c,args:=ar,argTypes:=ts }) (hcv : a.eval c = .func (.func f) #[] #[]) (hargs : ar.map a.eval = args)
  (h : Calls P f args w fun e w' => ∃ v,e = .returned v ∧ K (a.put N v) w') : if Region.wanted oi (yielded ops a.tmps) = true then Oper.wp P oi a w K Q else K (a.put N undef) w:=by
 refine call_ f args hw hN ?_ h
 have he:=enters_ hf hname hb args w
 unfold execOp
 simp [hop,resolve,Deferred.ofValue,invoke,hcv,hargs,he]
end
theorem rowA {W : World} {g m : Nat} {ys : List S33} {t : List Value} (h : W.heap[g]? = some (.cells (cellsA ys ++ t).toArray 33 (0,0))) (hm : m + 1 < ys.length) (x y : S33) (hx : ys.getD (m + 1) z33 = x) (hy : ys.getD m z33 = y) :
  W.cell? ⟨g,3 * m + 3,none⟩ = some (.string x.f0) ∧ W.cell? ⟨g,3 * m + 4,none⟩ = some (.string x.f1) ∧ W.cell? ⟨g,3 * m + 5,none⟩ = some (.string x.f2) ∧ W.cell? ⟨g,3 * m,none⟩ = some (.string y.f0) ∧ W.cell? ⟨g,3 * m + 1,none⟩ = some (.string y.f1) ∧ W.cell? ⟨g,3 * m + 2,none⟩ = some (.string y.f2):=by
 subst hx hy
 have c:=fun j k hj hk => (blk_cell h (3 * j + k)).trans ((List.getElem?_toArray ..).trans (cellsA_at ys t j z33 hj k hk))
 exact ⟨c (m + 1) 0 hm (by omega),c (m + 1) 1 hm (by omega),c (m + 1) 2 hm (by omega),c m 0 (by omega) (by omega),c m 1 (by omega) (by omega),c m 2 (by omega) (by omega)⟩
theorem at_attr (g n cap : Nat) (i : Int) (j : Nat) (W : World) (hj : i = j) (hl : j < n) :
  (Instr.indexAt 26 (.slice (some ⟨g,0,none⟩) n cap) (.int .i64 i)).run Tryd.prog W = .ok (.pointer (some ⟨g,3 * j,none⟩)) W:=by
 have hs : ∀ W,(sizeOf (Tryd.prog.elem 26)).run Tryd.prog W = .ok 3 W:=fun W => by kernel_rfl
 rw [run_indexAt_slice W 26 ⟨g,0,none⟩ n cap .i64 i (by kernel_rfl),hs,if_pos (by omega)]
 subst hj
 simp only [Result.andThen,Int.toNat_natCast]
 unfold Addr.add
 split
 ·rename_i hz
  rw [show 3 * j = 0 by omega]
 ·simp [Nat.mul_comm]
set_option pp.maxSteps 100000 in
set_option pp.deepTerms true in
set_option maxHeartbeats 4000000 in
set_option maxRecDepth 100000 in
theorem ins_calls (g n cap : Nat) (xs : List S33) (t : List Value) (w : World) (hn : n = xs.length) (h1 : n ≤ 1000) (hg : w.heap[g]? = some (.cells (cellsA xs ++ t).toArray 33 (0,0))) :
  Calls Tryd.prog 97 #[.slice (some ⟨g,0,none⟩) n cap,.int .i64 0,.int .i64 n,.func (.func 44) #[] #[]] w fun e w' => e = .returned (.tuple #[]) ∧ w'.heap[g]? = some (.cells (cellsA (sortA xs) ++ t).toArray 33 (0,0)) ∧ Upd g w w':=by
 go_enter Tryd.func97,Tryd.ntmps97
 have HN:=Lib.hid hn
 have HN1:=Lib.hid hn.symm
 clear hn
 have hglt : g < w.heap.size:=(Array.getElem?_eq_some_iff.mp hg).1
 go_wp2
 go_loopw [8] (fun i wr => ∃ k,i = .int .i64 (k : Nat) ∧ 1 ≤ k ∧ (k ≤ n ∨ k = 1) ∧ wr.heap[g]? = some (.cells (cellsA (sortedTo xs (k - 1)) ++ t).toArray 33 (0,0)) ∧ Upd g w wr)
  (fun i _ => (n - intOf i).toNat)
 case atStart => exact ⟨1,rfl,by omega,.inr rfl,hg,Upd.refl _ _⟩
 case round =>
  obtain ⟨k,rfl,hk1,hk,hG,hu⟩:=hrel
  by_cases hlt : k < n
  ·have hd : decide ((k : Int) < n) = true:=by simp;omega
   go_wp2
   go_loopw [9] (fun j wr => ∃ (m : Nat) (ys : List S33),j = .int .i64 (m : Nat) ∧ m ≤ k ∧ ys.length = n ∧ sinkA m ys = sortedTo xs k ∧ wr.heap[g]? = some (.cells (cellsA ys ++ t).toArray 33 (0,0)) ∧ Upd g w wr)
    (fun j _ => (intOf j).toNat)
   case atStart =>
    refine ⟨k,sortedTo xs (k - 1),rfl,Nat.le_refl _,by rw [sortedTo_len];exact HN1.out,?_,hG,hu⟩
    obtain ⟨q,rfl⟩ : ∃ q,k = q + 1:=⟨k - 1,by omega⟩
    rfl
   case round =>
    obtain ⟨m,ys,rfl,hmk,hyl,hsink,hG,hu⟩:=hrel
    have HYL:=Lib.hid hyl
    have hyl1 : n ≤ ys.length:=by omega
    clear hyl
    have HSK:=Lib.hid hsink
    clear hsink
    rcases m with _|m
    ·have HGz:=Lib.hid hG
     clear hG
     go_wp2
     refine start_ (n:=17) (S:=fun w' => True) (ds:=[]) #[false,false,false,false,false,false,false,false,false,false,false,false,false,false,false,false,false] (by kernel_rfl) rfl rfl trivial (fun hHeld => ?_)
     refine pure_ (i:=0) (N:=some 18) (v:=?_) (a':=?_) #[true,false,false,false,false,false,false,false,false,false,false,false,false,false,false,false,false] rfl rfl (by kernel_rfl) (fun _ _ _ h => h) (Or.inl ⟨by rfl,?_⟩) ?_ ?_
     rotate_left
     ·intro w'
      go_simp
      with_reducible rfl
     rotate_left
     ·simp only [Act.put,List.setIfInBounds_toArray,List.set_cons_zero,List.set_cons_succ,i64_w,i32_w]
      rfl
     refine pure_ (i:=1) (N:=some 19) (v:=?_) (a':=?_) #[true,true,false,false,false,false,false,false,false,false,false,false,false,false,false,false,false] rfl rfl (by kernel_rfl) (fun _ _ _ h => h) (Or.inl ⟨by rfl,?_⟩) ?_ ?_
     rotate_left
     ·intro w'
      go_simp
      with_reducible rfl
     rotate_left
     ·simp only [Act.put,List.setIfInBounds_toArray,List.set_cons_zero,List.set_cons_succ,i64_w,i32_w]
      rfl
     refine pure_ (i:=2) (N:=some 20) (v:=?_) (a':=?_) #[true,true,true,false,false,false,false,false,false,false,false,false,false,false,false,false,false] rfl rfl (by kernel_rfl) (fun _ _ _ h => h) (Or.inl ⟨by rfl,?_⟩) ?_ ?_
     rotate_left
     ·intro w'
      go_simp
      with_reducible rfl
     rotate_left
     ·simp only [Act.put,List.setIfInBounds_toArray,List.set_cons_zero,List.set_cons_succ,i64_w,i32_w]
      rfl
     refine pure_ (i:=3) (N:=some 21) (v:=?_) (a':=?_) #[true,true,true,true,false,false,false,false,false,false,false,false,false,false,false,false,false] rfl rfl (by kernel_rfl) (fun _ _ _ h => h) (Or.inl ⟨by rfl,?_⟩) ?_ ?_
     rotate_left
     ·intro w'
      go_simp
      with_reducible rfl
     rotate_left
     ·simp only [Act.put,List.setIfInBounds_toArray,List.set_cons_zero,List.set_cons_succ,i64_w,i32_w]
      rfl
     refine pure_ (i:=4) (N:=some 22) (v:=undef) (a':=?_) #[true,true,true,true,true,false,false,false,false,false,false,false,false,false,false,false,false] rfl rfl (by kernel_rfl) (fun _ _ _ h => h) (Or.inr ⟨by rfl,rfl⟩) ?_ ?_
     rotate_left
     ·simp only [Act.put,List.setIfInBounds_toArray,List.set_cons_zero,List.set_cons_succ,i64_w,i32_w]
      rfl
     refine pure_ (i:=5) (N:=some 23) (v:=undef) (a':=?_) #[true,true,true,true,true,true,false,false,false,false,false,false,false,false,false,false,false] rfl rfl (by kernel_rfl) (fun _ _ _ h => h) (Or.inr ⟨by rfl,rfl⟩) ?_ ?_
     rotate_left
     ·simp only [Act.put,List.setIfInBounds_toArray,List.set_cons_zero,List.set_cons_succ,i64_w,i32_w]
      rfl
     refine pure_ (i:=6) (N:=some 24) (v:=undef) (a':=?_) #[true,true,true,true,true,true,true,false,false,false,false,false,false,false,false,false,false] rfl rfl (by kernel_rfl) (fun _ _ _ h => h) (Or.inr ⟨by rfl,rfl⟩) ?_ ?_
     rotate_left
     ·simp only [Act.put,List.setIfInBounds_toArray,List.set_cons_zero,List.set_cons_succ,i64_w,i32_w]
      rfl
     refine pure_ (i:=7) (N:=some 25) (v:=undef) (a':=?_) #[true,true,true,true,true,true,true,true,false,false,false,false,false,false,false,false,false] rfl rfl (by kernel_rfl) (fun _ _ _ h => h) (Or.inr ⟨by rfl,rfl⟩) ?_ ?_
     rotate_left
     ·simp only [Act.put,List.setIfInBounds_toArray,List.set_cons_zero,List.set_cons_succ,i64_w,i32_w]
      rfl
     refine pure_ (i:=8) (N:=some 26) (v:=undef) (a':=?_) #[true,true,true,true,true,true,true,true,true,false,false,false,false,false,false,false,false] rfl rfl (by kernel_rfl) (fun _ _ _ h => h) (Or.inr ⟨by rfl,rfl⟩) ?_ ?_
     rotate_left
     ·simp only [Act.put,List.setIfInBounds_toArray,List.set_cons_zero,List.set_cons_succ,i64_w,i32_w]
      rfl
     refine pure_ (i:=9) (N:=some 27) (v:=undef) (a':=?_) #[true,true,true,true,true,true,true,true,true,true,false,false,false,false,false,false,false] rfl rfl (by kernel_rfl) (fun _ _ _ h => h) (Or.inr ⟨by rfl,rfl⟩) ?_ ?_
     rotate_left
     ·simp only [Act.put,List.setIfInBounds_toArray,List.set_cons_zero,List.set_cons_succ,i64_w,i32_w]
      rfl
     refine pure_ (i:=10) (N:=some 28) (v:=undef) (a':=?_) #[true,true,true,true,true,true,true,true,true,true,true,false,false,false,false,false,false] rfl rfl (by kernel_rfl) (fun _ _ _ h => h) (Or.inr ⟨by rfl,rfl⟩) ?_ ?_
     rotate_left
     ·simp only [Act.put,List.setIfInBounds_toArray,List.set_cons_zero,List.set_cons_succ,i64_w,i32_w]
      rfl
     refine pure_ (i:=11) (N:=some 29) (v:=undef) (a':=?_) #[true,true,true,true,true,true,true,true,true,true,true,true,false,false,false,false,false] rfl rfl (by kernel_rfl) (fun _ _ _ h => h) (Or.inr ⟨by rfl,rfl⟩) ?_ ?_
     rotate_left
     ·simp only [Act.put,List.setIfInBounds_toArray,List.set_cons_zero,List.set_cons_succ,i64_w,i32_w]
      rfl
     refine pure_ (i:=12) (N:=some 30) (v:=undef) (a':=?_) #[true,true,true,true,true,true,true,true,true,true,true,true,true,false,false,false,false] rfl rfl (by kernel_rfl) (fun _ _ _ h => h) (Or.inr ⟨by rfl,rfl⟩) ?_ ?_
     rotate_left
     ·simp only [Act.put,List.setIfInBounds_toArray,List.set_cons_zero,List.set_cons_succ,i64_w,i32_w]
      rfl
     refine pure_ (i:=13) (N:=some 31) (v:=undef) (a':=?_) #[true,true,true,true,true,true,true,true,true,true,true,true,true,true,false,false,false] rfl rfl (by kernel_rfl) (fun _ _ _ h => h) (Or.inr ⟨by rfl,rfl⟩) ?_ ?_
     rotate_left
     ·simp only [Act.put,List.setIfInBounds_toArray,List.set_cons_zero,List.set_cons_succ,i64_w,i32_w]
      rfl
     refine pure_ (i:=14) (N:=some 32) (v:=undef) (a':=?_) #[true,true,true,true,true,true,true,true,true,true,true,true,true,true,true,false,false] rfl rfl (by kernel_rfl) (fun _ _ _ h => h) (Or.inr ⟨by rfl,rfl⟩) ?_ ?_
     rotate_left
     ·simp only [Act.put,List.setIfInBounds_toArray,List.set_cons_zero,List.set_cons_succ,i64_w,i32_w]
      rfl
     refine pure_ (i:=15) (N:=some 33) (v:=undef) (a':=?_) #[true,true,true,true,true,true,true,true,true,true,true,true,true,true,true,true,false] rfl rfl (by kernel_rfl) (fun _ _ _ h => h) (Or.inr ⟨by rfl,rfl⟩) ?_ ?_
     rotate_left
     ·simp only [Act.put,List.setIfInBounds_toArray,List.set_cons_zero,List.set_cons_succ,i64_w,i32_w]
      rfl
     refine pure_ (i:=16) (N:=some 34) (v:=?_) (a':=?_) #[true,true,true,true,true,true,true,true,true,true,true,true,true,true,true,true,true] rfl rfl (by kernel_rfl) (fun _ _ _ h => h) (Or.inl ⟨by rfl,?_⟩) ?_ ?_
     rotate_left
     ·intro w'
      go_simp
      with_reducible rfl
     rotate_left
     ·simp only [Act.put,List.setIfInBounds_toArray,List.set_cons_zero,List.set_cons_succ,i64_w,i32_w]
      rfl
     refine done_ (by kernel_rfl) ?_
     change Exit.then _ _ Exit.normal _ wr.drew
     have huz : Upd g w wr.drew:=⟨hu.os,hu.tape,hu.output,hu.size,hu.block⟩
     have hGz : wr.drew.heap[g]? = some (.cells (cellsA ys ++ t).toArray 33 (0,0)):=HGz.out
     have HG:=Lib.hid hGz
     clear hGz HGz
     generalize wr.drew = w3 at *
     go_wp2
     go_roundw
     case rel =>
      refine ⟨k + 1,rfl,by omega,.inl (by omega),?_,huz⟩
      rw [show k + 1 - 1 = k by omega,← HSK.out]
      exact HG.out
     case measure => simp [intOf];omega
    ·have hd0 : decide (0 < ((m + 1 : Nat) : Int)) = true:=by simp
     obtain ⟨x,hx⟩ : ∃ x,ys.getD (m + 1) z33 = x:=⟨_,rfl⟩
     obtain ⟨y,hy⟩ : ∃ y,ys.getD m z33 = y:=⟨_,rfl⟩
     have hrow:=fun (W : World) (h : W.heap[g]? = some (.cells (cellsA ys ++ t).toArray 33 (0,0))) => rowA h (by omega) x y hx hy
     have hB0 : wr.drew.heap[g]? = some (.cells (cellsA ys ++ t).toArray 33 (0,0)):=hG
     obtain ⟨hc0,hc1,hc2,hc3,hc4,hc5⟩:=hrow wr.drew hB0
     have e1 : wrap64 (m : Int) = (m : Int):=by unfold wrap64;omega
     have e2 : IntKind.i64.wrap (m : Int) = (m : Int):=IntWalk.i64_in _ (by omega)
     have la:=fun W => at_attr g n cap ((m : Int) + 1) (m + 1) W (by omega) (by omega)
     have lb:=fun W => at_attr g n cap (m : Int) m W rfl (by omega)
     rw [show 3 * (m + 1) = 3 * m + 3 by omega] at la
     have HX:=Lib.hid hx
     have HY:=Lib.hid hy
     clear hx hy
     go_wp2
     refine start_ (n:=17) (S:=fun w' => w'.cell? ⟨g,3 * m + 3,none⟩ = some (.string x.f0) ∧ w'.cell? ⟨g,3 * m + 4,none⟩ = some (.string x.f1) ∧ w'.cell? ⟨g,3 * m + 5,none⟩ = some (.string x.f2) ∧ w'.cell? ⟨g,3 * m,none⟩ = some (.string y.f0) ∧ w'.cell? ⟨g,3 * m + 1,none⟩ = some (.string y.f1) ∧ w'.cell? ⟨g,3 * m + 2,none⟩ = some (.string y.f2)) (ds:=[]) #[false,false,false,false,false,false,false,false,false,false,false,false,false,false,false,false,false] (by kernel_rfl) rfl rfl ⟨hc0,hc1,hc2,hc3,hc4,hc5⟩ (fun hHeld => ?_)
     refine pure_ (i:=0) (N:=some 18) (v:=?_) (a':=?_) #[true,false,false,false,false,false,false,false,false,false,false,false,false,false,false,false,false] rfl rfl (by kernel_rfl) (fun _ _ _ h => h) (Or.inl ⟨by rfl,?_⟩) ?_ ?_
     rotate_left
     ·intro w'
      go_simp
      with_reducible rfl
     rotate_left
     ·simp only [Act.put,List.setIfInBounds_toArray,List.set_cons_zero,List.set_cons_succ,i64_w,i32_w]
      rfl
     refine pure_ (i:=1) (N:=some 19) (v:=?_) (a':=?_) #[true,true,false,false,false,false,false,false,false,false,false,false,false,false,false,false,false] rfl rfl (by kernel_rfl) (fun _ _ _ h => h) (Or.inl ⟨by rfl,?_⟩) ?_ ?_
     rotate_left
     ·intro w'
      go_simp
      with_reducible rfl
     rotate_left
     ·simp only [Act.put,List.setIfInBounds_toArray,List.set_cons_zero,List.set_cons_succ,i64_w,i32_w]
      rfl
     refine pure_ (i:=2) (N:=some 20) (v:=?_) (a':=?_) #[true,true,true,false,false,false,false,false,false,false,false,false,false,false,false,false,false] rfl rfl (by kernel_rfl) (fun _ _ _ h => h) (Or.inl ⟨by rfl,?_⟩) ?_ ?_
     rotate_left
     ·intro w'
      go_simp
      with_reducible rfl
     rotate_left
     ·simp only [Act.put,List.setIfInBounds_toArray,List.set_cons_zero,List.set_cons_succ,i64_w,i32_w]
      rfl
     refine pure_ (i:=3) (N:=some 21) (v:=?_) (a':=?_) #[true,true,true,true,false,false,false,false,false,false,false,false,false,false,false,false,false] rfl rfl (by kernel_rfl) (fun _ _ _ h => h) (Or.inl ⟨by rfl,?_⟩) ?_ ?_
     rotate_left
     ·intro w'
      go_simp
      with_reducible rfl
     rotate_left
     ·simp only [Act.put,List.setIfInBounds_toArray,List.set_cons_zero,List.set_cons_succ,i64_w,i32_w]
      rfl
     refine pure_ (i:=4) (N:=some 22) (v:=?_) (a':=?_) #[true,true,true,true,true,false,false,false,false,false,false,false,false,false,false,false,false] rfl rfl (by kernel_rfl) (fun _ _ _ h => h) (Or.inl ⟨by rfl,?_⟩) ?_ ?_
     rotate_left
     ·intro w'
      go_simp
      with_reducible rfl
     rotate_left
     ·simp only [Act.put,List.setIfInBounds_toArray,List.set_cons_zero,List.set_cons_succ,i64_w,i32_w]
      rfl
     refine pure_ (i:=5) (N:=some 23) (v:=?_) (a':=?_) #[true,true,true,true,true,true,false,false,false,false,false,false,false,false,false,false,false] rfl rfl (by kernel_rfl) (fun _ _ _ h => h) (Or.inl ⟨by rfl,?_⟩) ?_ ?_
     rotate_left
     ·intro w'
      go_simp
      with_reducible rfl
     rotate_left
     ·simp only [Act.put,List.setIfInBounds_toArray,List.set_cons_zero,List.set_cons_succ,i64_w,i32_w]
      rfl
     refine pure_ (i:=6) (N:=some 24) (v:=?_) (a':=?_) #[true,true,true,true,true,true,true,false,false,false,false,false,false,false,false,false,false] rfl rfl (by kernel_rfl) (fun _ _ _ h => h) (Or.inl ⟨by rfl,?_⟩) ?_ ?_
     rotate_left
     ·intro w'
      go_simp
      with_reducible rfl
     rotate_left
     ·simp only [Act.put,List.setIfInBounds_toArray,List.set_cons_zero,List.set_cons_succ,i64_w,i32_w]
      rfl
     refine pure_ (i:=7) (N:=some 25) (v:=?_) (a':=?_) #[true,true,true,true,true,true,true,true,false,false,false,false,false,false,false,false,false] rfl rfl (by kernel_rfl) (fun _ _ _ h => h) (Or.inl ⟨by rfl,?_⟩) ?_ ?_
     rotate_left
     ·intro w'
      go_simp
      with_reducible rfl
     rotate_left
     ·simp only [Act.put,List.setIfInBounds_toArray,List.set_cons_zero,List.set_cons_succ,i64_w,i32_w]
      rfl
     refine pure_ (i:=9) (N:=some 27) (v:=?_) (a':=?_) #[true,true,true,true,true,true,true,true,false,true,false,false,false,false,false,false,false] rfl rfl (by kernel_rfl) (fun _ _ _ h => h) (Or.inl ⟨by rfl,?_⟩) ?_ ?_
     rotate_left
     ·intro w'
      go_simp
      with_reducible rfl
     rotate_left
     ·simp only [Act.put,List.setIfInBounds_toArray,List.set_cons_zero,List.set_cons_succ,i64_w,i32_w]
      rfl
     refine pure_ (i:=10) (N:=some 28) (v:=?_) (a':=?_) #[true,true,true,true,true,true,true,true,false,true,true,false,false,false,false,false,false] rfl rfl (by kernel_rfl) (fun _ _ _ h => h) (Or.inl ⟨by rfl,?_⟩) ?_ ?_
     rotate_left
     ·intro w'
      go_simp
      with_reducible rfl
     rotate_left
     ·simp only [Act.put,List.setIfInBounds_toArray,List.set_cons_zero,List.set_cons_succ,i64_w,i32_w]
      rfl
     refine pure_ (i:=11) (N:=some 29) (v:=?_) (a':=?_) #[true,true,true,true,true,true,true,true,false,true,true,true,false,false,false,false,false] rfl rfl (by kernel_rfl) (fun _ _ _ h => h) (Or.inl ⟨by rfl,?_⟩) ?_ ?_
     rotate_left
     ·intro w'
      go_simp
      with_reducible rfl
     rotate_left
     ·simp only [Act.put,List.setIfInBounds_toArray,List.set_cons_zero,List.set_cons_succ,i64_w,i32_w]
      rfl
     refine pure_ (i:=12) (N:=some 30) (v:=?_) (a':=?_) #[true,true,true,true,true,true,true,true,false,true,true,true,true,false,false,false,false] rfl rfl (by kernel_rfl) (fun _ _ _ h => h) (Or.inl ⟨by rfl,?_⟩) ?_ ?_
     rotate_left
     ·intro w'
      go_simp
      with_reducible rfl
     rotate_left
     ·simp only [Act.put,List.setIfInBounds_toArray,List.set_cons_zero,List.set_cons_succ,i64_w,i32_w]
      rfl
     refine take_ (i:=8) (N:=some 26) (v:=?_) (a':=?_) #[true,true,true,true,true,true,true,true,true,true,true,true,true,false,false,false,false] rfl rfl (by kernel_rfl) (fun _ _ _ h => h) (Or.inl ⟨by rfl,?_⟩) hHeld ?_ ?_
     rotate_left
     ·rintro w' ⟨s0,s1,s2,s3,s4,s5⟩
      go_simp
      with_reducible rfl
     rotate_left
     ·simp only [Act.put,List.setIfInBounds_toArray,List.set_cons_zero,List.set_cons_succ,i64_w,i32_w]
      rfl
     refine take_ (i:=13) (N:=some 31) (v:=?_) (a':=?_) #[true,true,true,true,true,true,true,true,true,true,true,true,true,true,false,false,false] rfl rfl (by kernel_rfl) (fun _ _ _ h => h) (Or.inl ⟨by rfl,?_⟩) hHeld ?_ ?_
     rotate_left
     ·rintro w' ⟨s0,s1,s2,s3,s4,s5⟩
      go_simp
      with_reducible rfl
     rotate_left
     ·simp only [Act.put,List.setIfInBounds_toArray,List.set_cons_zero,List.set_cons_succ,i64_w,i32_w]
      rfl
     refine one_ (i:=14) (N:=some 32) #[true,true,true,true,true,true,true,true,true,true,true,true,true,true,true,false,false] rfl rfl (by kernel_rfl) (by decide) (fun K hK => ?_)
     refine gov_ Tryd.func44 (by kernel_rfl) rfl #[.agg (vA x).toArray,.agg (vA y).toArray] (by rfl) rfl rfl rfl (by simp only [List.map_toArray,List.map_cons,List.map_nil];rfl) ?_
     refine (cmp_calls x y _).mono ?_
     rintro e w3 ⟨rfl,hb3⟩
     refine ⟨_,rfl,?_⟩
     have hbd:=hb3
     have hlt3 : g < wr.drew.heap.size:=(Array.getElem?_eq_some_iff.mp hB0).1
     have hB3:=(hb3.block g hlt3).trans hB0
     refine hK.out _ _ ⟨(hrow w3 hB3).1,(hrow w3 hB3).2.1,(hrow w3 hB3).2.2.1,(hrow w3 hB3).2.2.2.1,(hrow w3 hB3).2.2.2.2.1,(hrow w3 hB3).2.2.2.2.2⟩ (fun hHeld => ?_)
     clear hK K
     refine norm_ (a':=?_) ?_ ?_
     rotate_left
     ·show Act.put _ (some 32) _ = _
      simp only [Act.put,List.setIfInBounds_toArray,List.set_cons_zero,List.set_cons_succ,i64_w,i32_w]
      rfl
     refine pure_ (i:=15) (N:=some 33) (v:=?_) (a':=?_) #[true,true,true,true,true,true,true,true,true,true,true,true,true,true,true,true,false] rfl rfl (by kernel_rfl) (fun _ _ _ h => h) (Or.inl ⟨by rfl,?_⟩) ?_ ?_
     rotate_left
     ·intro w'
      go_simp
      with_reducible rfl
     rotate_left
     ·simp only [Act.put,List.setIfInBounds_toArray,List.set_cons_zero,List.set_cons_succ,i64_w,i32_w]
      rfl
     refine pure_ (i:=16) (N:=some 34) (v:=?_) (a':=?_) #[true,true,true,true,true,true,true,true,true,true,true,true,true,true,true,true,true] rfl rfl (by kernel_rfl) (fun _ _ _ h => h) (Or.inl ⟨by rfl,?_⟩) ?_ ?_
     rotate_left
     ·intro w'
      go_simp
      with_reducible rfl
     rotate_left
     ·simp only [Act.put,List.setIfInBounds_toArray,List.set_cons_zero,List.set_cons_succ,i64_w,i32_w]
      rfl
     refine done_ (by kernel_rfl) ?_
     have hu3 : Upd g wr w3:=Upd.of_below (B:=g) (w:=wr) ⟨hbd.os,hbd.tape,hbd.output,hbd.size,hbd.block⟩
     have hG3:=Lib.hid hG
     clear hc0 hc1 hc2 hc3 hc4 hc5 hB0 hG hb3 hbd hHeld
     by_cases hneg : cmpA x y < 0
     ·have hdn : decide (cmpA x y < 0) = true:=by simpa using hneg
      have HB3:=Lib.hid hB3
      clear hB3
      go_wp2
      obtain ⟨hc0,hc1,hc2,hc3,hc4,hc5⟩:=hrow w3.drew HB3.out
      refine start_ (n:=18) (S:=fun w' => w'.cell? ⟨g,3 * m + 3,none⟩ = some (.string x.f0) ∧ w'.cell? ⟨g,3 * m + 4,none⟩ = some (.string x.f1) ∧ w'.cell? ⟨g,3 * m + 5,none⟩ = some (.string x.f2) ∧ w'.cell? ⟨g,3 * m,none⟩ = some (.string y.f0) ∧ w'.cell? ⟨g,3 * m + 1,none⟩ = some (.string y.f1) ∧ w'.cell? ⟨g,3 * m + 2,none⟩ = some (.string y.f2)) (ds:=[15,17]) #[false,false,false,false,false,false,false,false,false,false,false,false,false,false,false,false,false,false] (by kernel_rfl) rfl rfl ⟨hc0,hc1,hc2,hc3,hc4,hc5⟩ (fun hHeld => ?_)
      refine pure_ (i:=0) (N:=some 37) (v:=?_) (a':=?_) #[true,false,false,false,false,false,false,false,false,false,false,false,false,false,false,false,false,false] rfl rfl (by kernel_rfl) (fun _ _ _ h => h) (Or.inl ⟨by rfl,?_⟩) ?_ ?_
      rotate_left
      ·intro w'
       go_simp
       with_reducible rfl
      rotate_left
      ·simp only [Act.put,List.setIfInBounds_toArray,List.set_cons_zero,List.set_cons_succ,i64_w,i32_w]
       rfl
      refine pure_ (i:=1) (N:=some 38) (v:=?_) (a':=?_) #[true,true,false,false,false,false,false,false,false,false,false,false,false,false,false,false,false,false] rfl rfl (by kernel_rfl) (fun _ _ _ h => h) (Or.inl ⟨by rfl,?_⟩) ?_ ?_
      rotate_left
      ·intro w'
       go_simp
       with_reducible rfl
      rotate_left
      ·simp only [Act.put,List.setIfInBounds_toArray,List.set_cons_zero,List.set_cons_succ,i64_w,i32_w]
       rfl
      refine pure_ (i:=2) (N:=some 39) (v:=?_) (a':=?_) #[true,true,true,false,false,false,false,false,false,false,false,false,false,false,false,false,false,false] rfl rfl (by kernel_rfl) (fun _ _ _ h => h) (Or.inl ⟨by rfl,?_⟩) ?_ ?_
      rotate_left
      ·intro w'
       go_simp
       with_reducible rfl
      rotate_left
      ·simp only [Act.put,List.setIfInBounds_toArray,List.set_cons_zero,List.set_cons_succ,i64_w,i32_w]
       rfl
      refine pure_ (i:=3) (N:=some 40) (v:=?_) (a':=?_) #[true,true,true,true,false,false,false,false,false,false,false,false,false,false,false,false,false,false] rfl rfl (by kernel_rfl) (fun _ _ _ h => h) (Or.inl ⟨by rfl,?_⟩) ?_ ?_
      rotate_left
      ·intro w'
       go_simp
       with_reducible rfl
      rotate_left
      ·simp only [Act.put,List.setIfInBounds_toArray,List.set_cons_zero,List.set_cons_succ,i64_w,i32_w]
       rfl
      refine pure_ (i:=4) (N:=some 41) (v:=?_) (a':=?_) #[true,true,true,true,true,false,false,false,false,false,false,false,false,false,false,false,false,false] rfl rfl (by kernel_rfl) (fun _ _ _ h => h) (Or.inl ⟨by rfl,?_⟩) ?_ ?_
      rotate_left
      ·intro w'
       go_simp
       with_reducible rfl
      rotate_left
      ·simp only [Act.put,List.setIfInBounds_toArray,List.set_cons_zero,List.set_cons_succ,i64_w,i32_w]
       rfl
      refine pure_ (i:=5) (N:=some 42) (v:=?_) (a':=?_) #[true,true,true,true,true,true,false,false,false,false,false,false,false,false,false,false,false,false] rfl rfl (by kernel_rfl) (fun _ _ _ h => h) (Or.inl ⟨by rfl,?_⟩) ?_ ?_
      rotate_left
      ·intro w'
       go_simp
       with_reducible rfl
      rotate_left
      ·simp only [Act.put,List.setIfInBounds_toArray,List.set_cons_zero,List.set_cons_succ,i64_w,i32_w]
       rfl
      refine pure_ (i:=6) (N:=some 43) (v:=?_) (a':=?_) #[true,true,true,true,true,true,true,false,false,false,false,false,false,false,false,false,false,false] rfl rfl (by kernel_rfl) (fun _ _ _ h => h) (Or.inl ⟨by rfl,?_⟩) ?_ ?_
      rotate_left
      ·intro w'
       go_simp
       with_reducible rfl
      rotate_left
      ·simp only [Act.put,List.setIfInBounds_toArray,List.set_cons_zero,List.set_cons_succ,i64_w,i32_w]
       rfl
      refine pure_ (i:=7) (N:=some 44) (v:=?_) (a':=?_) #[true,true,true,true,true,true,true,true,false,false,false,false,false,false,false,false,false,false] rfl rfl (by kernel_rfl) (fun _ _ _ h => h) (Or.inl ⟨by rfl,?_⟩) ?_ ?_
      rotate_left
      ·intro w'
       go_simp
       with_reducible rfl
      rotate_left
      ·simp only [Act.put,List.setIfInBounds_toArray,List.set_cons_zero,List.set_cons_succ,i64_w,i32_w]
       rfl
      refine pure_ (i:=8) (N:=some 45) (v:=?_) (a':=?_) #[true,true,true,true,true,true,true,true,true,false,false,false,false,false,false,false,false,false] rfl rfl (by kernel_rfl) (fun _ _ _ h => h) (Or.inl ⟨by rfl,?_⟩) ?_ ?_
      rotate_left
      ·intro w'
       go_simp
       with_reducible rfl
      rotate_left
      ·simp only [Act.put,List.setIfInBounds_toArray,List.set_cons_zero,List.set_cons_succ,i64_w,i32_w]
       rfl
      refine pure_ (i:=10) (N:=some 47) (v:=?_) (a':=?_) #[true,true,true,true,true,true,true,true,true,false,true,false,false,false,false,false,false,false] rfl rfl (by kernel_rfl) (fun _ _ _ h => h) (Or.inl ⟨by rfl,?_⟩) ?_ ?_
      rotate_left
      ·intro w'
       go_simp
       with_reducible rfl
      rotate_left
      ·simp only [Act.put,List.setIfInBounds_toArray,List.set_cons_zero,List.set_cons_succ,i64_w,i32_w]
       rfl
      refine pure_ (i:=11) (N:=some 48) (v:=?_) (a':=?_) #[true,true,true,true,true,true,true,true,true,false,true,true,false,false,false,false,false,false] rfl rfl (by kernel_rfl) (fun _ _ _ h => h) (Or.inl ⟨by rfl,?_⟩) ?_ ?_
      rotate_left
      ·intro w'
       go_simp
       with_reducible rfl
      rotate_left
      ·simp only [Act.put,List.setIfInBounds_toArray,List.set_cons_zero,List.set_cons_succ,i64_w,i32_w]
       rfl
      refine pure_ (i:=12) (N:=some 49) (v:=?_) (a':=?_) #[true,true,true,true,true,true,true,true,true,false,true,true,true,false,false,false,false,false] rfl rfl (by kernel_rfl) (fun _ _ _ h => h) (Or.inl ⟨by rfl,?_⟩) ?_ ?_
      rotate_left
      ·intro w'
       go_simp
       with_reducible rfl
      rotate_left
      ·simp only [Act.put,List.setIfInBounds_toArray,List.set_cons_zero,List.set_cons_succ,i64_w,i32_w]
       rfl
      refine take_ (i:=9) (N:=some 46) (v:=?_) (a':=?_) #[true,true,true,true,true,true,true,true,true,true,true,true,true,false,false,false,false,false] rfl rfl (by kernel_rfl) (fun _ _ _ h => h) (Or.inl ⟨by rfl,?_⟩) hHeld ?_ ?_
      rotate_left
      ·rintro w' ⟨s0,s1,s2,s3,s4,s5⟩
       go_simp
       with_reducible rfl
      rotate_left
      ·simp only [Act.put,List.setIfInBounds_toArray,List.set_cons_zero,List.set_cons_succ,i64_w,i32_w]
       rfl
      refine take_ (i:=13) (N:=some 50) (v:=?_) (a':=?_) #[true,true,true,true,true,true,true,true,true,true,true,true,true,true,false,false,false,false] rfl rfl (by kernel_rfl) (fun _ _ _ h => h) (Or.inl ⟨by rfl,?_⟩) hHeld ?_ ?_
      rotate_left
      ·rintro w' ⟨s0,s1,s2,s3,s4,s5⟩
       go_simp
       with_reducible rfl
      rotate_left
      ·simp only [Act.put,List.setIfInBounds_toArray,List.set_cons_zero,List.set_cons_succ,i64_w,i32_w]
       rfl
      refine pure_ (i:=14) (N:=some 51) (v:=?_) (a':=?_) #[true,true,true,true,true,true,true,true,true,true,true,true,true,true,true,false,false,false] rfl rfl (by kernel_rfl) (fun _ _ _ h => h) (Or.inl ⟨by rfl,?_⟩) ?_ ?_
      rotate_left
      ·intro w'
       go_simp
       with_reducible rfl
      rotate_left
      ·simp only [Act.put,List.setIfInBounds_toArray,List.set_cons_zero,List.set_cons_succ,i64_w,i32_w]
       rfl
      refine last_ (i:=15) (N:=none) #[true,true,true,true,true,true,true,true,true,true,true,true,true,true,true,true,false,false] rfl rfl (by kernel_rfl) (by decide) (fun K hK => ?_)
      refine skip_ (w1:=w3.drew.setCells g (3 * m + 3) (vA y)) (by rfl) rfl ?_ ?_
      ·exact store_run_value _ _ _ rfl _ rfl _ rfl (storeA1 HB3.out m y (by omega))
      refine hK.out _ _ ?_
      clear hK K
      refine pure_ (i:=16) (N:=some 52) (v:=?_) (a':=?_) #[true,true,true,true,true,true,true,true,true,true,true,true,true,true,true,true,true,false] rfl rfl (by kernel_rfl) (fun _ _ _ h => h) (Or.inl ⟨by rfl,?_⟩) ?_ ?_
      rotate_left
      ·intro w'
       go_simp
       with_reducible rfl
      rotate_left
      ·simp only [Act.put,List.setIfInBounds_toArray,List.set_cons_zero,List.set_cons_succ,i64_w,i32_w]
       rfl
      refine last_ (i:=17) (N:=none) #[true,true,true,true,true,true,true,true,true,true,true,true,true,true,true,true,true,true] rfl rfl (by kernel_rfl) (by decide) (fun K hK => ?_)
      refine skip_ (w1:=(w3.drew.setCells g (3 * m + 3) (vA y)).setCells g (3 * m) (vA x)) (by rfl) rfl ?_ ?_
      ·exact store_run_value _ _ _ rfl _ rfl _ rfl (store_A (setA1 HB3.out m y (by omega)) m x (by simp;omega))
      refine hK.out _ _ ?_
      clear hK K
      refine done_ (by kernel_rfl) ?_
      have hfin:=set_A (setA1 HB3.out m y (by omega)) m x (by simp;omega)
      have hsw : (ys.set (m + 1) y).set m x = swapA ys (m + 1):=by rw [← HX.out,← HY.out];rfl
      have hnx : sinkA (m + 1) ys = sinkA m (swapA ys (m + 1)):=by
       rw [sinkA,HX.out,HY.out,if_pos hneg]
      rw [hsw] at hfin
      have hu4 : Upd g w3 ((w3.drew.setCells g (3 * m + 3) (vA y)).setCells g (3 * m) (vA x)):=upd_setCells _ _ _ (upd_setCells _ _ w3.drew ⟨rfl,rfl,rfl,Nat.le_refl _,fun _ _ _ => rfl⟩)
      have HF:=Lib.hid hfin
      have HNX:=Lib.hid hnx
      have HU4:=Lib.hid hu4
      generalize (w3.drew.setCells g (3 * m + 3) (vA y)).setCells g (3 * m) (vA x) = w5 at *
      clear hfin hsw hnx hu4 hc0 hc1 hc2 hc3 hc4 hc5
      go_wp2
      go_roundw
      case rel => exact ⟨m,swapA ys (m + 1),by congr 1,by omega,by rw [swapA_len];exact HYL.out,HNX.out.symm.trans HSK.out,HF.out,(hu.trans hu3).trans HU4.out⟩
      case measure => simp [intOf]
     ·have hdn : decide (cmpA x y < 0) = false:=by simpa using hneg
      have HB3:=Lib.hid hB3
      clear hB3
      go_wp2
      go_roundw
      case rel =>
       refine ⟨k + 1,rfl,by omega,.inl (by omega),?_,hu.trans hu3⟩
       rw [show k + 1 - 1 = k by omega,← HSK.out,sinkA,HX.out,HY.out,if_neg hneg]
       exact HB3.out
      case measure => simp [intOf];omega
  ·have hkn : sortedTo xs (k - 1) = sortA xs:=by
    have:=HN1.out
    unfold sortA
    rw [this]
    rcases hk with hk|hk
    ·rw [show k = n by omega]
    ·subst hk
     rw [show n - 1 = 0 by omega]
   rw [hkn] at hG
   have HG:=Lib.hid hG
   clear hG hkn
   have hd : decide ((k : Int) < n) = false:=by simp;omega
   go_wp2
   go_end0
   exact ⟨rfl,HG.out,hu⟩
end Go.Proofs.YtolpefnedpgaaaaDoor.X
namespace Go.Proofs.YtolpefnedpgaaaaDoor.X
open Go.RowKit Go.Proofs.YtolpefnedpgaaaaDoorW.PrintWords Go.Proofs.YtolpefnedpgaaaaDoorW.PrintLast Go.Proofs.YtolpefnedpgaaaaDoorW.PrintMore
set_option linter.unusedVariables false
set_option linter.unusedSimpArgs false
set_option maxHeartbeats 2000000 in
set_option maxRecDepth 100000 in
theorem clone_calls (A0 : Option Addr) (c0 : Nat) (l : List S33) (w : World) (hr : Kd.C k33 w A0 l.length l) (hc : l.length ≤ c0) (hl : l.length ≤ 1000) :
  Calls Tryd.prog 42 #[.slice A0 l.length c0] w fun e w' => ∃ v0_ : Value,e = .returned v0_ ∧ Kd.R k33 33 w' w.heap.size (fun _ => True) v0_ l ∧ Below w.heap.size w w':=by
 go_enter Tryd.func42,Tryd.ntmps42
 have he:=fun W => Lib.run_eql_slice_nil (P:=Tryd.prog) W 26 33 A0 l.length c0 0 0 Tryd.underlying26
 rcases A0 with _|ad
 ·have h0 : l = []:=by
   rcases l with _|⟨x,l⟩
   ·rfl
   ·obtain ⟨ad,h,_⟩:=hr.2.2 (by simp)
    cases h
  subst h0
  simp only [List.length_nil] at he
  go_wp2
  go_ret
  exact ⟨_,rfl,Kd.R_nil _ _ _ _ _,Below.refl _ _⟩
 ·go_upto_region 3 with (fail)
  have hnew:=heap_alloc_new w (.cells #[] 33 (0,0))
  have hbel : Below w.heap.size w (w.alloc (.cells #[] 33 (0,0))):=(Below.refl _ _).alloc (Nat.le_refl _) _
  have hown : Kd.R k33 33 (w.alloc (.cells #[] 33 (0,0))) w.heap.size (fun _ => True) (.slice (some ⟨w.heap.size,0,none⟩) 0 0) []:=by
   refine ⟨fun _ _ => trivial,[],⟨rfl,.inr ⟨w.heap.size,0,_,rfl,Nat.le_refl _,hnew,Nat.le_refl _,by unfold maxLen;omega,rfl,rfl⟩⟩,Reps.none _ _⟩
  refine wp_region_lit ?_
  refine wpList_step (fun K hK => ?_)
  go_simp
  refine hK _ _ ?_
  clear hK K
  refine wpList_step (fun K hK => ?_)
  go_simp
  refine hK _ _ ?_
  clear hK K
  refine Kd.R_append_rows k33 (Rr:=k33.K w) (w0:=w) w.heap.size rfl _ _ _ 33 _ 48 rfl Tryd.underlying26 info33 rfl (by decide) (by decide) (.slice (some ⟨w.heap.size,0,none⟩) 0 0) [] l (some ad) l.length c0 (fun _ => True) (fun _ => False) rfl rfl hown (Kd.C_below hr hbel) (fun x cs h => by rw [k33_open h];exact k33_mkM _ _ _ _) (fun _ h => h.elim) (fun _ _ => trivial) hbel (by rw [World.size_alloc];omega) (by simp;omega) ?_
  intro v1 w1 h1 hb1 hg1 hat
  refine wpList_step (fun K hK => ?_)
  go_simp
  refine hK _ _ ?_
  clear hK K
  refine wpList_nil ?_
  go_wp2
  go_ret
  exact ⟨_,rfl,h1,hb1⟩
end Go.Proofs.YtolpefnedpgaaaaDoor.X
namespace Go.Proofs.YtolpefnedpgaaaaDoor.X
open Go.RowKit Go.Proofs.YtolpefnedpgaaaaDoorW.PrintWords Go.Proofs.YtolpefnedpgaaaaDoorW.PrintLast Go.Proofs.YtolpefnedpgaaaaDoorW.PrintMore
set_option linter.unusedVariables false
set_option linter.unusedSimpArgs false
set_option maxHeartbeats 2000000 in
set_option maxRecDepth 100000 in
theorem stable_calls (g n cap : Nat) (xs : List S33) (t : List Value) (w : World) (hn : n = xs.length) (h1 : n < 20) (hg : w.heap[g]? = some (.cells (cellsA xs ++ t).toArray 33 (0,0))) :
  Calls Tryd.prog 74 #[.slice (some ⟨g,0,none⟩) n cap,.int .i64 n,.func (.func 44) #[] #[]] w fun e w' => e = .returned (.tuple #[]) ∧ w'.heap[g]? = some (.cells (cellsA (sortA xs) ++ t).toArray 33 (0,0)) ∧ Upd g w w':=by
 have HI:=Lib.hid (ins_calls g n cap xs t w hn (by omega) hg)
 have hd : decide (20 ≤ (n : Int)) = false:=by simp;omega
 have hd2 : decide (20 < (n : Int)) = false:=by simp;omega
 clear hg hn
 go_enter Tryd.func74,Tryd.ntmps74
 go_wp2
 refine wp_loop_rounds 1 ?_
 rw [rounds_succ]
 go_wp2_with (go_at_call 97;refine HI.out.mono ?_;rintro e w1 ⟨rfl,hG,hu⟩)
 refine wp_loop_rounds 1 ?_
 rw [rounds_succ]
 have HG:=Lib.hid hG
 clear hG
 go_wp2
 go_end0
 exact ⟨rfl,HG.out,hu⟩
theorem cellsA_of : ∀ (xs : List S33) (inner : List Value) (R : S33 → List Value → Prop),(∀ x cs,R x cs → cs = vA x) → Reps R 3 xs inner → inner = cellsA xs
 | [],inner,R,h,hr => by
  have:=hr.1
  simp at this
  rw [this]
  rfl
 | x :: l,inner,R,h,hr => by
  have h0:=h _ _ (hr.2 0 x rfl)
  have:=cellsA_of l (inner.drop 3) R h ⟨by have:=hr.1;simp at this ⊢;omega,fun j y hy => by
   have:=hr.2 (j + 1) y hy
   rw [List.drop_drop,show 3 + j * 3 = (j + 1) * 3 by omega]
   exact this⟩
  rw [show inner = inner.take 3 ++ inner.drop 3 by simp,this]
  simp only [Nat.zero_mul,List.drop_zero] at h0
  rw [h0]
  rfl
theorem reps_of (R : S33 → List Value → Prop) (h : ∀ x,R x (vA x)) : ∀ (xs : List S33),Reps R 3 xs (cellsA xs)
 | [] => Reps.none _ _
 | x :: l => ⟨by rw [cellsA_len];simp;omega,fun j y hy => by
  rcases j with _|j
  ·simp at hy
   subst hy
   have:=h x
   simpa [cellsA,vA] using this
  ·have:=(reps_of R h l).2 j y (by simpa using hy)
   simp only [cellsA,List.flatMap_cons]
   rw [show (j + 1) * 3 = j * 3 + 1 + 1 + 1 by omega]
   simpa [vA,cellsA] using this⟩
set_option maxHeartbeats 2000000 in
set_option maxRecDepth 100000 in
theorem sortStable_calls (g n cap : Nat) (xs : List S33) (t : List Value) (w : World) (hn : n = xs.length) (h1 : n < 20) (hg : w.heap[g]? = some (.cells (cellsA xs ++ t).toArray 33 (0,0))) :
  Calls Tryd.prog 43 #[.slice (some ⟨g,0,none⟩) n cap,.func (.func 44) #[] #[]] w fun e w' => e = .returned (.tuple #[]) ∧ w'.heap[g]? = some (.cells (cellsA (sortA xs) ++ t).toArray 33 (0,0)) ∧ Upd g w w':=by
 have HI:=Lib.hid (stable_calls g n cap xs t w hn h1 hg)
 clear hg hn
 go_enter Tryd.func43,Tryd.ntmps43
 go_wp2_with (go_at_call 74;refine HI.out.mono ?_;rintro e w1 ⟨rfl,hG,hu⟩)
 go_end0
 exact ⟨rfl,hG,hu⟩
theorem ins_none (w : World) : Calls Tryd.prog 97 #[.slice none 0 0,.int .i64 0,.int .i64 0,.func (.func 44) #[] #[]] w fun e w' => e = .returned (.tuple #[]) ∧ w' = w:=by
 go_enter Tryd.func97,Tryd.ntmps97
 go_wp2
 refine wp_loop_rounds 1 ?_
 rw [rounds_succ]
 go_wp2
 go_end0
 exact ⟨rfl,rfl⟩
theorem sortStable_none (w : World) : Calls Tryd.prog 43 #[.slice none 0 0,.func (.func 44) #[] #[]] w fun e w' => e = .returned (.tuple #[]) ∧ w' = w:=by
 have key : Calls Tryd.prog 74 #[.slice none 0 0,.int .i64 0,.func (.func 44) #[] #[]] w fun e w' => e = .returned (.tuple #[]) ∧ w' = w:=by
  go_enter Tryd.func74,Tryd.ntmps74
  go_wp2
  refine wp_loop_rounds 1 ?_
  rw [rounds_succ]
  go_wp2_with (go_at_call 97;refine (ins_none _).mono ?_;rintro e w1 ⟨rfl,rfl⟩)
  refine wp_loop_rounds 1 ?_
  rw [rounds_succ]
  go_wp2
  go_end0
  exact ⟨rfl,rfl⟩
 go_enter Tryd.func43,Tryd.ntmps43
 go_wp2_with (go_at_call 74;refine key.mono ?_;rintro e w1 ⟨rfl,rfl⟩)
 go_end0
 exact ⟨rfl,rfl⟩
def attribute_Sort.f (l : List S33) : Option (List S33):=if l.length < 20 then some (sortA l) else none
set_option maxHeartbeats 2000000 in
set_option maxRecDepth 100000 in
theorem attribute_Sort.calls (A0 : Option Addr) (c0 : Nat) (l0 : List S33) (r : List S33) (w : World) (hr0 : Kd.C k33 w A0 l0.length l0) (hc0 : l0.length ≤ c0) (h : attribute_Sort.f l0 = some r) :
  Calls Tryd.prog 19 #[.slice A0 l0.length c0] w fun e w' => ∃ v0_ : Value,e = .returned v0_ ∧ Kd.R k33 33 w' w.heap.size (fun _ => True) v0_ r ∧ Below w.heap.size w w':=by
 unfold attribute_Sort.f at h
 split at h
 ·rename_i hl
  obtain rfl:=Option.some.inj h
  have HC:=Lib.hid (clone_calls A0 c0 l0 w hr0 hc0 (by omega))
  clear hr0 h
  go_enter Tryd.func19,Tryd.ntmps19
  go_wp2_with (go_at_call 42;refine HC.out.mono ?_;rintro e w1 ⟨v,rfl,hR,hb⟩)
  obtain ⟨hok,inner,hown,hrep⟩:=hR
  have hin:=cellsA_of l0 inner _ (fun x cs h => k33_openM h) hrep
  subst hin
  have hsl : (sortA l0).length = l0.length:=sortedTo_len _ _
  rcases hown.2 with ⟨rfl,h0⟩|⟨g,cap,cur,rfl,hbg,hgc,hcap,hmax,hsz,htk⟩
  ·have hl0 : l0 = []:=List.eq_nil_of_length_eq_zero h0
   subst hl0
   refine (sortStable_none w1).mono ?_
   rintro e w2 ⟨rfl,rfl⟩
   go_wp2
   go_ret
   exact ⟨_,rfl,Kd.R_nil _ _ _ _ _,hb⟩
  ·have hcur : cur = (cellsA l0 ++ cur.toList.drop (l0.length * 3)).toArray:=by
    apply Array.ext'
    rw [show cellsA l0 = cur.toList.take (l0.length * 3) from htk.symm]
    simp
   rw [hcur] at hgc
   have hT : (cellsA (sortA l0) ++ cur.toList.drop (l0.length * 3)).length = cap * 3:=by
    rw [List.length_append,cellsA_len,hsl,List.length_drop]
    have : cur.toList.length = cap * 3:=hsz
    omega
   refine (sortStable_calls g l0.length cap l0 _ w1 rfl hl hgc).mono ?_
   rintro e w2 ⟨rfl,hG,hu⟩
   have HG:=Lib.hid hG
   have HT:=Lib.hid hT
   have HSL:=Lib.hid hsl
   clear hG hT hsl hcur hgc htk hsz hrep hown
   go_wp2
   go_ret
   refine ⟨_,rfl,⟨fun _ _ => trivial,cellsA (sortA l0),⟨?_,.inr ⟨g,cap,_,by rw [HSL.out];rfl,hbg,HG.out,by rw [HSL.out];exact hcap,hmax,?_,?_⟩⟩,reps_of _ (fun x => k33_mkM _ _ _ x) _⟩,hb.trans (hu.below hbg hb.size)⟩
   ·show (cellsA (sortA l0)).length = _
    rw [cellsA_len]
    show _ = (sortA l0).length * 3
    omega
   ·rw [List.size_toArray,HT.out]
    rfl
   ·show List.take ((sortA l0).length * 3) _ = _
    rw [List.take_left' (by rw [cellsA_len];omega)]
 ·exact absurd h (by simp)
end Go.Proofs.YtolpefnedpgaaaaDoor.X
namespace Go.Proofs.YtolpefnedpgaaaaDoor.X
open Go.RowKit Go.Proofs.YtolpefnedpgaaaaDoorW.PrintWords Go.Proofs.YtolpefnedpgaaaaDoorW.PrintLast
set_option linter.unusedVariables false
set_option linter.unusedSimpArgs false
def hexD (n : Nat) : Int:=if n < 10 then 48 + n else 87 + n
def hexL (l : List Int) : List Int:=l.flatMap fun x => [hexD (x / 16).toNat,hexD (x % 16).toNat]
theorem hexL_len (l : List Int) : (hexL l).length = 2 * l.length:=by
 induction l with
 | nil => rfl
 | cons x l ih => simp only [hexL,List.flatMap_cons,List.length_append,List.length_cons] at ih ⊢;rw [ih];simp;omega
theorem u8info : ∃ i,Tryd.prog.info? 5 = some i ∧ i.zero = some (.int .u8 0) ∧ i.size = 1 ∧ i.bytes = 1:=by
 obtain ⟨i,h,h2⟩:=Option.map_eq_some_iff.1 (show (Tryd.prog.info? 5).map (fun i => (i.zero,i.size,i.bytes)) = some (some (.int .u8 0),1,1) by kernel_rfl)
 simp only [Prod.mk.injEq] at h2
 exact ⟨i,h,h2.1,h2.2.1,h2.2.2⟩
theorem append_run_value {P : Program} {a : Act} {o : Oper} {w : World} (s x : Operand) (t : TypeId) (ho : o.op = .call { callee:=.builtin .append,args:=#[s,x],argTypes:=#[t,t] }) (u v : Value) (hs : a.eval s = u) (hx : a.eval x = v) {v' : Value} {w' : World}
  (hr : (Builtin.append_ #[t,t] o.type #[u,v]).run P w = .ok v' w') : (execOp a.eval o).run P w = .ok (.value v') w':=by
 unfold execOp
 simp only [ho,resolve,invoke,builtin,Sem.run_bind,Sem.run_pure,Result.andThen_ok,List.map_toArray,List.map_cons,List.map_nil,hs,hx,hr]
theorem and15 (x : Int) (h0 : 0 ≤ x) (h1 : x < 256) : bits .and .u8 x 15 = x % 16:=by
 obtain ⟨m,rfl⟩:=Int.eq_ofNat_of_zero_le h0
 have : ∀ k : Fin 256,bits .and .u8 ((k.val : Nat) : Int) 15 = ((k.val : Nat) : Int) % 16:=by decide +kernel
 exact this ⟨m,by omega⟩
theorem tens_at (i : Int) (h0 : 0 ≤ i) (h1 : i < 16) (W : World) : (Instr.index 9 (.string ⟨#[48,49,50,51,52,53,54,55,56,57,97,98,99,100,101,102]⟩) (.int .u8 i)).run Tryd.prog W = .ok (.int .u8 (hexD i.toNat)) W:=by
 obtain ⟨m,rfl⟩:=Int.eq_ofNat_of_zero_le h0
 rcases (show m = 0 ∨ m = 1 ∨ m = 2 ∨ m = 3 ∨ m = 4 ∨ m = 5 ∨ m = 6 ∨ m = 7 ∨ m = 8 ∨ m = 9 ∨ m = 10 ∨ m = 11 ∨ m = 12 ∨ m = 13 ∨ m = 14 ∨ m = 15 by omega) with rfl|rfl|rfl|rfl|rfl|rfl|rfl|rfl|rfl|rfl|rfl|rfl|rfl|rfl|rfl|rfl <;> kernel_rfl
theorem hexL_snoc (l : List Int) (x : Int) : hexL (l ++ [x]) = hexL l ++ [hexD (x / 16).toNat,hexD (x % 16).toNat]:=by simp [hexL]
set_option maxHeartbeats 2000000 in
set_option maxRecDepth 100000 in
theorem hex_calls (A0 : Option Addr) (c0 : Nat) (l : List Int) (w : World) (hr : Kd.C (Kd.int .u8) w A0 l.length l) (hc : l.length ≤ c0) (hl : l.length ≤ 100000) (h8 : ∀ x ∈ l,0 ≤ x ∧ x < 256) :
  Calls Tryd.prog 50 #[.slice A0 l.length c0] w fun e w' => e = .returned (.string (strOfNums (hexL l))) ∧ Below w.heap.size w w':=by
 obtain ⟨i8,hi8,hz8,hs8,hb8⟩:=u8info
 go_enter Tryd.func50,Tryd.ntmps50
 go_wp2
 obtain ⟨w1,hmk,hown,hg⟩:=run_make_own (P:=Tryd.prog) w w.heap.size 63 5 i8 (.int .u8 0) 1 Tryd.underlying63 hi8 hz8 hs8 .i64 .i64 (2 * l.length) (by rw [hb8];omega) (by unfold maxLen;omega) (Nat.le_refl _)
 rw [show ((2 * l.length : Nat) : Int) = 2 * (l.length : Int) by omega] at hmk
 rw [hmk]
 simp only [Result.andThen]
 have hbel : Below w.heap.size w w1:=(Below.refl _ _).grown hg (Nat.le_refl _) (by simp)
 go_wp2
 go_loopw [3,12] (fun o i wr => ∃ k,i = .int .i64 (k : Nat) ∧ k ≤ l.length ∧ o = .slice (some ⟨w.heap.size,0,none⟩) (2 * k) (2 * l.length) ∧ wr.ownsRow w.heap.size 5 1 (.slice (some ⟨w.heap.size,0,none⟩) (2 * k) (2 * l.length)) (2 * k) (nums .u8 (hexL (l.take k))) ∧ Below w.heap.size w wr)
  (fun _ i _ => (l.length - intOf i).toNat)
 case atStart => exact ⟨0,rfl,by omega,rfl,by simpa [hexL,nums] using hown,hbel⟩
 case round =>
  obtain ⟨k,rfl,hk,rfl,ho,hb⟩:=hrel
  by_cases hlt : k < l.length
  ·have hd : decide ((k : Int) < l.length) = true:=by simp;omega
   obtain ⟨ad,rfl,hcell⟩:=Kd.at_int (Kd.C_below hr hb) (k : Int) (by omega) (by omega)
   simp only [Int.toNat_natCast] at hcell
   have hx:=h8 (l.getD k 0) (by rw [List.getD_eq_getElem?_getD,List.getElem?_eq_getElem hlt];simp)
   have hrd : rd l (k : Int) = l.getD k 0:=rfl
   rw [hrd] at hcell
   have hsn : hexL (l.take (k + 1)) = hexL (l.take k) ++ [hexD (l.getD k 0 / 16).toNat,hexD (l.getD k 0 % 16).toNat]:=by
    rw [List.take_add_one,List.getElem?_eq_getElem hlt]
    simp only [Option.toList_some]
    rw [hexL_snoc,List.getD_eq_getElem?_getD,List.getElem?_eq_getElem hlt]
    rfl
   generalize l.getD k 0 = x at *
   have hcd : wr.drew.cell? (ad.add k) = some (.int .u8 x):=hcell
   have hm:=and15 x hx.1 hx.2
   have t1:=tens_at (x / 16) (by omega) (by omega)
   have t2:=tens_at (x % 16) (by omega) (by omega)
   generalize hexD (x / 16).toNat = p at *
   generalize hexD (x % 16).toNat = q at *
   have HS:=Lib.hid hsn
   have hlk:=hexL_len (l.take k)
   rw [List.length_take,Nat.min_eq_left (by omega)] at hlk
   have HLK:=Lib.hid hlk
   clear hsn hlk
   go_wp2
   have ho2:=ho.drew
   have hb2:=hb.drew
   have hba : Below wr.drew.heap.size wr.drew (wr.drew.alloc (.cells #[.int .u8 p,.int .u8 q] 5 (0,0))):=(Below.refl _ _).alloc (Nat.le_refl _) _
   have hnew:=heap_alloc_new wr.drew (.cells #[.int .u8 p,.int .u8 q] 5 (0,0))
   obtain ⟨w3,hrun,ho3,hg3⟩:=run_append_fits (P:=Tryd.prog) (wr.drew.alloc (.cells #[.int .u8 p,.int .u8 q] 5 (0,0))) w.heap.size 63 63 5 i8 1 Tryd.underlying63 hi8 hs8 w.heap.size (2 * k) (2 * l.length) (nums .u8 (hexL (l.take k))) (own_move ho2 (fun g hg => hba.block g (own_lt ho2 g hg))) ⟨wr.drew.heap.size,0,none⟩ 2 2 [.int .u8 p,.int .u8 q] rfl
    (fun j u hu => by
     rw [show (Addr.add ⟨wr.drew.heap.size,0,none⟩ j) = ⟨wr.drew.heap.size,j,none⟩ by unfold Addr.add;split <;> simp_all,blk_cell hnew,← hu]
     simp) (fun u hu => by
     simp only [List.mem_cons,List.mem_nil_iff,or_false] at hu
     rcases hu with rfl|rfl <;> rfl) (by omega)
   have hb3 : Below w.heap.size w w3:=(hb2.alloc hb2.size _).grown hg3 (Nat.le_trans hb2.size hba.size) (by simp)
   have HR:=Lib.hid hrun
   have HO3:=Lib.hid ho3
   clear hrun ho3 hg3 hnew hba ho2 ho hb hb2
   refine start_ (n:=10) (S:=fun w' => True) (ds:=[]) #[false,false,false,false,false,false,false,false,false,false] (by kernel_rfl) rfl rfl trivial (fun hHeld => ?_)
   refine pure_ (i:=0) (N:=some 16) (v:=?_) (a':=?_) #[true,false,false,false,false,false,false,false,false,false] rfl rfl (by kernel_rfl) (fun _ _ _ h => h) (Or.inl ⟨by rfl,?_⟩) ?_ ?_
   rotate_left
   ·intro w'
    go_simp
    with_reducible rfl
   rotate_left
   ·simp only [Act.put,List.setIfInBounds_toArray,List.set_cons_zero,List.set_cons_succ,i64_w,i32_w]
    rfl
   refine pure_ (i:=1) (N:=some 17) (v:=?_) (a':=?_) #[true,true,false,false,false,false,false,false,false,false] rfl rfl (by kernel_rfl) (fun _ _ _ h => h) (Or.inl ⟨by rfl,?_⟩) ?_ ?_
   rotate_left
   ·intro w'
    go_simp
    with_reducible rfl
   rotate_left
   ·simp only [Act.put,List.setIfInBounds_toArray,List.set_cons_zero,List.set_cons_succ,i64_w,i32_w]
    rfl
   refine pure_ (i:=2) (N:=some 18) (v:=?_) (a':=?_) #[true,true,true,false,false,false,false,false,false,false] rfl rfl (by kernel_rfl) (fun _ _ _ h => h) (Or.inl ⟨by rfl,?_⟩) ?_ ?_
   rotate_left
   ·intro w'
    go_simp
    with_reducible rfl
   rotate_left
   ·simp only [Act.put,List.setIfInBounds_toArray,List.set_cons_zero,List.set_cons_succ,i64_w,i32_w]
    rfl
   refine pure_ (i:=4) (N:=some 20) (v:=?_) (a':=?_) #[true,true,true,false,true,false,false,false,false,false] rfl rfl (by kernel_rfl) (fun _ _ _ h => h) (Or.inl ⟨by rfl,?_⟩) ?_ ?_
   rotate_left
   ·intro w'
    go_simp
    with_reducible rfl
   rotate_left
   ·simp only [Act.put,List.setIfInBounds_toArray,List.set_cons_zero,List.set_cons_succ,i64_w,i32_w]
    rfl
   refine pure_ (i:=5) (N:=some 21) (v:=?_) (a':=?_) #[true,true,true,false,true,true,false,false,false,false] rfl rfl (by kernel_rfl) (fun _ _ _ h => h) (Or.inl ⟨by rfl,?_⟩) ?_ ?_
   rotate_left
   ·intro w'
    go_simp
    with_reducible rfl
   rotate_left
   ·simp only [Act.put,List.setIfInBounds_toArray,List.set_cons_zero,List.set_cons_succ,i64_w,i32_w]
    rfl
   refine take_ (i:=3) (N:=some 19) (v:=?_) (a':=?_) #[true,true,true,true,true,true,false,false,false,false] rfl rfl (by kernel_rfl) (fun _ _ _ h => h) (Or.inl ⟨by rfl,?_⟩) hHeld ?_ ?_
   rotate_left
   ·intro w' _
    go_simp
    with_reducible rfl
   rotate_left
   ·simp only [Act.put,List.setIfInBounds_toArray,List.set_cons_zero,List.set_cons_succ,i64_w,i32_w]
    rfl
   refine take_ (i:=6) (N:=some 22) (v:=?_) (a':=?_) #[true,true,true,true,true,true,true,false,false,false] rfl rfl (by kernel_rfl) (fun _ _ _ h => h) (Or.inl ⟨by rfl,?_⟩) hHeld ?_ ?_
   rotate_left
   ·intro w' _
    go_simp
    with_reducible rfl
   rotate_left
   ·simp only [Act.put,List.setIfInBounds_toArray,List.set_cons_zero,List.set_cons_succ,i64_w,i32_w]
    rfl
   refine one_ (i:=7) (N:=some 23) #[true,true,true,true,true,true,true,true,false,false] rfl rfl (by kernel_rfl) (by decide) (fun K hK => ?_)
   refine value_ (w1:=?_) (v:=?_) (by rfl) rfl ?_ ?_
   rotate_left 2
   ·go_simp
    constructor
    ·rfl
    ·rfl
   refine hK.out _ _ trivial (fun hHeld => ?_)
   clear hK K
   refine norm_ (a':=?_) ?_ ?_
   rotate_left
   ·show Act.put _ (some 23) _ = _
    simp only [Act.put,List.setIfInBounds_toArray,List.set_cons_zero,List.set_cons_succ,i64_w,i32_w]
    rfl
   refine one_ (i:=8) (N:=some 24) #[true,true,true,true,true,true,true,true,true,false] rfl rfl (by kernel_rfl) (by decide) (fun K hK => ?_)
   refine value_ (w1:=w3) (v:=.slice (some ⟨w.heap.size,0,none⟩) (2 * k + 2) (2 * l.length)) (by rfl) rfl ?_ ?_
   ·exact append_run_value _ _ _ rfl _ _ rfl rfl HR.out
   refine hK.out _ _ trivial (fun hHeld => ?_)
   clear hK K
   refine norm_ (a':=?_) ?_ ?_
   rotate_left
   ·show Act.put _ (some 24) _ = _
    simp only [Act.put,List.setIfInBounds_toArray,List.set_cons_zero,List.set_cons_succ,i64_w,i32_w]
    rfl
   refine pure_ (i:=9) (N:=some 3) (v:=?_) (a':=?_) #[true,true,true,true,true,true,true,true,true,true] rfl rfl (by kernel_rfl) (fun _ _ _ h => h) (Or.inl ⟨by rfl,?_⟩) ?_ ?_
   rotate_left
   ·intro w'
    go_simp
    with_reducible rfl
   rotate_left
   ·simp only [Act.put,List.setIfInBounds_toArray,List.set_cons_zero,List.set_cons_succ,i64_w,i32_w]
    rfl
   refine done_ (by kernel_rfl) ?_
   go_wp2
   go_roundw
   case rel =>
    refine ⟨k + 1,rfl,by omega,by rw [show 2 * (k + 1) = 2 * k + 2 by omega],?_,hb3⟩
    rw [HS.out,show 2 * (k + 1) = 2 * k + 2 by omega]
    have:=HO3.out
    simpa [nums] using this
   case measure => simp [intOf];omega
  ·have hkl : k = l.length:=by omega
   subst hkl
   rw [List.take_length] at ho
   clear hlt hk
   have hcv : (convert 63 9 (.slice (some ⟨w.heap.size,0,none⟩) (2 * l.length) (2 * l.length))).run Tryd.prog wr = .ok (.string (strOfNums (hexL l))) wr:=by
    refine string_of_reads Tryd.underlying63 Tryd.underlying5 Tryd.underlying9 ⟨hexL_len l,by omega,fun _ => ⟨_,rfl,fun j hj => ?_⟩⟩
    have hlj : j < (hexL l).length:=by rw [hexL_len];omega
    refine ho.cells (g:=w.heap.size) rfl j _ ?_
    simp only [nums,List.getElem?_map,List.getD_eq_getElem?_getD]
    rw [List.getElem?_eq_getElem hlj]
    rfl
   clear ho
   go_wp2
   go_ret
   exact ⟨rfl,hb⟩
end Go.Proofs.YtolpefnedpgaaaaDoor.X
namespace Go.Proofs.YtolpefnedpgaaaaDoor.X
open Go.RowKit Go.Proofs.YtolpefnedpgaaaaDoorW.PrintWords Go.Proofs.YtolpefnedpgaaaaDoorW.PrintLast Go.Proofs.YtolpefnedpgaaaaDoorW.PrintMore
set_option linter.unusedVariables false
set_option linter.unusedSimpArgs false
def Fp.text (s : Fp) (b : ByteArray) : Fp:=(s.bytes (numL b.size)).bytes (bytesOf b)
def small33 (x : S33) : Prop:=x.f0.size ≤ 4096 ∧ x.f1.size ≤ 4096 ∧ x.f2.size ≤ 4096
instance (x : S33) : Decidable (small33 x):=by unfold small33;infer_instance
def sumStep (k : Nat) (s : Fp) (x : S33) : Option Fp :=
 if small33 x then (attribute_Type.f k x.f1).bind fun p => some ((((s.text x.f0).text x.f1).bytes [if p.1 = 3 then 2 else 1]).text x.f2) else none
def sumAll (k : Nat) (s : Fp) : List S33 → Option Fp
 | [] => some s
 | x :: l => (sumStep k s x).bind fun s => sumAll k s l
def attribute_Sum.f (k : Nat) (l : List S33) : Option ByteArray :=
 if l.length = 0 then some ⟨#[]⟩ else if l.length < 20 then (sumAll k fp0 (sortA l)).bind fun s => some (strOfNums (hexL s.sum)) else none
theorem Fp.text_ok {s : Fp} (h : s.Ok) (b : ByteArray) : (s.text b).Ok:=Fp.bytes_ok (Fp.bytes_ok h _) _
theorem Fp.text_n (s : Fp) (b : ByteArray) : (s.text b).n = s.n + 4 + b.size:=by unfold Fp.text;rw [Fp.bytes_n,Fp.bytes_n,bytesOf_length];rfl
theorem R_upd {e b B : Nat} {w w' : World} {ok : Nat → Prop} {v : Value} {xs : List S33} (h : Kd.R k33 e w b ok v xs) (hu : Upd B w w') (hB : B < b) : Kd.R k33 e w' b ok v xs :=
 Kd.R_mono (Kd.R_move (Kd.R_bound h) (fun k hk => hu.block k hk.2.2.1 (by have:=hk.2.1;omega))) (fun _ hk => hk.1)
structure SumW (w : World) (wr : World) (st : Fp) (v : Value) (xs : List S33) : Prop where
 ok : st.Ok
 P : wr.heap[w.heap.size]? = some (.cells st.cells 97 (0,0))
 R : Kd.R k33 33 wr (w.heap.size + 1) (fun _ => True) v xs
 T : FpTables wr
 B : Below w.heap.size w wr
theorem SumW.upd {w wr wr' : World} {st st' : Fp} {v : Value} {xs : List S33} (h : SumW w wr st v xs) (hu : Upd w.heap.size wr wr') (hok : st'.Ok) (hP : wr'.heap[w.heap.size]? = some (.cells st'.cells 97 (0,0))) (h1 : 1 < w.heap.size) (h2 : 2 < w.heap.size) : SumW w wr' st' v xs :=
 ⟨hok,hP,R_upd h.R hu (by omega),h.T.upd hu (by omega) (by omega),h.B.trans (hu.below (Nat.le_refl _) h.B.size)⟩
theorem SumW.below {w wr wr' : World} {st : Fp} {v : Value} {xs : List S33} (h : SumW w wr st v xs) (hb : Below wr.heap.size wr wr') (h1 : 1 < w.heap.size) (h2 : 2 < w.heap.size) : SumW w wr' st v xs :=
 h.upd (Upd.of_below hb) h.ok ((hb.block _ (Array.getElem?_eq_some_iff.mp h.P).1).trans h.P) h1 h2
theorem SumW.text {w wr : World} {st : Fp} {v : Value} {xs : List S33} (h : SumW w wr st v xs) (b : ByteArray) (hb : b.size ≤ 4096) (hn : st.n ≤ 900000) (h1 : 1 < w.heap.size) (h2 : 2 < w.heap.size) :
  Calls Tryd.prog 47 #[.pointer (some ⟨w.heap.size,0,none⟩),.string b] wr fun e w' => e = .returned (.int .i64 0) ∧ SumW w w' (st.text b) v xs ∧ Upd w.heap.size wr w':=by
 refine (text_calls w.heap.size st b wr h.ok (by omega) (by omega) h.T (by omega) (by omega) h.P).mono ?_
 rintro e w' ⟨rfl,hP,hu⟩
 exact ⟨rfl,h.upd hu (Fp.text_ok h.ok b) hP h1 h2,hu⟩
theorem SumW.mark {w wr : World} {st : Fp} {v : Value} {xs : List S33} (h : SumW w wr st v xs) (m : Int) (hn : st.n ≤ 900000) (h1 : 1 < w.heap.size) (h2 : 2 < w.heap.size) :
  Calls Tryd.prog 48 #[.pointer (some ⟨w.heap.size,0,none⟩),.slice (some ⟨wr.heap.size,0,none⟩) 1 1] (wr.alloc (.cells #[.int .u8 m] 5 (0,0))) fun e w' => e = .returned (.int .i64 0) ∧ SumW w w' (st.bytes [m]) v xs ∧ Upd w.heap.size wr w':=by
 have hlt : w.heap.size < wr.heap.size:=(Array.getElem?_eq_some_iff.mp h.P).1
 have hb : Below wr.heap.size wr (wr.alloc (.cells (nums .u8 [m]).toArray 5 (0,0))):=(Below.refl _ _).alloc (Nat.le_refl _) _
 have hu:=Upd.of_below (B:=w.heap.size) hb
 refine (write_calls w.heap.size st (some ⟨wr.heap.size,0,none⟩) [m] 1 _ h.ok (by simp;omega) (h.T.upd hu (by omega) (by omega)) (by omega) (by omega) ((hb.block _ hlt).trans h.P) (bytesAt_new w.heap.size wr [m] 5 hlt)).mono ?_
 rintro e w' ⟨rfl,hC,hu'⟩
 have hh:=hu.trans hu'
 exact ⟨rfl,h.upd hh (Fp.bytes_ok h.ok _) hC h1 h2,hh⟩
set_option maxHeartbeats 4000000 in
set_option maxRecDepth 100000 in
theorem attribute_Sum.calls (k : Nat) (A0 : Option Addr) (c0 : Nat) (l0 : List S33) (r : ByteArray) (w : World) (hGFp : GlobFp w) (hr0 : Kd.C k33 w A0 l0.length l0) (hc0 : l0.length ≤ c0) (h : attribute_Sum.f k l0 = some r) :
  Calls Tryd.prog 21 #[.slice A0 l0.length c0] w fun e w' => e = .returned (.string r) ∧ Below w.heap.size w w':=by
 unfold attribute_Sum.f at h
 have h1 : 1 < w.heap.size:=(Array.getElem?_eq_some_iff.mp hGFp.1).1
 have h2 : 2 < w.heap.size:=(Array.getElem?_eq_some_iff.mp hGFp.2).1
 split at h
 ·rename_i hz
  obtain rfl:=Option.some.inj h
  have hq : ((l0.length : Int) == 0) = true:=by rw [hz];rfl
  go_enter Tryd.func21,Tryd.ntmps21
  go_wp2
  go_ret
  exact ⟨rfl,Below.refl _ _⟩
 ·rename_i hz
  have hq : ((l0.length : Int) == 0) = false:=by rw [beq_eq_false_iff_ne];omega
  split at h
  ·rename_i hl
   obtain ⟨fin,hfin,hrr⟩:=Option.bind_eq_some_iff.1 h
   obtain rfl:=Option.some.inj hrr
   have HF:=Lib.hid hfin
   clear h hfin
   have hb0 : Below w.heap.size w (w.alloc (.cells fp0.cells 97 (0,0))):=(Below.refl _ _).alloc (Nat.le_refl _) _
   have HS:=Lib.hid (attribute_Sort.calls A0 c0 l0 (sortA l0) (w.alloc (.cells fp0.cells 97 (0,0))) (Kd.C_below hr0 hb0) hc0 (by unfold attribute_Sort.f;rw [if_pos hl]))
   have hP0:=heap_alloc_new w (.cells fp0.cells 97 (0,0))
   have hz0 : (w.alloc (.cells fp0.cells 97 (0,0))).heap.size = w.heap.size + 1:=World.size_alloc _ _
   have HP0:=Lib.hid hP0
   have HZ0:=Lib.hid hz0
   clear hP0 hz0 hr0
   go_enter Tryd.func21,Tryd.ntmps21
   go_wp2_with (first|(go_at_call 46;refine (new_calls _).mono ?_;rintro e w1 ⟨rfl,rfl⟩)|(go_at_call 19;refine HS.out.mono ?_;rintro e w2 ⟨v,rfl,hR,hb⟩;obtain ⟨A1,c1,hv,_,_⟩:=Kd.R_reads hR;subst hv))
   have hsl : (sortA l0).length = l0.length:=sortedTo_len _ _
   have hI : SumW w w2 fp0 (.slice A1 (sortA l0).length c1) (sortA l0) :=
    ⟨fp0_ok,(hb.block _ (by rw [HZ0.out];omega)).trans HP0.out,by have:=hR;rw [HZ0.out] at this;exact this,(hGFp.below hb0).below hb,hb0.trans (hb.mono (by rw [HZ0.out];omega))⟩
   clear HS HP0 HZ0 hb0 hb hR
   obtain ⟨xs,hxs⟩ : ∃ xs,sortA l0 = xs:=⟨_,rfl⟩
   rw [hxs] at hI hsl HF
   simp only [hxs]
   have hx20 : xs.length < 20:=by omega
   have HXS:=Lib.hid hxs
   have HSL:=Lib.hid hsl
   clear hxs hsl hz hl hq
   go_loopw [17] (fun i wr => ∃ (j : Nat) (st : Fp),i = .int .i64 (j : Nat) ∧ j ≤ xs.length ∧ SumW w wr st (.slice A1 xs.length c1) xs ∧ st.n ≤ 20000 * j ∧ sumAll k st (xs.drop j) = some fin)
    (fun i _ => (xs.length - intOf i).toNat)
   case atStart => exact ⟨0,fp0,rfl,by omega,hI,by simp [fp0],HF.out⟩
   case round =>
    obtain ⟨j,st,rfl,hj,hI,hn,hall⟩:=hrel
    by_cases hlt : j < xs.length
    ·have hd : decide ((j : Int) < xs.length) = true:=by simp;omega
     obtain ⟨x,hx⟩ : ∃ x,rd_T33 xs (j : Int) = x:=⟨_,rfl⟩
     have hdrop : xs.drop j = x :: xs.drop (j + 1):=by
      rw [List.drop_eq_getElem_cons hlt,← hx]
      congr 1
      simp [rd_T33,List.getD_eq_getElem?_getD,List.getElem?_eq_getElem hlt]
     rw [hdrop,sumAll] at hall
     obtain ⟨st',hst,hrest⟩:=Option.bind_eq_some_iff.1 hall
     unfold sumStep at hst
     split at hst
     ·rename_i hsm
      obtain ⟨p,hty,hst'⟩:=Option.bind_eq_some_iff.1 hst
      obtain rfl:=Option.some.inj hst'
      obtain ⟨p1,p2⟩:=p
      obtain ⟨A2,c2,hv,_,hC⟩:=Kd.R_reads hI.R
      injection hv with hv1 hv2 hv3
      subst hv1 hv3
      obtain ⟨ad,rfl,q0,q1,q2⟩:=at_T33 hC (j : Int) (by omega) (by omega)
      rw [hx] at q0 q1 q2
      simp only [Int.toNat_natCast] at q0 q1 q2
      have HTY:=Lib.hid hty
      have HRE:=Lib.hid hrest
      have HXX:=Lib.hid hx
      have HSM:=Lib.hid hsm
      clear hty hrest hst hall hdrop hx hC hsm
      obtain ⟨N,hNe⟩ : ∃ N,wr.heap.size = N:=⟨_,rfl⟩
      have hIa:=hI.below (wr':=wr.alloc (.cells #[.string x.f0,.string x.f1,.string x.f2] 33 (0,0))) ((Below.refl _ _).alloc (Nat.le_refl _) _) h1 h2
      have hNa:=heap_alloc_new wr (.cells #[.string x.f0,.string x.f1,.string x.f2] 33 (0,0))
      have hza : (wr.alloc (.cells #[.string x.f0,.string x.f1,.string x.f2] 33 (0,0))).heap.size = wr.heap.size + 1:=World.size_alloc _ _
      have hne : N ≠ w.heap.size:=by
       have:=(Array.getElem?_eq_some_iff.mp hI.P).1
       omega
      have hsmm:=HSM.out
      obtain ⟨s0,s1,s2⟩:=hsmm
      go_wp2_with fail
      refine (attribute_Type.calls k x.f1 p1 p2 _ HTY.out).mono ?_
      rintro e w3 ⟨rfl,hb3⟩
      have hI3:=hIa.below hb3 h1 h2
      have hN3 : w3.heap[N]? = some (.cells #[.string x.f0,.string x.f1,.string x.f2] 33 (0,0)):=by rw [← hNe];exact (hb3.block _ (by omega)).trans hNa
      have hlt3 : N < w3.heap.size:=(Array.getElem?_eq_some_iff.mp hN3).1
      have b0 : w3.cell? ⟨N,0,none⟩ = some (.string x.f0):=by rw [blk_cell hN3];rfl
      have HNE:=Lib.hid hNe
      clear hNe hza hNa hIa q0 q1 q2 hb3 hI
      by_cases hp : p1 = 3
      ·have hp' : (p1 == 3) = true:=by rw [hp];rfl
       go_wp2_with fail
       refine (hI3.text x.f0 HSM.out.1 (by omega) h1 h2).mono ?_
       rintro e w4 ⟨rfl,hI4,hu4⟩
       have hN4:=(hu4.block N hlt3 hne).trans hN3
       have hlt4 : N < w4.heap.size:=Nat.lt_of_lt_of_le hlt3 hu4.size
       have b1 : w4.cell? ⟨N,1,none⟩ = some (.string x.f1):=by rw [blk_cell hN4];rfl
       have hn4:=Fp.text_n st x.f0
       go_wp2_with fail
       refine (hI4.text x.f1 HSM.out.2.1 (by omega) h1 h2).mono ?_
       rintro e w5 ⟨rfl,hI5,hu5⟩
       have hN5:=(hu5.block N hlt4 hne).trans hN4
       have hlt5 : N < w5.heap.size:=Nat.lt_of_lt_of_le hlt4 hu5.size
       have hn5:=Fp.text_n (st.text x.f0) x.f1
       go_wp2_with fail
       refine (hI5.mark 2 (by omega) h1 h2).mono ?_
       rintro e w6 ⟨rfl,hI6,hu6⟩
       have hN6:=(hu6.block N hlt5 hne).trans hN5
       have b2 : w6.cell? ⟨N,2,none⟩ = some (.string x.f2):=by rw [blk_cell hN6];rfl
       have hn6:=Fp.bytes_n ((st.text x.f0).text x.f1) [2]
       simp only [List.length_singleton] at hn6
       go_wp2_with fail
       refine (hI6.text x.f2 HSM.out.2.2 (by omega) h1 h2).mono ?_
       rintro e w7 ⟨rfl,hI7,hu7⟩
       have hn7:=Fp.text_n (((st.text x.f0).text x.f1).bytes [2]) x.f2
       have h7 : ((((st.text x.f0).text x.f1).bytes [2]).text x.f2).n ≤ 20000 * (j + 1):=by omega
       have hre:=HRE.out
       simp only [hp,if_true,if_false] at hre
       have H7:=Lib.hid h7
       have HRR:=Lib.hid hre
       clear hn4 hn5 hn6 hn7 h7 hre
       go_wp2
       go_roundw
       case rel => exact ⟨j + 1,_,rfl,by omega,hI7,H7.out,HRR.out⟩
       case measure => simp [intOf];omega
      ·have hp' : (p1 == 3) = false:=by rw [beq_eq_false_iff_ne];exact hp
       go_wp2_with fail
       refine (hI3.text x.f0 HSM.out.1 (by omega) h1 h2).mono ?_
       rintro e w4 ⟨rfl,hI4,hu4⟩
       have hN4:=(hu4.block N hlt3 hne).trans hN3
       have hlt4 : N < w4.heap.size:=Nat.lt_of_lt_of_le hlt3 hu4.size
       have b1 : w4.cell? ⟨N,1,none⟩ = some (.string x.f1):=by rw [blk_cell hN4];rfl
       have hn4:=Fp.text_n st x.f0
       go_wp2_with fail
       refine (hI4.text x.f1 HSM.out.2.1 (by omega) h1 h2).mono ?_
       rintro e w5 ⟨rfl,hI5,hu5⟩
       have hN5:=(hu5.block N hlt4 hne).trans hN4
       have hlt5 : N < w5.heap.size:=Nat.lt_of_lt_of_le hlt4 hu5.size
       have hn5:=Fp.text_n (st.text x.f0) x.f1
       go_wp2_with fail
       refine (hI5.mark 1 (by omega) h1 h2).mono ?_
       rintro e w6 ⟨rfl,hI6,hu6⟩
       have hN6:=(hu6.block N hlt5 hne).trans hN5
       have b2 : w6.cell? ⟨N,2,none⟩ = some (.string x.f2):=by rw [blk_cell hN6];rfl
       have hn6:=Fp.bytes_n ((st.text x.f0).text x.f1) [1]
       simp only [List.length_singleton] at hn6
       go_wp2_with fail
       refine (hI6.text x.f2 HSM.out.2.2 (by omega) h1 h2).mono ?_
       rintro e w7 ⟨rfl,hI7,hu7⟩
       have hn7:=Fp.text_n (((st.text x.f0).text x.f1).bytes [1]) x.f2
       have h7 : ((((st.text x.f0).text x.f1).bytes [1]).text x.f2).n ≤ 20000 * (j + 1):=by omega
       have hre:=HRE.out
       simp only [hp,if_true,if_false] at hre
       have H7:=Lib.hid h7
       have HRR:=Lib.hid hre
       clear hn4 hn5 hn6 hn7 h7 hre
       go_wp2
       go_roundw
       case rel => exact ⟨j + 1,_,rfl,by omega,hI7,H7.out,HRR.out⟩
       case measure => simp [intOf];omega
     ·exact absurd hst (by simp)
    ·have hjx : j = xs.length:=by omega
     rw [hjx,List.drop_length,sumAll] at hall
     obtain rfl:=Option.some.inj hall
     have hS:=sum_calls w.heap.size st wr hI.ok (by omega) hI.T (Nat.lt_of_lt_of_le h1 hI.B.size) (Nat.lt_of_lt_of_le h2 hI.B.size) hI.P
     have hl16 : st.sum.length = 16:=by
      obtain ⟨a,b,c,d,e⟩:=four_of (show st.fin.ws.length = 4 from (Fp.bytes_ok (Fp.bytes_ok (Fp.byte_ok hI.ok _) _) _).1)
      unfold Fp.sum
      rw [e]
      rfl
     have hb8 : ∀ x ∈ st.sum,0 ≤ x ∧ x < 256:=by
      intro x hx
      simp only [Fp.sum,outL,List.mem_flatMap,List.mem_cons,List.mem_nil_iff,or_false] at hx
      obtain ⟨y,_,rfl|rfl|rfl|rfl⟩:=hx <;> omega
     have HS:=Lib.hid hS
     have hbI:=hI.B
     clear hS hI hall HF
     go_upto_region 16 with (fail)
     refine wp_region_lit ?_
     refine wpList_step (fun K hK => ?_)
     go_simp
     refine hK _ _ ?_
     clear hK K
     refine goesL_ (some 47) rfl rfl Tryd.func49 (by kernel_rfl) rfl #[.pointer (some ⟨w.heap.size,0,none⟩)] rfl (by simp only [List.map_toArray,List.map_cons,List.map_nil];rfl) ?_
     refine HS.out.mono ?_
     rintro e w3 ⟨rfl,hb3⟩
     refine ⟨_,rfl,?_⟩
     obtain ⟨N,hNe⟩ : ∃ N,w3.heap.size = N:=⟨_,rfl⟩
     have hZ:=heap_alloc_new w3 (.cells (nums .u8 (List.replicate 16 0)).toArray 64 (0,0))
     rw [hNe] at hZ
     have hbz : Below w3.heap.size w3 (w3.alloc (.cells (nums .u8 (List.replicate 16 0)).toArray 64 (0,0))):=(Below.refl _ _).alloc (Nat.le_refl _) _
     obtain ⟨ie,hie,hsz⟩:=arrInfo
     have hn16 : (nums .u8 st.sum).length = 16:=by simp [nums,hl16]
     have hst:=Lib.rl_storeVar_cells (P:=Tryd.prog) 64 ie hie N 0 (nums .u8 st.sum) (by rw [hn16,hsz]) (fun v hv => by
        simp only [nums,List.mem_map] at hv
        obtain ⟨_,_,rfl⟩:=hv
        rfl) (w3.alloc (.cells (nums .u8 (List.replicate 16 0)).toArray 64 (0,0))) (fun k hk => by rw [Nat.zero_add,blk_cell hZ];simp [nums];omega) (fun k hk => blk_frozen hZ _)
     have hfin:=blk_setCells N 64 (nums .u8 st.sum) 0 _ (nums .u8 (List.replicate 16 0)) (by rw [hn16];rfl) hZ
     rw [List.take_zero,List.nil_append] at hfin
     have hu4 : Upd N w3 ((w3.alloc (.cells (nums .u8 (List.replicate 16 0)).toArray 64 (0,0))).setCells N 0 (nums .u8 st.sum)):=upd_setCells _ _ _ (Upd.of_below hbz)
     have hNw : w.heap.size ≤ N:=by rw [← hNe];exact Nat.le_trans hbI.size hb3.size
     have hbf : Below w.heap.size w ((w3.alloc (.cells (nums .u8 (List.replicate 16 0)).toArray 64 (0,0))).setCells N 0 (nums .u8 st.sum)):=(hbI.trans (hb3.mono hbI.size)).trans (hu4.below hNw (by rw [hNe];exact hNw))
     have HFI:=Lib.hid hfin
     have HBF:=Lib.hid hbf
     clear hfin hbf hu4 hbz hZ
     refine wpList_step (fun K hK => ?_)
     go_simp
     refine hK _ _ ?_
     clear hK K
     refine wpList_store_at rfl _ _ _ rfl _ rfl _ rfl hst ?_
     refine wpList_nil ?_
     simp only [Act.put]
     generalize (w3.alloc (.cells (nums .u8 (List.replicate 16 0)).toArray 64 (0,0))).setCells N 0 (nums .u8 st.sum) = w5 at *
     clear hst
     have hH:=hex_calls (some ⟨N,0,none⟩) 16 st.sum w5 ⟨rfl,by omega,fun _ => ⟨_,rfl,fun j p hp => ⟨[.int .u8 p],rfl,rfl,fun i u hu => by
      rcases i with _|i
      ·simp at hu
       subst hu
       have hjl : j < st.sum.length:=(List.getElem?_eq_some_iff.mp hp).1
       have:=out_cell HFI.out hl16 j (by omega)
       rw [List.getD_eq_getElem?_getD,hp] at this
       have e : (Addr.add ⟨N,0,none⟩ (j * 1 + 0)) = ⟨N,j,none⟩:=by unfold Addr.add;split <;> simp_all
       show w5.cell? (Addr.add ⟨N,0,none⟩ (j * 1 + 0)) = _
       rw [e]
       exact this
      ·simp at hu⟩⟩⟩ (by omega) (by omega) hb8
     rw [hl16] at hH
     have HH:=Lib.hid hH
     clear hH hb8
     have hlt5 : w.heap.size ≤ w5.heap.size:=HBF.out.size
     go_wp2_with fail
     refine HH.out.mono ?_
     rintro e w6 ⟨rfl,hb6⟩
     go_wp2
     go_ret
     exact ⟨rfl,HBF.out.trans (hb6.mono hlt5)⟩
  ·exact absurd h (by simp)
end Go.Proofs.YtolpefnedpgaaaaDoor.X
namespace Go.Proofs.YtolpefnedpgaaaaDoor.X
open Go.RowKit Go.Proofs.YtolpefnedpgaaaaDoorW.PrintWords Go.Proofs.YtolpefnedpgaaaaDoorW.PrintLast Go.Proofs.YtolpefnedpgaaaaDoorW.PrintMore
attribute [local go_sem] max2_int min2_int max_two min_two max_three min_three max_four min_four
set_option linter.unusedVariables false
set_option linter.unusedSimpArgs false
def racewaylaw24_works.f (k : Nat)  : Option (Bool):=(attribute_Type.f k (⟨#[78,117,109,98,101,114,46,105,110,116]⟩ : ByteArray)).bind fun bt147 => ((attribute_Name.f k (⟨#[97,46,98]⟩ : ByteArray)).bind fun t149 => (if t149 = true then ((attribute_Name.f k (⟨#[97,46,46,98]⟩ : ByteArray)).bind fun t150 => (if t150 = true then (some false) else ((attribute_Name.f k (⟨#[65,87,83,46,120]⟩ : ByteArray)).bind fun t151 => (if t151 = true then (some false) else (if bt147.1 = 2 then (if bt147.2 = true then ((attribute_Number.f k (⟨#[45,49,46,53,101,51]⟩ : ByteArray)).bind fun t152 => (if t152 = true then ((attribute_Sum.f k (([(⟨(⟨#[97]⟩ : ByteArray),(⟨#[83,116,114,105,110,103]⟩ : ByteArray),(⟨#[120]⟩ : ByteArray)⟩ : S33)] : List (S33)))).bind fun t156 => (some ((t156.size : Int) == 32))) else (some false))) else (some false)) else (some false)))))) else (some false)))
set_option maxHeartbeats 8000000 in
set_option maxRecDepth 100000 in
theorem racewaylaw24_works.calls (k : Nat)  (r : Bool) (w : World) (hGFp : GlobFp w) (hGMax : GlobMax w) (h : racewaylaw24_works.f k  = some r) :
  Calls Tryd.prog 16 #[] w fun e w' => e = .returned (.bool r) ∧ Below w.heap.size w w':=by
 have hu33:=Tryd.underlying33
 have HGFp:=Aside0.mk hGFp
 clear hGFp
 have HGMax:=Aside0.mk hGMax
 clear hGMax
 have HB:=Aside0.mk (Below.refl w.heap.size w)
 have H : ((attribute_Type.f k (⟨#[78,117,109,98,101,114,46,105,110,116]⟩ : ByteArray)).bind fun bt147 => ((attribute_Name.f k (⟨#[97,46,98]⟩ : ByteArray)).bind fun t149 => (if t149 = true then ((attribute_Name.f k (⟨#[97,46,46,98]⟩ : ByteArray)).bind fun t150 => (if t150 = true then (some false) else ((attribute_Name.f k (⟨#[65,87,83,46,120]⟩ : ByteArray)).bind fun t151 => (if t151 = true then (some false) else (if bt147.1 = 2 then (if bt147.2 = true then ((attribute_Number.f k (⟨#[45,49,46,53,101,51]⟩ : ByteArray)).bind fun t152 => (if t152 = true then ((attribute_Sum.f k (([(⟨(⟨#[97]⟩ : ByteArray),(⟨#[83,116,114,105,110,103]⟩ : ByteArray),(⟨#[120]⟩ : ByteArray)⟩ : S33)] : List (S33)))).bind fun t156 => (some ((t156.size : Int) == 32))) else (some false))) else (some false)) else (some false)))))) else (some false)))) = some r:=h
 clear h
 replace H:=Option.bind_eq_some_iff.mp H
 obtain ⟨⟨t147,t148⟩,A10,H⟩:=H
 replace H : ((attribute_Name.f k (⟨#[97,46,98]⟩ : ByteArray)).bind fun t149 => (if t149 = true then ((attribute_Name.f k (⟨#[97,46,46,98]⟩ : ByteArray)).bind fun t150 => (if t150 = true then (some false) else ((attribute_Name.f k (⟨#[65,87,83,46,120]⟩ : ByteArray)).bind fun t151 => (if t151 = true then (some false) else (if t147 = 2 then (if t148 = true then ((attribute_Number.f k (⟨#[45,49,46,53,101,51]⟩ : ByteArray)).bind fun t152 => (if t152 = true then ((attribute_Sum.f k (([(⟨(⟨#[97]⟩ : ByteArray),(⟨#[83,116,114,105,110,103]⟩ : ByteArray),(⟨#[120]⟩ : ByteArray)⟩ : S33)] : List (S33)))).bind fun t156 => (some ((t156.size : Int) == 32))) else (some false))) else (some false)) else (some false)))))) else (some false))) = some r:=H
 have A1:=Aside0.mk A10
 clear A10
 replace H:=Option.bind_eq_some_iff.mp H
 obtain ⟨t149,A20,H⟩:=H
 replace H : (if t149 = true then ((attribute_Name.f k (⟨#[97,46,46,98]⟩ : ByteArray)).bind fun t150 => (if t150 = true then (some false) else ((attribute_Name.f k (⟨#[65,87,83,46,120]⟩ : ByteArray)).bind fun t151 => (if t151 = true then (some false) else (if t147 = 2 then (if t148 = true then ((attribute_Number.f k (⟨#[45,49,46,53,101,51]⟩ : ByteArray)).bind fun t152 => (if t152 = true then ((attribute_Sum.f k (([(⟨(⟨#[97]⟩ : ByteArray),(⟨#[83,116,114,105,110,103]⟩ : ByteArray),(⟨#[120]⟩ : ByteArray)⟩ : S33)] : List (S33)))).bind fun t156 => (some ((t156.size : Int) == 32))) else (some false))) else (some false)) else (some false)))))) else (some false)) = some r:=H
 have A2:=Aside0.mk A20
 clear A20
 by_cases c3 : t149 = true
 ·subst c3
  have H1 : ((attribute_Name.f k (⟨#[97,46,46,98]⟩ : ByteArray)).bind fun t150 => (if t150 = true then (some false) else ((attribute_Name.f k (⟨#[65,87,83,46,120]⟩ : ByteArray)).bind fun t151 => (if t151 = true then (some false) else (if t147 = 2 then (if t148 = true then ((attribute_Number.f k (⟨#[45,49,46,53,101,51]⟩ : ByteArray)).bind fun t152 => (if t152 = true then ((attribute_Sum.f k (([(⟨(⟨#[97]⟩ : ByteArray),(⟨#[83,116,114,105,110,103]⟩ : ByteArray),(⟨#[120]⟩ : ByteArray)⟩ : S33)] : List (S33)))).bind fun t156 => (some ((t156.size : Int) == 32))) else (some false))) else (some false)) else (some false)))))) = some r:=by rw [if_pos rfl] at H;exact H
  clear H
  have H:=H1
  clear H1
  replace H:=Option.bind_eq_some_iff.mp H
  obtain ⟨t150,A40,H⟩:=H
  replace H : (if t150 = true then (some false) else ((attribute_Name.f k (⟨#[65,87,83,46,120]⟩ : ByteArray)).bind fun t151 => (if t151 = true then (some false) else (if t147 = 2 then (if t148 = true then ((attribute_Number.f k (⟨#[45,49,46,53,101,51]⟩ : ByteArray)).bind fun t152 => (if t152 = true then ((attribute_Sum.f k (([(⟨(⟨#[97]⟩ : ByteArray),(⟨#[83,116,114,105,110,103]⟩ : ByteArray),(⟨#[120]⟩ : ByteArray)⟩ : S33)] : List (S33)))).bind fun t156 => (some ((t156.size : Int) == 32))) else (some false))) else (some false)) else (some false))))) = some r:=H
  have A4:=Aside0.mk A40
  clear A40
  by_cases c5 : t150 = true
  ·subst c5
   have H1 : (some false) = some r:=by rw [if_pos rfl] at H;exact H
   clear H
   have H:=H1
   clear H1
   obtain rfl:=Option.some.inj H
   go_enter Tryd.func16,Tryd.ntmps16
   go_wp2_with (first|((with_reducible refine gate_callee (f:=10) rfl ?_);refine goesL_ (some 4) rfl rfl Tryd.func10 (by kernel_rfl) rfl #[.string (⟨#[78,117,109,98,101,114,46,105,110,116]⟩ : ByteArray)] rfl (by (try simp only [List.map_toArray,List.map_cons,List.map_nil]);first|done|rfl|(simp only [List.length_drop,List.length_take];rfl)) ?_;(with_reducible refine (attribute_Type.calls k (⟨#[78,117,109,98,101,114,46,105,110,116]⟩ : ByteArray) t147 t148 _ A1.out).mono ?_);rintro e w6 ⟨rfl,hb⟩;refine ⟨_,rfl,?_⟩;have n0_:=Aside0.mk (below_step (by repeat (first|(with_reducible first|exact HB.out|apply below_alloc|apply pw_below_drewN|apply below_drew1)|exact HB.out)) hb);clear HB;have HB:=n0_;clear n0_;(try clear hb);(try clear hb2);(try clear hk);(try clear hi))|((with_reducible refine gate_callee (f:=12) rfl ?_);refine goesL_ (some 7) rfl rfl Tryd.func12 (by kernel_rfl) rfl #[.string (⟨#[97,46,98]⟩ : ByteArray)] rfl (by (try simp only [List.map_toArray,List.map_cons,List.map_nil]);first|done|rfl|(simp only [List.length_drop,List.length_take];rfl)) ?_;(with_reducible refine (attribute_Name.calls k (⟨#[97,46,98]⟩ : ByteArray) true _ ?side1 A2.out).mono ?_);(case side1 => first|exact HGMax.out|exact GlobMax.below HGMax.out (by repeat (first|(with_reducible first|exact HB.out|apply below_alloc|apply pw_below_drewN|apply below_drew1)|exact HB.out))|exact GlobMax.drawn HGMax.out (by repeat (first|exact Drawn0.refl _|apply Drawn0.step)));rintro e w' ⟨rfl,⟨nd,rfl⟩⟩;refine ⟨_,rfl,?_⟩)|(go_at_call 12;(with_reducible refine (attribute_Name.calls k (⟨#[97,46,46,98]⟩ : ByteArray) true _ ?side1 A4.out).mono ?_);(case side1 => first|exact HGMax.out|exact GlobMax.below HGMax.out (by repeat (first|(with_reducible first|exact HB.out|apply below_alloc|apply pw_below_drewN|apply below_drew1)|exact HB.out))|exact GlobMax.drawn HGMax.out (by repeat (first|exact Drawn0.refl _|apply Drawn0.step)));rintro e w' ⟨rfl,⟨nd,rfl⟩⟩))
   go_ret
   exact ⟨by first|rfl|(simp [errW_none,errW_some] <;> rfl)|(simp [*,errW_none,errW_some] <;> rfl),by repeat (first|(with_reducible first|exact HB.out|apply below_alloc|apply pw_below_drewN|apply below_drew1)|exact HB.out)⟩
  ·replace c5:=Bool.eq_false_iff.mpr c5
   subst c5
   have H1 : ((attribute_Name.f k (⟨#[65,87,83,46,120]⟩ : ByteArray)).bind fun t151 => (if t151 = true then (some false) else (if t147 = 2 then (if t148 = true then ((attribute_Number.f k (⟨#[45,49,46,53,101,51]⟩ : ByteArray)).bind fun t152 => (if t152 = true then ((attribute_Sum.f k (([(⟨(⟨#[97]⟩ : ByteArray),(⟨#[83,116,114,105,110,103]⟩ : ByteArray),(⟨#[120]⟩ : ByteArray)⟩ : S33)] : List (S33)))).bind fun t156 => (some ((t156.size : Int) == 32))) else (some false))) else (some false)) else (some false)))) = some r:=by rw [if_neg (show ¬ (false = true) by decide)] at H;exact H
   clear H
   have H:=H1
   clear H1
   replace H:=Option.bind_eq_some_iff.mp H
   obtain ⟨t151,A70,H⟩:=H
   replace H : (if t151 = true then (some false) else (if t147 = 2 then (if t148 = true then ((attribute_Number.f k (⟨#[45,49,46,53,101,51]⟩ : ByteArray)).bind fun t152 => (if t152 = true then ((attribute_Sum.f k (([(⟨(⟨#[97]⟩ : ByteArray),(⟨#[83,116,114,105,110,103]⟩ : ByteArray),(⟨#[120]⟩ : ByteArray)⟩ : S33)] : List (S33)))).bind fun t156 => (some ((t156.size : Int) == 32))) else (some false))) else (some false)) else (some false))) = some r:=H
   have A7:=Aside0.mk A70
   clear A70
   by_cases c8 : t151 = true
   ·subst c8
    have H1 : (some false) = some r:=by rw [if_pos rfl] at H;exact H
    clear H
    have H:=H1
    clear H1
    obtain rfl:=Option.some.inj H
    go_enter Tryd.func16,Tryd.ntmps16
    go_wp2_with (first|((with_reducible refine gate_callee (f:=10) rfl ?_);refine goesL_ (some 4) rfl rfl Tryd.func10 (by kernel_rfl) rfl #[.string (⟨#[78,117,109,98,101,114,46,105,110,116]⟩ : ByteArray)] rfl (by (try simp only [List.map_toArray,List.map_cons,List.map_nil]);first|done|rfl|(simp only [List.length_drop,List.length_take];rfl)) ?_;(with_reducible refine (attribute_Type.calls k (⟨#[78,117,109,98,101,114,46,105,110,116]⟩ : ByteArray) t147 t148 _ A1.out).mono ?_);rintro e w9 ⟨rfl,hb⟩;refine ⟨_,rfl,?_⟩;have n0_:=Aside0.mk (below_step (by repeat (first|(with_reducible first|exact HB.out|apply below_alloc|apply pw_below_drewN|apply below_drew1)|exact HB.out)) hb);clear HB;have HB:=n0_;clear n0_;(try clear hb);(try clear hb2);(try clear hk);(try clear hi))|((with_reducible refine gate_callee (f:=12) rfl ?_);refine goesL_ (some 7) rfl rfl Tryd.func12 (by kernel_rfl) rfl #[.string (⟨#[97,46,98]⟩ : ByteArray)] rfl (by (try simp only [List.map_toArray,List.map_cons,List.map_nil]);first|done|rfl|(simp only [List.length_drop,List.length_take];rfl)) ?_;(with_reducible refine (attribute_Name.calls k (⟨#[97,46,98]⟩ : ByteArray) true _ ?side1 A2.out).mono ?_);(case side1 => first|exact HGMax.out|exact GlobMax.below HGMax.out (by repeat (first|(with_reducible first|exact HB.out|apply below_alloc|apply pw_below_drewN|apply below_drew1)|exact HB.out))|exact GlobMax.drawn HGMax.out (by repeat (first|exact Drawn0.refl _|apply Drawn0.step)));rintro e w' ⟨rfl,⟨nd,rfl⟩⟩;refine ⟨_,rfl,?_⟩)|(go_at_call 12;(with_reducible refine (attribute_Name.calls k (⟨#[97,46,46,98]⟩ : ByteArray) false _ ?side1 A4.out).mono ?_);(case side1 => first|exact HGMax.out|exact GlobMax.below HGMax.out (by repeat (first|(with_reducible first|exact HB.out|apply below_alloc|apply pw_below_drewN|apply below_drew1)|exact HB.out))|exact GlobMax.drawn HGMax.out (by repeat (first|exact Drawn0.refl _|apply Drawn0.step)));rintro e w' ⟨rfl,⟨nd,rfl⟩⟩)|(go_at_call 12;(with_reducible refine (attribute_Name.calls k (⟨#[65,87,83,46,120]⟩ : ByteArray) true _ ?side1 A7.out).mono ?_);(case side1 => first|exact HGMax.out|exact GlobMax.below HGMax.out (by repeat (first|(with_reducible first|exact HB.out|apply below_alloc|apply pw_below_drewN|apply below_drew1)|exact HB.out))|exact GlobMax.drawn HGMax.out (by repeat (first|exact Drawn0.refl _|apply Drawn0.step)));rintro e w' ⟨rfl,⟨nd,rfl⟩⟩))
    go_ret
    exact ⟨by first|rfl|(simp [errW_none,errW_some] <;> rfl)|(simp [*,errW_none,errW_some] <;> rfl),by repeat (first|(with_reducible first|exact HB.out|apply below_alloc|apply pw_below_drewN|apply below_drew1)|exact HB.out)⟩
   ·replace c8:=Bool.eq_false_iff.mpr c8
    subst c8
    have H1 : (if t147 = 2 then (if t148 = true then ((attribute_Number.f k (⟨#[45,49,46,53,101,51]⟩ : ByteArray)).bind fun t152 => (if t152 = true then ((attribute_Sum.f k (([(⟨(⟨#[97]⟩ : ByteArray),(⟨#[83,116,114,105,110,103]⟩ : ByteArray),(⟨#[120]⟩ : ByteArray)⟩ : S33)] : List (S33)))).bind fun t156 => (some ((t156.size : Int) == 32))) else (some false))) else (some false)) else (some false)) = some r:=by rw [if_neg (show ¬ (false = true) by decide)] at H;exact H
    clear H
    have H:=H1
    clear H1
    by_cases c10 : t147 = 2
    ·rw [if_pos c10] at H
     have c10b0 : (t147 == 2) = true:=beq_iff_eq.mpr c10
     have c10b1 : (t147 != 2) = false:=bne_eq_false_iff_eq.mpr c10
     clear c10
     by_cases c11 : t148 = true
     ·subst c11
      have H1 : ((attribute_Number.f k (⟨#[45,49,46,53,101,51]⟩ : ByteArray)).bind fun t152 => (if t152 = true then ((attribute_Sum.f k (([(⟨(⟨#[97]⟩ : ByteArray),(⟨#[83,116,114,105,110,103]⟩ : ByteArray),(⟨#[120]⟩ : ByteArray)⟩ : S33)] : List (S33)))).bind fun t156 => (some ((t156.size : Int) == 32))) else (some false))) = some r:=by rw [if_pos rfl] at H;exact H
      clear H
      have H:=H1
      clear H1
      replace H:=Option.bind_eq_some_iff.mp H
      obtain ⟨t152,A120,H⟩:=H
      replace H : (if t152 = true then ((attribute_Sum.f k (([(⟨(⟨#[97]⟩ : ByteArray),(⟨#[83,116,114,105,110,103]⟩ : ByteArray),(⟨#[120]⟩ : ByteArray)⟩ : S33)] : List (S33)))).bind fun t156 => (some ((t156.size : Int) == 32))) else (some false)) = some r:=H
      have A12:=Aside0.mk A120
      clear A120
      by_cases c13 : t152 = true
      ·subst c13
       have H1 : ((attribute_Sum.f k (([(⟨(⟨#[97]⟩ : ByteArray),(⟨#[83,116,114,105,110,103]⟩ : ByteArray),(⟨#[120]⟩ : ByteArray)⟩ : S33)] : List (S33)))).bind fun t156 => (some ((t156.size : Int) == 32))) = some r:=by rw [if_pos rfl] at H;exact H
       clear H
       have H:=H1
       clear H1
       obtain ⟨y153,hy153⟩ : ∃ y_ : List (S33),y_ = (([(⟨(⟨#[97]⟩ : ByteArray),(⟨#[83,116,114,105,110,103]⟩ : ByteArray),(⟨#[120]⟩ : ByteArray)⟩ : S33)] : List (S33))):=⟨_,rfl⟩
       replace H : ((attribute_Sum.f k y153).bind fun t156 => (some ((t156.size : Int) == 32))) = some r:=by first|(rw [hy153];with_reducible exact H)|(have H2_:=(Option.bind_some _ _).symm.trans H;rw [hy153];with_reducible exact H2_)|(have H2_:=(Option.bind_some _ _).symm.trans H;with_reducible exact H2_)|with_reducible exact H|(rw [hy153];exact H)|exact H
       have Ny153:=Aside0.mk hy153
       clear hy153
       replace H:=Option.bind_eq_some_iff.mp H
       obtain ⟨t156,A140,H⟩:=H
       replace H : (some ((t156.size : Int) == 32)) = some r:=H
       have A14:=Aside0.mk A140
       clear A140
       obtain rfl:=Option.some.inj H
       go_enter Tryd.func16,Tryd.ntmps16
       go_wp2_with (first|((with_reducible refine gate_callee (f:=10) rfl ?_);refine goesL_ (some 4) rfl rfl Tryd.func10 (by kernel_rfl) rfl #[.string (⟨#[78,117,109,98,101,114,46,105,110,116]⟩ : ByteArray)] rfl (by (try simp only [List.map_toArray,List.map_cons,List.map_nil]);first|done|rfl|(simp only [List.length_drop,List.length_take];rfl)) ?_;(with_reducible refine (attribute_Type.calls k (⟨#[78,117,109,98,101,114,46,105,110,116]⟩ : ByteArray) t147 true _ A1.out).mono ?_);rintro e w15 ⟨rfl,hb⟩;refine ⟨_,rfl,?_⟩;have n0_:=Aside0.mk (below_step (by repeat (first|(with_reducible first|exact HB.out|apply below_alloc|apply pw_below_drewN|apply below_drew1)|exact HB.out)) hb);clear HB;have HB:=n0_;clear n0_;(try clear hb);(try clear hb2);(try clear hk);(try clear hi))|((with_reducible refine gate_callee (f:=12) rfl ?_);refine goesL_ (some 7) rfl rfl Tryd.func12 (by kernel_rfl) rfl #[.string (⟨#[97,46,98]⟩ : ByteArray)] rfl (by (try simp only [List.map_toArray,List.map_cons,List.map_nil]);first|done|rfl|(simp only [List.length_drop,List.length_take];rfl)) ?_;(with_reducible refine (attribute_Name.calls k (⟨#[97,46,98]⟩ : ByteArray) true _ ?side1 A2.out).mono ?_);(case side1 => first|exact HGMax.out|exact GlobMax.below HGMax.out (by repeat (first|(with_reducible first|exact HB.out|apply below_alloc|apply pw_below_drewN|apply below_drew1)|exact HB.out))|exact GlobMax.drawn HGMax.out (by repeat (first|exact Drawn0.refl _|apply Drawn0.step)));rintro e w' ⟨rfl,⟨nd,rfl⟩⟩;refine ⟨_,rfl,?_⟩)|(go_at_call 12;(with_reducible refine (attribute_Name.calls k (⟨#[97,46,46,98]⟩ : ByteArray) false _ ?side1 A4.out).mono ?_);(case side1 => first|exact HGMax.out|exact GlobMax.below HGMax.out (by repeat (first|(with_reducible first|exact HB.out|apply below_alloc|apply pw_below_drewN|apply below_drew1)|exact HB.out))|exact GlobMax.drawn HGMax.out (by repeat (first|exact Drawn0.refl _|apply Drawn0.step)));rintro e w' ⟨rfl,⟨nd,rfl⟩⟩)|(go_at_call 12;(with_reducible refine (attribute_Name.calls k (⟨#[65,87,83,46,120]⟩ : ByteArray) false _ ?side1 A7.out).mono ?_);(case side1 => first|exact HGMax.out|exact GlobMax.below HGMax.out (by repeat (first|(with_reducible first|exact HB.out|apply below_alloc|apply pw_below_drewN|apply below_drew1)|exact HB.out))|exact GlobMax.drawn HGMax.out (by repeat (first|exact Drawn0.refl _|apply Drawn0.step)));rintro e w' ⟨rfl,⟨nd,rfl⟩⟩)|(go_at_call 14;(with_reducible refine (attribute_Number.calls k (⟨#[45,49,46,53,101,51]⟩ : ByteArray) true _ ?side1 A12.out).mono ?_);(case side1 => first|exact HGMax.out|exact GlobMax.below HGMax.out (by repeat (first|(with_reducible first|exact HB.out|apply below_alloc|apply pw_below_drewN|apply below_drew1)|exact HB.out))|exact GlobMax.drawn HGMax.out (by repeat (first|exact Drawn0.refl _|apply Drawn0.step)));rintro e w16 ⟨rfl,hb⟩;have n0_:=Aside0.mk (below_step (by repeat (first|(with_reducible first|exact HB.out|apply below_alloc|apply pw_below_drewN|apply below_drew1)|exact HB.out)) hb);clear HB;have HB:=n0_;clear n0_;(try clear hb);(try clear hb2);(try clear hk);(try clear hi))|((with_reducible refine gate_dst (N:=28) rfl ?_);(try (refine gate_guard (by rfl) ?_;dsimp only));refine Kd.R_lit k33 _ 33 ?hg (N:=28) ?hd (xs:=([(⟨(⟨#[97]⟩ : ByteArray),(⟨#[83,116,114,105,110,103]⟩ : ByteArray),(⟨#[120]⟩ : ByteArray)⟩ : S33)] : List (S33))) (inner:=[.string (⟨#[97]⟩ : ByteArray),.string (⟨#[83,116,114,105,110,103]⟩ : ByteArray),.string (⟨#[120]⟩ : ByteArray)]) (ok:=fun _ => True) (okp:=fun _ => True) ?hr ?hp (fun _ hk => hk) trivial (Below.refl _ _) (Nat.le_refl _) (by simp) ?_;(case hd => rfl);(case hg => rfl);(case hr => first|(go_simp;done)|(go_simp;rfl));(case hp => exact (Reps.c3 (show Kd.M k33 _ _ _ (⟨(⟨#[97]⟩ : ByteArray),(⟨#[83,116,114,105,110,103]⟩ : ByteArray),(⟨#[120]⟩ : ByteArray)⟩ : S33) [.string (⟨#[97]⟩ : ByteArray),.string (⟨#[83,116,114,105,110,103]⟩ : ByteArray),.string (⟨#[120]⟩ : ByteArray)] from (k33_mkM _ _ _ (⟨(⟨#[97]⟩ : ByteArray),(⟨#[83,116,114,105,110,103]⟩ : ByteArray),(⟨#[120]⟩ : ByteArray)⟩ : S33) )) (Reps.none _ _)));intro v154 w17 ho18 hb hg_ hnew_;clear hg_ hnew_;(first|rw [← Ny153.out] at ho18|(simp only [Int.reduceToNat] at ho18;rw [← Ny153.out] at ho18));have n0_:=Aside0.mk (Kd.R_lower ho18 (below_size (by repeat (first|(with_reducible first|exact HB.out|apply below_alloc|apply pw_below_drewN|apply below_drew1)|exact HB.out))));have n1_:=Aside0.mk (below_step (by repeat (first|(with_reducible first|exact HB.out|apply below_alloc|apply pw_below_drewN|apply below_drew1)|exact HB.out)) hb);clear HB;have HO155:=n0_;have HB:=n1_;clear n0_ n1_;clear hb ho18;obtain ⟨Ao19,co19,eo19⟩:=Kd.R_slice HO155.out;subst eo19)|(go_at_call 21;(with_reducible refine (attribute_Sum.calls k _ _ y153 t156 _ ?side3 ?side1 ?side2 A14.out).mono ?_);(case side1 => repeat (first|exact (Kd.R_reads' HO155.out).2.2|(with_reducible refine Kd.C_alloc ?_ _)|(with_reducible refine Kd.C_drewN ?_ _)|(with_reducible refine Kd.C_drew ?_)));(case side2 => exact (Kd.R_reads' HO155.out).2.1);(case side3 => first|exact HGFp.out|exact GlobFp.below HGFp.out (by repeat (first|(with_reducible first|exact HB.out|apply below_alloc|apply pw_below_drewN|apply below_drew1)|exact HB.out))|exact GlobFp.drawn HGFp.out (by repeat (first|exact Drawn0.refl _|apply Drawn0.step)));rintro e w20 ⟨rfl,hb⟩;have n0_:=Aside0.mk (Kd.R_below (by (with_reducible repeat (first|apply Kd.R_alloc|apply Kd.R_drewN|apply Kd.R_drew));exact HO155.out) hb);have n1_:=Aside0.mk (below_step (by repeat (first|(with_reducible first|exact HB.out|apply below_alloc|apply pw_below_drewN|apply below_drew1)|exact HB.out)) hb);clear HO155;clear HB;have HO155:=n0_;have HB:=n1_;clear n0_ n1_;(try clear hb);(try clear hb2);(try clear hk);(try clear hi)))
       go_ret
       exact ⟨by first|rfl|(simp [errW_none,errW_some] <;> rfl)|(simp [*,errW_none,errW_some] <;> rfl),by repeat (first|(with_reducible first|exact HB.out|apply below_alloc|apply pw_below_drewN|apply below_drew1)|exact HB.out)⟩
      ·replace c13:=Bool.eq_false_iff.mpr c13
       subst c13
       have H1 : (some false) = some r:=by rw [if_neg (show ¬ (false = true) by decide)] at H;exact H
       clear H
       have H:=H1
       clear H1
       obtain rfl:=Option.some.inj H
       go_enter Tryd.func16,Tryd.ntmps16
       go_wp2_with (first|((with_reducible refine gate_callee (f:=10) rfl ?_);refine goesL_ (some 4) rfl rfl Tryd.func10 (by kernel_rfl) rfl #[.string (⟨#[78,117,109,98,101,114,46,105,110,116]⟩ : ByteArray)] rfl (by (try simp only [List.map_toArray,List.map_cons,List.map_nil]);first|done|rfl|(simp only [List.length_drop,List.length_take];rfl)) ?_;(with_reducible refine (attribute_Type.calls k (⟨#[78,117,109,98,101,114,46,105,110,116]⟩ : ByteArray) t147 true _ A1.out).mono ?_);rintro e w21 ⟨rfl,hb⟩;refine ⟨_,rfl,?_⟩;have n0_:=Aside0.mk (below_step (by repeat (first|(with_reducible first|exact HB.out|apply below_alloc|apply pw_below_drewN|apply below_drew1)|exact HB.out)) hb);clear HB;have HB:=n0_;clear n0_;(try clear hb);(try clear hb2);(try clear hk);(try clear hi))|((with_reducible refine gate_callee (f:=12) rfl ?_);refine goesL_ (some 7) rfl rfl Tryd.func12 (by kernel_rfl) rfl #[.string (⟨#[97,46,98]⟩ : ByteArray)] rfl (by (try simp only [List.map_toArray,List.map_cons,List.map_nil]);first|done|rfl|(simp only [List.length_drop,List.length_take];rfl)) ?_;(with_reducible refine (attribute_Name.calls k (⟨#[97,46,98]⟩ : ByteArray) true _ ?side1 A2.out).mono ?_);(case side1 => first|exact HGMax.out|exact GlobMax.below HGMax.out (by repeat (first|(with_reducible first|exact HB.out|apply below_alloc|apply pw_below_drewN|apply below_drew1)|exact HB.out))|exact GlobMax.drawn HGMax.out (by repeat (first|exact Drawn0.refl _|apply Drawn0.step)));rintro e w' ⟨rfl,⟨nd,rfl⟩⟩;refine ⟨_,rfl,?_⟩)|(go_at_call 12;(with_reducible refine (attribute_Name.calls k (⟨#[97,46,46,98]⟩ : ByteArray) false _ ?side1 A4.out).mono ?_);(case side1 => first|exact HGMax.out|exact GlobMax.below HGMax.out (by repeat (first|(with_reducible first|exact HB.out|apply below_alloc|apply pw_below_drewN|apply below_drew1)|exact HB.out))|exact GlobMax.drawn HGMax.out (by repeat (first|exact Drawn0.refl _|apply Drawn0.step)));rintro e w' ⟨rfl,⟨nd,rfl⟩⟩)|(go_at_call 12;(with_reducible refine (attribute_Name.calls k (⟨#[65,87,83,46,120]⟩ : ByteArray) false _ ?side1 A7.out).mono ?_);(case side1 => first|exact HGMax.out|exact GlobMax.below HGMax.out (by repeat (first|(with_reducible first|exact HB.out|apply below_alloc|apply pw_below_drewN|apply below_drew1)|exact HB.out))|exact GlobMax.drawn HGMax.out (by repeat (first|exact Drawn0.refl _|apply Drawn0.step)));rintro e w' ⟨rfl,⟨nd,rfl⟩⟩)|(go_at_call 14;(with_reducible refine (attribute_Number.calls k (⟨#[45,49,46,53,101,51]⟩ : ByteArray) false _ ?side1 A12.out).mono ?_);(case side1 => first|exact HGMax.out|exact GlobMax.below HGMax.out (by repeat (first|(with_reducible first|exact HB.out|apply below_alloc|apply pw_below_drewN|apply below_drew1)|exact HB.out))|exact GlobMax.drawn HGMax.out (by repeat (first|exact Drawn0.refl _|apply Drawn0.step)));rintro e w22 ⟨rfl,hb⟩;have n0_:=Aside0.mk (below_step (by repeat (first|(with_reducible first|exact HB.out|apply below_alloc|apply pw_below_drewN|apply below_drew1)|exact HB.out)) hb);clear HB;have HB:=n0_;clear n0_;(try clear hb);(try clear hb2);(try clear hk);(try clear hi)))
       go_ret
       exact ⟨by first|rfl|(simp [errW_none,errW_some] <;> rfl)|(simp [*,errW_none,errW_some] <;> rfl),by repeat (first|(with_reducible first|exact HB.out|apply below_alloc|apply pw_below_drewN|apply below_drew1)|exact HB.out)⟩
     ·replace c11:=Bool.eq_false_iff.mpr c11
      subst c11
      have H1 : (some false) = some r:=by rw [if_neg (show ¬ (false = true) by decide)] at H;exact H
      clear H
      have H:=H1
      clear H1
      obtain rfl:=Option.some.inj H
      go_enter Tryd.func16,Tryd.ntmps16
      go_wp2_with (first|((with_reducible refine gate_callee (f:=10) rfl ?_);refine goesL_ (some 4) rfl rfl Tryd.func10 (by kernel_rfl) rfl #[.string (⟨#[78,117,109,98,101,114,46,105,110,116]⟩ : ByteArray)] rfl (by (try simp only [List.map_toArray,List.map_cons,List.map_nil]);first|done|rfl|(simp only [List.length_drop,List.length_take];rfl)) ?_;(with_reducible refine (attribute_Type.calls k (⟨#[78,117,109,98,101,114,46,105,110,116]⟩ : ByteArray) t147 false _ A1.out).mono ?_);rintro e w23 ⟨rfl,hb⟩;refine ⟨_,rfl,?_⟩;have n0_:=Aside0.mk (below_step (by repeat (first|(with_reducible first|exact HB.out|apply below_alloc|apply pw_below_drewN|apply below_drew1)|exact HB.out)) hb);clear HB;have HB:=n0_;clear n0_;(try clear hb);(try clear hb2);(try clear hk);(try clear hi))|((with_reducible refine gate_callee (f:=12) rfl ?_);refine goesL_ (some 7) rfl rfl Tryd.func12 (by kernel_rfl) rfl #[.string (⟨#[97,46,98]⟩ : ByteArray)] rfl (by (try simp only [List.map_toArray,List.map_cons,List.map_nil]);first|done|rfl|(simp only [List.length_drop,List.length_take];rfl)) ?_;(with_reducible refine (attribute_Name.calls k (⟨#[97,46,98]⟩ : ByteArray) true _ ?side1 A2.out).mono ?_);(case side1 => first|exact HGMax.out|exact GlobMax.below HGMax.out (by repeat (first|(with_reducible first|exact HB.out|apply below_alloc|apply pw_below_drewN|apply below_drew1)|exact HB.out))|exact GlobMax.drawn HGMax.out (by repeat (first|exact Drawn0.refl _|apply Drawn0.step)));rintro e w' ⟨rfl,⟨nd,rfl⟩⟩;refine ⟨_,rfl,?_⟩)|(go_at_call 12;(with_reducible refine (attribute_Name.calls k (⟨#[97,46,46,98]⟩ : ByteArray) false _ ?side1 A4.out).mono ?_);(case side1 => first|exact HGMax.out|exact GlobMax.below HGMax.out (by repeat (first|(with_reducible first|exact HB.out|apply below_alloc|apply pw_below_drewN|apply below_drew1)|exact HB.out))|exact GlobMax.drawn HGMax.out (by repeat (first|exact Drawn0.refl _|apply Drawn0.step)));rintro e w' ⟨rfl,⟨nd,rfl⟩⟩)|(go_at_call 12;(with_reducible refine (attribute_Name.calls k (⟨#[65,87,83,46,120]⟩ : ByteArray) false _ ?side1 A7.out).mono ?_);(case side1 => first|exact HGMax.out|exact GlobMax.below HGMax.out (by repeat (first|(with_reducible first|exact HB.out|apply below_alloc|apply pw_below_drewN|apply below_drew1)|exact HB.out))|exact GlobMax.drawn HGMax.out (by repeat (first|exact Drawn0.refl _|apply Drawn0.step)));rintro e w' ⟨rfl,⟨nd,rfl⟩⟩))
      go_ret
      exact ⟨by first|rfl|(simp [errW_none,errW_some] <;> rfl)|(simp [*,errW_none,errW_some] <;> rfl),by repeat (first|(with_reducible first|exact HB.out|apply below_alloc|apply pw_below_drewN|apply below_drew1)|exact HB.out)⟩
    ·rw [if_neg c10] at H
     have c10b0 : (t147 == 2) = false:=beq_eq_false_iff_ne.mpr c10
     have c10b1 : (t147 != 2) = true:=bne_iff_ne.mpr c10
     obtain rfl:=Option.some.inj H
     go_enter Tryd.func16,Tryd.ntmps16
     go_wp2_with (first|((with_reducible refine gate_callee (f:=10) rfl ?_);refine goesL_ (some 4) rfl rfl Tryd.func10 (by kernel_rfl) rfl #[.string (⟨#[78,117,109,98,101,114,46,105,110,116]⟩ : ByteArray)] rfl (by (try simp only [List.map_toArray,List.map_cons,List.map_nil]);first|done|rfl|(simp only [List.length_drop,List.length_take];rfl)) ?_;(with_reducible refine (attribute_Type.calls k (⟨#[78,117,109,98,101,114,46,105,110,116]⟩ : ByteArray) t147 t148 _ A1.out).mono ?_);rintro e w24 ⟨rfl,hb⟩;refine ⟨_,rfl,?_⟩;have n0_:=Aside0.mk (below_step (by repeat (first|(with_reducible first|exact HB.out|apply below_alloc|apply pw_below_drewN|apply below_drew1)|exact HB.out)) hb);clear HB;have HB:=n0_;clear n0_;(try clear hb);(try clear hb2);(try clear hk);(try clear hi))|((with_reducible refine gate_callee (f:=12) rfl ?_);refine goesL_ (some 7) rfl rfl Tryd.func12 (by kernel_rfl) rfl #[.string (⟨#[97,46,98]⟩ : ByteArray)] rfl (by (try simp only [List.map_toArray,List.map_cons,List.map_nil]);first|done|rfl|(simp only [List.length_drop,List.length_take];rfl)) ?_;(with_reducible refine (attribute_Name.calls k (⟨#[97,46,98]⟩ : ByteArray) true _ ?side1 A2.out).mono ?_);(case side1 => first|exact HGMax.out|exact GlobMax.below HGMax.out (by repeat (first|(with_reducible first|exact HB.out|apply below_alloc|apply pw_below_drewN|apply below_drew1)|exact HB.out))|exact GlobMax.drawn HGMax.out (by repeat (first|exact Drawn0.refl _|apply Drawn0.step)));rintro e w' ⟨rfl,⟨nd,rfl⟩⟩;refine ⟨_,rfl,?_⟩)|(go_at_call 12;(with_reducible refine (attribute_Name.calls k (⟨#[97,46,46,98]⟩ : ByteArray) false _ ?side1 A4.out).mono ?_);(case side1 => first|exact HGMax.out|exact GlobMax.below HGMax.out (by repeat (first|(with_reducible first|exact HB.out|apply below_alloc|apply pw_below_drewN|apply below_drew1)|exact HB.out))|exact GlobMax.drawn HGMax.out (by repeat (first|exact Drawn0.refl _|apply Drawn0.step)));rintro e w' ⟨rfl,⟨nd,rfl⟩⟩)|(go_at_call 12;(with_reducible refine (attribute_Name.calls k (⟨#[65,87,83,46,120]⟩ : ByteArray) false _ ?side1 A7.out).mono ?_);(case side1 => first|exact HGMax.out|exact GlobMax.below HGMax.out (by repeat (first|(with_reducible first|exact HB.out|apply below_alloc|apply pw_below_drewN|apply below_drew1)|exact HB.out))|exact GlobMax.drawn HGMax.out (by repeat (first|exact Drawn0.refl _|apply Drawn0.step)));rintro e w' ⟨rfl,⟨nd,rfl⟩⟩))
     go_ret
     exact ⟨by first|rfl|(simp [errW_none,errW_some] <;> rfl)|(simp [*,errW_none,errW_some] <;> rfl),by repeat (first|(with_reducible first|exact HB.out|apply below_alloc|apply pw_below_drewN|apply below_drew1)|exact HB.out)⟩
 ·replace c3:=Bool.eq_false_iff.mpr c3
  subst c3
  have H1 : (some false) = some r:=by rw [if_neg (show ¬ (false = true) by decide)] at H;exact H
  clear H
  have H:=H1
  clear H1
  obtain rfl:=Option.some.inj H
  go_enter Tryd.func16,Tryd.ntmps16
  go_wp2_with (first|((with_reducible refine gate_callee (f:=10) rfl ?_);refine goesL_ (some 4) rfl rfl Tryd.func10 (by kernel_rfl) rfl #[.string (⟨#[78,117,109,98,101,114,46,105,110,116]⟩ : ByteArray)] rfl (by (try simp only [List.map_toArray,List.map_cons,List.map_nil]);first|done|rfl|(simp only [List.length_drop,List.length_take];rfl)) ?_;(with_reducible refine (attribute_Type.calls k (⟨#[78,117,109,98,101,114,46,105,110,116]⟩ : ByteArray) t147 t148 _ A1.out).mono ?_);rintro e w25 ⟨rfl,hb⟩;refine ⟨_,rfl,?_⟩;have n0_:=Aside0.mk (below_step (by repeat (first|(with_reducible first|exact HB.out|apply below_alloc|apply pw_below_drewN|apply below_drew1)|exact HB.out)) hb);clear HB;have HB:=n0_;clear n0_;(try clear hb);(try clear hb2);(try clear hk);(try clear hi))|((with_reducible refine gate_callee (f:=12) rfl ?_);refine goesL_ (some 7) rfl rfl Tryd.func12 (by kernel_rfl) rfl #[.string (⟨#[97,46,98]⟩ : ByteArray)] rfl (by (try simp only [List.map_toArray,List.map_cons,List.map_nil]);first|done|rfl|(simp only [List.length_drop,List.length_take];rfl)) ?_;(with_reducible refine (attribute_Name.calls k (⟨#[97,46,98]⟩ : ByteArray) false _ ?side1 A2.out).mono ?_);(case side1 => first|exact HGMax.out|exact GlobMax.below HGMax.out (by repeat (first|(with_reducible first|exact HB.out|apply below_alloc|apply pw_below_drewN|apply below_drew1)|exact HB.out))|exact GlobMax.drawn HGMax.out (by repeat (first|exact Drawn0.refl _|apply Drawn0.step)));rintro e w' ⟨rfl,⟨nd,rfl⟩⟩;refine ⟨_,rfl,?_⟩))
  go_ret
  exact ⟨by first|rfl|(simp [errW_none,errW_some] <;> rfl)|(simp [*,errW_none,errW_some] <;> rfl),by repeat (first|(with_reducible first|exact HB.out|apply below_alloc|apply pw_below_drewN|apply below_drew1)|exact HB.out)⟩
def racewaylaw24_few.l0 : Nat → List (S33) → List (S33) → Int → Option ((List (S33)))
 | 0,_,_,_ => none
 | k + 1,x0,x3,x4 => if x4 < (x0.length : Int) then (if x4 < 14 then (if 0 ≤ x4 then (if 0 ≤ (mn (((rd_T33 x0 x4).f0).size : Int) 100) then (if (mn (((rd_T33 x0 x4).f0).size : Int) 100) ≤ (((rd_T33 x0 x4).f0).size : Int) then (if 0 ≤ (mn (((rd_T33 x0 x4).f1).size : Int) 100) then (if (mn (((rd_T33 x0 x4).f1).size : Int) 100) ≤ (((rd_T33 x0 x4).f1).size : Int) then (if 0 ≤ (mn (((rd_T33 x0 x4).f2).size : Int) 200) then (if (mn (((rd_T33 x0 x4).f2).size : Int) 200) ≤ (((rd_T33 x0 x4).f2).size : Int) then (if x3.length < 2932031007402 then (racewaylaw24_few.l0 k x0 (x3 ++ [(⟨((rd_T33 x0 x4).f0).extract 0 ((mn (((rd_T33 x0 x4).f0).size : Int) 100) : Int).toNat,((rd_T33 x0 x4).f1).extract 0 ((mn (((rd_T33 x0 x4).f1).size : Int) 100) : Int).toNat,((rd_T33 x0 x4).f2).extract 0 ((mn (((rd_T33 x0 x4).f2).size : Int) 200) : Int).toNat⟩ : S33)]) (wrap64 (x4 + 1))) else (none)) else (none)) else (none)) else (none)) else (none)) else (none)) else (none)) else (none)) else (some x3)) else (some x3)
def racewaylaw24_few.f (k : Nat) (l0 : List (S33)) : Option ((List (S33))):=racewaylaw24_few.l0 k l0 ([] : List (S33)) 0
def racewaylaw24_few.T6 : Bool × List (List Nat × List Nat):=(true,[([],[]),([0],[0]),([],[]),([2],[2]),([3],[3]),([4],[4]),([1,5],[1,5]),([],[]),([7],[7]),([],[]),([9],[9]),([10],[10]),([11],[11]),([8,12],[8,12]),([],[]),([14],[14]),([],[]),([16],[16]),([17],[17]),([18],[18]),([15,19],[15,19]),([0,1,2,3,4,5,6,7,8,9,10,14,15,16,17],[]),([21,6,0,1,2,3,4,5,6,7,8,9,10,14,15,16,17],[6,21]),([0,1,2,3,4,5,6,7,8,9,10,11,12,13,14,15,16,17,21,22],[]),([23,13,22,0,1,2,3,4,5,6,7,8,9,10,11,12,13,14,15,16,17,21,22],[13,23]),([0,1,2,3,4,5,6,7,8,9,10,11,12,13,14,15,16,17,18,19,20,21,22,23,24],[]),([25,20,24,0,1,2,3,4,5,6,7,8,9,10,11,12,13,14,15,16,17,18,19,20,21,22,23,24],[20,25])])
def racewaylaw24_few.B6 : List Nat:=[0,1,0,4,12,28,63,0,128,0,512,1536,3584,8064,0,16384,0,65536,196608,458752,1032192,247807,2344959,6553599,14942207,33554431,67108863]
theorem racewaylaw24_few.tab6 : rtab .any (opsOf Tryd.f17 6) = racewaylaw24_few.T6:=by kernel_rfl
theorem racewaylaw24_few.bits6 : waitsOk racewaylaw24_few.T6.2 racewaylaw24_few.B6 = true:=by kernel_rfl
set_option maxHeartbeats 8000000 in
set_option maxRecDepth 100000 in
theorem racewaylaw24_few.calls (k : Nat) (A0 : Option Addr) (c0 : Nat) (l0 : List (S33)) (r : List (S33)) (w : World) (hr0 : Kd.C k33 w A0 l0.length l0) (hc0 : l0.length ≤ c0) (h : racewaylaw24_few.f k l0 = some r) :
  Calls Tryd.prog 17 #[.slice A0 l0.length c0] w fun e w' => ∃ v0_ : Value,e = .returned (v0_) ∧ Kd.R k33 33 w' w.heap.size (fun _ => True) v0_ r ∧ Below w.heap.size w w':=by
 have hu33:=Tryd.underlying33
 have HR0:=Aside0.mk hr0
 have HC0:=Aside0.mk hc0
 clear hr0 hc0
 have HB:=Aside0.mk (Below.refl w.heap.size w)
 have H : (racewaylaw24_few.l0 k l0 ([] : List (S33)) 0) = some r:=h
 clear h
 have H':=Aside0.mk H
 clear H
 go_enter Tryd.func17,Tryd.ntmps17
 go_wp2
 go_loopg [3,4] k (fun kq v3 v4 w' => ∃ (x3_1 : List (S33)) (x4_1 : Int),v4 = .int .i64 x4_1 ∧ Aside0 (racewaylaw24_few.l0 kq l0 x3_1 x4_1 = some r) ∧ Aside0 (kq ≤ k) ∧ Aside0 (Kd.R k33 33 w' w.heap.size (fun _ => True) v3 x3_1) ∧ Aside0 (Below w.heap.size w w'))
 case atStart => exact ⟨(([] : List (S33))),(0),(by first|rfl|(simp;done)|(simp;decide +kernel)|(simp [*];done)),(by first|exact H'|(subst_vars;exact H')),⟨Nat.le_refl _⟩,⟨by first|exact Kd.R_nil _ _ _ _ _|exact Kd.N_nil _ _ _ _ _|exact Kd.V_nil _ _ _ _ _|exact Kd.Q_nil _ _ _ _ _|exact Kd.S_nil _ _ _ _ _⟩,⟨by repeat (first|(with_reducible first|exact HB.out|apply below_alloc|apply pw_below_drewN|apply below_drew1)|exact HB.out)⟩⟩
 case round =>
  clear H'
  try clear c1
  obtain ⟨x3_1,x4_1,rfl,HA,HK1,HO_3,HB⟩:=hrel
  cases gk with
  | zero => exact absurd HA.out (by simp [racewaylaw24_few.l0])
  | succ k1 =>
   have H:=HA.out
   clear HA
   simp only [racewaylaw24_few.l0] at H
   by_cases c2 : x4_1 < (l0.length : Int)
   ·rw [if_pos c2] at H
    have c2b0 : decide (x4_1 < (l0.length : Int)) = true:=decide_eq_true c2
    clear c2
    by_cases c3 : x4_1 < 14
    ·rw [if_pos c3] at H
     have c3b0 : decide (x4_1 < 14) = true:=decide_eq_true c3
     clear c3
     by_cases c4 : 0 ≤ x4_1
     ·rw [if_pos c4] at H
      have c4b0 : decide (0 ≤ x4_1) = true:=decide_eq_true c4
      clear c4
      obtain ⟨ji5,hji5⟩ : ∃ j_ : Int,(mn (((rd_T33 l0 x4_1).f0).size : Int) 100) = j_:=⟨_,rfl⟩
      replace H : (if 0 ≤ (ji5) then (if (ji5) ≤ (((rd_T33 l0 x4_1).f0).size : Int) then (if 0 ≤ (mn (((rd_T33 l0 x4_1).f1).size : Int) 100) then (if (mn (((rd_T33 l0 x4_1).f1).size : Int) 100) ≤ (((rd_T33 l0 x4_1).f1).size : Int) then (if 0 ≤ (mn (((rd_T33 l0 x4_1).f2).size : Int) 200) then (if (mn (((rd_T33 l0 x4_1).f2).size : Int) 200) ≤ (((rd_T33 l0 x4_1).f2).size : Int) then (if x3_1.length < 2932031007402 then (racewaylaw24_few.l0 k1 l0 (x3_1 ++ [(⟨((rd_T33 l0 x4_1).f0).extract 0 ((ji5) : Int).toNat,((rd_T33 l0 x4_1).f1).extract 0 ((mn (((rd_T33 l0 x4_1).f1).size : Int) 100) : Int).toNat,((rd_T33 l0 x4_1).f2).extract 0 ((mn (((rd_T33 l0 x4_1).f2).size : Int) 200) : Int).toNat⟩ : S33)]) (wrap64 (x4_1 + 1))) else (none)) else (none)) else (none)) else (none)) else (none)) else (none)) else (none)) = some r:=by first|(rw [hji5] at H;exact H)|(simp only [hji5] at H ⊢;exact H)
      have hji5_ : (if 100 < (((rd_T33 l0 x4_1).f0).size : Int) then 100 else (((rd_T33 l0 x4_1).f0).size : Int)) = ji5:=hji5
      by_cases c6 : 0 ≤ (ji5)
      ·rw [if_pos c6] at H
       have c6b0:=eq_true c6
       have c6b1 : decide (0 ≤ (ji5)) = true:=decide_eq_true c6
       clear c6
       by_cases c7 : (ji5) ≤ (((rd_T33 l0 x4_1).f0).size : Int)
       ·rw [if_pos c7] at H
        have c7b0:=eq_true c7
        have c7b1 : decide ((ji5) ≤ (((rd_T33 l0 x4_1).f0).size : Int)) = true:=decide_eq_true c7
        clear c7
        obtain ⟨ji8,hji8⟩ : ∃ j_ : Int,(mn (((rd_T33 l0 x4_1).f1).size : Int) 100) = j_:=⟨_,rfl⟩
        replace H : (if 0 ≤ (ji8) then (if (ji8) ≤ (((rd_T33 l0 x4_1).f1).size : Int) then (if 0 ≤ (mn (((rd_T33 l0 x4_1).f2).size : Int) 200) then (if (mn (((rd_T33 l0 x4_1).f2).size : Int) 200) ≤ (((rd_T33 l0 x4_1).f2).size : Int) then (if x3_1.length < 2932031007402 then (racewaylaw24_few.l0 k1 l0 (x3_1 ++ [(⟨((rd_T33 l0 x4_1).f0).extract 0 ((ji5) : Int).toNat,((rd_T33 l0 x4_1).f1).extract 0 ((ji8) : Int).toNat,((rd_T33 l0 x4_1).f2).extract 0 ((mn (((rd_T33 l0 x4_1).f2).size : Int) 200) : Int).toNat⟩ : S33)]) (wrap64 (x4_1 + 1))) else (none)) else (none)) else (none)) else (none)) else (none)) = some r:=by first|(rw [hji8] at H;exact H)|(simp only [hji8] at H ⊢;exact H)
        have hji8_ : (if 100 < (((rd_T33 l0 x4_1).f1).size : Int) then 100 else (((rd_T33 l0 x4_1).f1).size : Int)) = ji8:=hji8
        by_cases c9 : 0 ≤ (ji8)
        ·rw [if_pos c9] at H
         have c9b0:=eq_true c9
         have c9b1 : decide (0 ≤ (ji8)) = true:=decide_eq_true c9
         clear c9
         by_cases c10 : (ji8) ≤ (((rd_T33 l0 x4_1).f1).size : Int)
         ·rw [if_pos c10] at H
          have c10b0:=eq_true c10
          have c10b1 : decide ((ji8) ≤ (((rd_T33 l0 x4_1).f1).size : Int)) = true:=decide_eq_true c10
          clear c10
          obtain ⟨ji11,hji11⟩ : ∃ j_ : Int,(mn (((rd_T33 l0 x4_1).f2).size : Int) 200) = j_:=⟨_,rfl⟩
          replace H : (if 0 ≤ (ji11) then (if (ji11) ≤ (((rd_T33 l0 x4_1).f2).size : Int) then (if x3_1.length < 2932031007402 then (racewaylaw24_few.l0 k1 l0 (x3_1 ++ [(⟨((rd_T33 l0 x4_1).f0).extract 0 ((ji5) : Int).toNat,((rd_T33 l0 x4_1).f1).extract 0 ((ji8) : Int).toNat,((rd_T33 l0 x4_1).f2).extract 0 ((ji11) : Int).toNat⟩ : S33)]) (wrap64 (x4_1 + 1))) else (none)) else (none)) else (none)) = some r:=by first|(rw [hji11] at H;exact H)|(simp only [hji11] at H ⊢;exact H)
          have hji11_ : (if 200 < (((rd_T33 l0 x4_1).f2).size : Int) then 200 else (((rd_T33 l0 x4_1).f2).size : Int)) = ji11:=hji11
          by_cases c12 : 0 ≤ (ji11)
          ·rw [if_pos c12] at H
           have c12b0:=eq_true c12
           have c12b1 : decide (0 ≤ (ji11)) = true:=decide_eq_true c12
           clear c12
           by_cases c13 : (ji11) ≤ (((rd_T33 l0 x4_1).f2).size : Int)
           ·rw [if_pos c13] at H
            have c13b0:=eq_true c13
            have c13b1 : decide ((ji11) ≤ (((rd_T33 l0 x4_1).f2).size : Int)) = true:=decide_eq_true c13
            clear c13
            by_cases c14 : x3_1.length < 2932031007402
            ·rw [if_pos c14] at H
             have LMc14:=Aside0.mk c14
             clear c14
             obtain ⟨y168,hy168⟩ : ∃ y_ : List (S33),y_ = (x3_1 ++ [(⟨((rd_T33 l0 x4_1).f0).extract 0 ((ji5) : Int).toNat,((rd_T33 l0 x4_1).f1).extract 0 ((ji8) : Int).toNat,((rd_T33 l0 x4_1).f2).extract 0 ((ji11) : Int).toNat⟩ : S33)]):=⟨_,rfl⟩
             replace H : (racewaylaw24_few.l0 k1 l0 y168 (wrap64 (x4_1 + 1))) = some r:=by first|(rw [hy168];with_reducible exact H)|(have H2_:=(Option.bind_some _ _).symm.trans H;rw [hy168];with_reducible exact H2_)|(have H2_:=(Option.bind_some _ _).symm.trans H;with_reducible exact H2_)|with_reducible exact H|(rw [hy168];exact H)|exact H
             have Ny168:=Aside0.mk hy168
             clear hy168
             have H':=Aside0.mk H
             clear H
             have p166 : 0 ≤ (x4_1 : Int):=of_decide_eq_true (by first|(with_reducible assumption)|assumption)
             have q166 : x4_1 < (l0.length : Int):=of_decide_eq_true (by first|(with_reducible assumption)|assumption)
             obtain ⟨ad166,e166,hx166_0,hx166_1,hx166_2⟩:=at_T33 HR0.out x4_1 p166 q166
             cases e166
             replace hx166_0:=(HB.out.cell (World.block_lt_of_cell? w _ hx166_0)).trans hx166_0
             replace hx166_1:=(HB.out.cell (World.block_lt_of_cell? w _ hx166_1)).trans hx166_1
             replace hx166_2:=(HB.out.cell (World.block_lt_of_cell? w _ hx166_2)).trans hx166_2
             replace p166:=eq_true p166
             replace q166:=eq_true q166
             try go_wp2_with (first|((with_reducible refine gate_dst (N:=5) rfl ?_);refine box_event ?hg (N:=5) ?hd (cs:=#[.string (⟨#[]⟩ : ByteArray),.string (⟨#[]⟩ : ByteArray),.string (⟨#[]⟩ : ByteArray)]) (t:=33) ?hr ?_;(case hd => rfl);(case hg => rfl);(case hr => first|(go_simp;done)|(go_simp;rfl));intro gb167 hg w15 hbox hb;have n0_:=Aside0.mk (Kd.R_below (Kd.R_elderB (by (with_reducible repeat (first|apply Kd.R_alloc|apply Kd.R_drewN|apply Kd.R_drew));exact HO_3.out) gb167 (Nat.le_of_eq hg.symm)) hb);have n1_:=Aside0.mk (below_step (by repeat (first|(with_reducible first|exact HB.out|apply below_alloc|apply pw_below_drewN|apply below_drew1)|exact HB.out)) hb);have n2_:=Aside0.mk (hbox);have n3_:=Aside0.mk ((by rw [hg];exact (below_size (by repeat (first|(with_reducible first|exact HB.out|apply below_alloc|apply pw_below_drewN|apply below_drew1)|exact HB.out))) : w.heap.size ≤ gb167));have n4_:=Aside0.mk ((by rw [hg];exact (below_size (by repeat (first|(with_reducible first|exact HB.out|apply below_alloc|apply pw_below_drewN|apply below_drew1)|exact HB.out))) : w.heap.size ≤ gb167));clear HO_3;clear HB;have HO_3:=n0_;have HB:=n1_;have BK167:=n2_;have GW167:=n3_;have GE167:=n4_;clear n0_ n1_ n2_ n3_ n4_;clear hb hbox hg;have hcz16_0 : w15.cell? ⟨gb167,0,none⟩ = some (.string (⟨#[]⟩ : ByteArray)):=(blk_cell BK167.out 0).trans rfl;have hcz16_1 : w15.cell? ⟨gb167,1,none⟩ = some (.string (⟨#[]⟩ : ByteArray)):=(blk_cell BK167.out 1).trans rfl;have hcz16_2 : w15.cell? ⟨gb167,2,none⟩ = some (.string (⟨#[]⟩ : ByteArray)):=(blk_cell BK167.out 2).trans rfl;have hfz16_0:=blk_frozen BK167.out 0;have hfz16_1:=blk_frozen BK167.out 1;have hfz16_2:=blk_frozen BK167.out 2))
             have n0_ : Aside0 (Kd.R k33 33 (((w15.setCell ⟨gb167,0,none⟩ (.string ((rd_T33 l0 x4_1).f0))).setCell ⟨gb167,1,none⟩ (.string ((rd_T33 l0 x4_1).f1))).setCell ⟨gb167,2,none⟩ (.string ((rd_T33 l0 x4_1).f2))) w.heap.size (fun k_ => k_ ≠ gb167) u3 x3_1):=⟨by (with_reducible repeat (first|apply Kd.R_alloc|apply Kd.R_drewN|apply Kd.R_drew));exact Kd.R_mono (Kd.R_far (p:=⟨gb167,2,none⟩) (Kd.R_far (p:=⟨gb167,1,none⟩) (Kd.R_far (p:=⟨gb167,0,none⟩) (Kd.R_mono HO_3.out (fun k_ hk => (⟨hk,hk.2⟩ : _ ∧ k_ ≠ gb167))) (fun _ hk => hk.2) (.string ((rd_T33 l0 x4_1).f0))) (fun _ hk => hk.2) (.string ((rd_T33 l0 x4_1).f1))) (fun _ hk => hk.2) (.string ((rd_T33 l0 x4_1).f2))) (fun _ hk => hk.1.2)⟩
             have n1_ : Aside0 ((((w15.setCell ⟨gb167,0,none⟩ (.string ((rd_T33 l0 x4_1).f0))).setCell ⟨gb167,1,none⟩ (.string ((rd_T33 l0 x4_1).f1))).setCell ⟨gb167,2,none⟩ (.string ((rd_T33 l0 x4_1).f2))).heap[gb167]? = some (.cells #[.string ((rd_T33 l0 x4_1).f0),.string ((rd_T33 l0 x4_1).f1),.string ((rd_T33 l0 x4_1).f2)] 33 (0,0))):=⟨by (with_reducible repeat (first|refine blk_drewN ?_ _|refine blk_drew ?_|refine blk_alloc ?_ _));refine blk_put (cs:=#[.string ((rd_T33 l0 x4_1).f0),.string ((rd_T33 l0 x4_1).f1),.string (⟨#[]⟩ : ByteArray)]) ?_ 2 _ rfl;(with_reducible repeat (first|refine blk_drewN ?_ _|refine blk_drew ?_|refine blk_alloc ?_ _));refine blk_put (cs:=#[.string ((rd_T33 l0 x4_1).f0),.string (⟨#[]⟩ : ByteArray),.string (⟨#[]⟩ : ByteArray)]) ?_ 1 _ rfl;(with_reducible repeat (first|refine blk_drewN ?_ _|refine blk_drew ?_|refine blk_alloc ?_ _));refine blk_put (cs:=#[.string (⟨#[]⟩ : ByteArray),.string (⟨#[]⟩ : ByteArray),.string (⟨#[]⟩ : ByteArray)]) ?_ 0 _ rfl;(with_reducible repeat (first|refine blk_drewN ?_ _|refine blk_drew ?_|refine blk_alloc ?_ _));exact BK167.out⟩
             have n2_ : Aside0 (Below w.heap.size w (((w15.setCell ⟨gb167,0,none⟩ (.string ((rd_T33 l0 x4_1).f0))).setCell ⟨gb167,1,none⟩ (.string ((rd_T33 l0 x4_1).f1))).setCell ⟨gb167,2,none⟩ (.string ((rd_T33 l0 x4_1).f2)))):=⟨by repeat (first|(with_reducible first|exact HB.out|apply below_alloc|apply pw_below_drewN|apply below_drew1|refine below_set ?_ GE167.out)|exact HB.out)⟩
             (try clear HO_3)
             (try clear BK167)
             (try clear HB)
             generalize (((w15.setCell ⟨gb167,0,none⟩ (.string ((rd_T33 l0 x4_1).f0))).setCell ⟨gb167,1,none⟩ (.string ((rd_T33 l0 x4_1).f1))).setCell ⟨gb167,2,none⟩ (.string ((rd_T33 l0 x4_1).f2))) = w17 at n0_ n1_ n2_ ⊢
             have HO_3:=n0_
             have BK167:=n1_
             have HB:=n2_
             clear n0_ n1_ n2_
             have n0_:=Aside0.mk (Kd.R_drew HO_3.out)
             have n1_:=Aside0.mk (blk_drew BK167.out)
             have n2_:=Aside0.mk (below_drew1 HB.out)
             clear HO_3
             clear BK167
             clear HB
             have HO_3:=n0_
             have BK167:=n1_
             have HB:=n2_
             clear n0_ n1_ n2_
             refine start_ (n:=27) (S:=fun w' => w'.cell? ⟨gb167,0,none⟩ = some (.string ((rd_T33 l0 x4_1).f0)) ∧ w'.cell? ⟨gb167,1,none⟩ = some (.string ((rd_T33 l0 x4_1).f1)) ∧ w'.cell? ⟨gb167,2,none⟩ = some (.string ((rd_T33 l0 x4_1).f2))) (ds:=[22,24,26]) #[false,false,false,false,false,false,false,false,false,false,false,false,false,false,false,false,false,false,false,false,false,false,false,false,false,false,false] (by kernel_rfl) rfl rfl ⟨(blk_cell BK167.out 0).trans rfl,(blk_cell BK167.out 1).trans rfl,(blk_cell BK167.out 2).trans rfl⟩ (fun hHeld => ?_);refine with_tabW racewaylaw24_few.tab6 racewaylaw24_few.bits6 (fun HT_ HW_ => ?_)
             generalize w17.drew = w18 at HO_3 BK167 HB hHeld ⊢
             refine pure_ (i:=0) (N:=some 20) (v:=?_) (a':=?_) #[true,false,false,false,false,false,false,false,false,false,false,false,false,false,false,false,false,false,false,false,false,false,false,false,false,false,false] rfl rfl (any_of HT_.out (by kernel_rfl)) (fun _ _ _ h => h) (Or.inl ⟨by rfl,?_⟩) ?_ ?_
             rotate_left
             ·intro w'
              go_simp
              with_reducible rfl
             rotate_left
             ·simp only [Act.put,List.setIfInBounds_toArray,List.set_cons_zero,List.set_cons_succ,i64_w,i32_w]
              rfl
             refine pure_ (i:=2) (N:=some 22) (v:=?_) (a':=?_) #[true,false,true,false,false,false,false,false,false,false,false,false,false,false,false,false,false,false,false,false,false,false,false,false,false,false,false] rfl rfl (any_of HT_.out (by kernel_rfl)) (fun _ _ _ h => h) (Or.inl ⟨by rfl,?_⟩) ?_ ?_
             rotate_left
             ·intro w'
              go_simp
              with_reducible rfl
             rotate_left
             ·simp only [Act.put,List.setIfInBounds_toArray,List.set_cons_zero,List.set_cons_succ,i64_w,i32_w]
              rfl
             refine pure_ (i:=7) (N:=some 27) (v:=?_) (a':=?_) #[true,false,true,false,false,false,false,true,false,false,false,false,false,false,false,false,false,false,false,false,false,false,false,false,false,false,false] rfl rfl (any_of HT_.out (by kernel_rfl)) (fun _ _ _ h => h) (Or.inl ⟨by rfl,?_⟩) ?_ ?_
             rotate_left
             ·intro w'
              go_simp
              with_reducible rfl
             rotate_left
             ·simp only [Act.put,List.setIfInBounds_toArray,List.set_cons_zero,List.set_cons_succ,i64_w,i32_w]
              rfl
             refine pure_ (i:=9) (N:=some 29) (v:=?_) (a':=?_) #[true,false,true,false,false,false,false,true,false,true,false,false,false,false,false,false,false,false,false,false,false,false,false,false,false,false,false] rfl rfl (any_of HT_.out (by kernel_rfl)) (fun _ _ _ h => h) (Or.inl ⟨by rfl,?_⟩) ?_ ?_
             rotate_left
             ·intro w'
              go_simp
              with_reducible rfl
             rotate_left
             ·simp only [Act.put,List.setIfInBounds_toArray,List.set_cons_zero,List.set_cons_succ,i64_w,i32_w]
              rfl
             refine pure_ (i:=14) (N:=some 34) (v:=?_) (a':=?_) #[true,false,true,false,false,false,false,true,false,true,false,false,false,false,true,false,false,false,false,false,false,false,false,false,false,false,false] rfl rfl (any_of HT_.out (by kernel_rfl)) (fun _ _ _ h => h) (Or.inl ⟨by rfl,?_⟩) ?_ ?_
             rotate_left
             ·intro w'
              go_simp
              with_reducible rfl
             rotate_left
             ·simp only [Act.put,List.setIfInBounds_toArray,List.set_cons_zero,List.set_cons_succ,i64_w,i32_w]
              rfl
             refine pure_ (i:=16) (N:=some 36) (v:=?_) (a':=?_) #[true,false,true,false,false,false,false,true,false,true,false,false,false,false,true,false,true,false,false,false,false,false,false,false,false,false,false] rfl rfl (any_of HT_.out (by kernel_rfl)) (fun _ _ _ h => h) (Or.inl ⟨by rfl,?_⟩) ?_ ?_
             rotate_left
             ·intro w'
              go_simp
              with_reducible rfl
             rotate_left
             ·simp only [Act.put,List.setIfInBounds_toArray,List.set_cons_zero,List.set_cons_succ,i64_w,i32_w]
              rfl
             refine take_ (i:=1) (N:=some 21) (v:=?_) (a':=?_) #[true,true,true,false,false,false,false,true,false,true,false,false,false,false,true,false,true,false,false,false,false,false,false,false,false,false,false] rfl rfl (take_ofW HT_.out HW_.out (by kernel_rfl)) (fun _ _ _ h => h) (Or.inl ⟨by rfl,?_⟩) hHeld ?_ ?_
             rotate_left
             ·rintro w' ⟨s0,s1,s2⟩
              go_simp
              with_reducible rfl
             rotate_left
             ·simp only [Act.put,List.setIfInBounds_toArray,List.set_cons_zero,List.set_cons_succ,i64_w,i32_w]
              rfl
             refine take_ (i:=3) (N:=some 23) (v:=?_) (a':=?_) #[true,true,true,true,false,false,false,true,false,true,false,false,false,false,true,false,true,false,false,false,false,false,false,false,false,false,false] rfl rfl (take_ofW HT_.out HW_.out (by kernel_rfl)) (fun _ _ _ h => h) (Or.inl ⟨by rfl,?_⟩) hHeld ?_ ?_
             rotate_left
             ·rintro w' ⟨s0,s1,s2⟩
              go_simp
              with_reducible rfl
             rotate_left
             ·simp only [Act.put,List.setIfInBounds_toArray,List.set_cons_zero,List.set_cons_succ,i64_w,i32_w]
              rfl
             refine pure_ (i:=4) (N:=some 24) (v:=?_) (a':=?_) #[true,true,true,true,true,false,false,true,false,true,false,false,false,false,true,false,true,false,false,false,false,false,false,false,false,false,false] rfl rfl (any_of HT_.out (by kernel_rfl)) (fun _ _ _ h => h) (Or.inl ⟨by rfl,?_⟩) ?_ ?_
             rotate_left
             ·intro w'
              go_simp
              with_reducible rfl
             rotate_left
             ·simp only [Act.put,List.setIfInBounds_toArray,List.set_cons_zero,List.set_cons_succ,i64_w,i32_w]
              rfl
             refine pure_ (i:=5) (N:=some 25) (v:=?_) (a':=?_) #[true,true,true,true,true,true,false,true,false,true,false,false,false,false,true,false,true,false,false,false,false,false,false,false,false,false,false] rfl rfl (any_of HT_.out (by kernel_rfl)) (fun _ _ _ h => h) (Or.inl ⟨by rfl,?_⟩) ?_ ?_
             rotate_left
             ·intro w'
              go_simp
              with_reducible rfl
             rotate_left
             ·simp only [Act.put,List.setIfInBounds_toArray,List.set_cons_zero,List.set_cons_succ,i64_w,i32_w]
              rfl
             refine pure_ (i:=6) (N:=some 26) (v:=?_) (a':=?_) #[true,true,true,true,true,true,true,true,false,true,false,false,false,false,true,false,true,false,false,false,false,false,false,false,false,false,false] rfl rfl (any_of HT_.out (by kernel_rfl)) (fun _ _ _ h => h) (Or.inl ⟨by rfl,?_⟩) ?_ ?_
             rotate_left
             ·intro w'
              go_simp
              with_reducible rfl
             rotate_left
             ·simp only [Act.put,List.setIfInBounds_toArray,List.set_cons_zero,List.set_cons_succ,i64_w,i32_w]
              rfl
             refine take_ (i:=8) (N:=some 28) (v:=?_) (a':=?_) #[true,true,true,true,true,true,true,true,true,true,false,false,false,false,true,false,true,false,false,false,false,false,false,false,false,false,false] rfl rfl (take_ofW HT_.out HW_.out (by kernel_rfl)) (fun _ _ _ h => h) (Or.inl ⟨by rfl,?_⟩) hHeld ?_ ?_
             rotate_left
             ·rintro w' ⟨s0,s1,s2⟩
              go_simp
              with_reducible rfl
             rotate_left
             ·simp only [Act.put,List.setIfInBounds_toArray,List.set_cons_zero,List.set_cons_succ,i64_w,i32_w]
              rfl
             refine take_ (i:=10) (N:=some 30) (v:=?_) (a':=?_) #[true,true,true,true,true,true,true,true,true,true,true,false,false,false,true,false,true,false,false,false,false,false,false,false,false,false,false] rfl rfl (take_ofW HT_.out HW_.out (by kernel_rfl)) (fun _ _ _ h => h) (Or.inl ⟨by rfl,?_⟩) hHeld ?_ ?_
             rotate_left
             ·rintro w' ⟨s0,s1,s2⟩
              go_simp
              with_reducible rfl
             rotate_left
             ·simp only [Act.put,List.setIfInBounds_toArray,List.set_cons_zero,List.set_cons_succ,i64_w,i32_w]
              rfl
             refine pure_ (i:=11) (N:=some 31) (v:=?_) (a':=?_) #[true,true,true,true,true,true,true,true,true,true,true,true,false,false,true,false,true,false,false,false,false,false,false,false,false,false,false] rfl rfl (any_of HT_.out (by kernel_rfl)) (fun _ _ _ h => h) (Or.inl ⟨by rfl,?_⟩) ?_ ?_
             rotate_left
             ·intro w'
              go_simp
              with_reducible rfl
             rotate_left
             ·simp only [Act.put,List.setIfInBounds_toArray,List.set_cons_zero,List.set_cons_succ,i64_w,i32_w]
              rfl
             refine pure_ (i:=12) (N:=some 32) (v:=?_) (a':=?_) #[true,true,true,true,true,true,true,true,true,true,true,true,true,false,true,false,true,false,false,false,false,false,false,false,false,false,false] rfl rfl (any_of HT_.out (by kernel_rfl)) (fun _ _ _ h => h) (Or.inl ⟨by rfl,?_⟩) ?_ ?_
             rotate_left
             ·intro w'
              go_simp
              with_reducible rfl
             rotate_left
             ·simp only [Act.put,List.setIfInBounds_toArray,List.set_cons_zero,List.set_cons_succ,i64_w,i32_w]
              rfl
             refine pure_ (i:=13) (N:=some 33) (v:=?_) (a':=?_) #[true,true,true,true,true,true,true,true,true,true,true,true,true,true,true,false,true,false,false,false,false,false,false,false,false,false,false] rfl rfl (any_of HT_.out (by kernel_rfl)) (fun _ _ _ h => h) (Or.inl ⟨by rfl,?_⟩) ?_ ?_
             rotate_left
             ·intro w'
              go_simp
              with_reducible rfl
             rotate_left
             ·simp only [Act.put,List.setIfInBounds_toArray,List.set_cons_zero,List.set_cons_succ,i64_w,i32_w]
              rfl
             refine take_ (i:=15) (N:=some 35) (v:=?_) (a':=?_) #[true,true,true,true,true,true,true,true,true,true,true,true,true,true,true,true,true,false,false,false,false,false,false,false,false,false,false] rfl rfl (take_ofW HT_.out HW_.out (by kernel_rfl)) (fun _ _ _ h => h) (Or.inl ⟨by rfl,?_⟩) hHeld ?_ ?_
             rotate_left
             ·rintro w' ⟨s0,s1,s2⟩
              go_simp
              with_reducible rfl
             rotate_left
             ·simp only [Act.put,List.setIfInBounds_toArray,List.set_cons_zero,List.set_cons_succ,i64_w,i32_w]
              rfl
             refine take_ (i:=17) (N:=some 37) (v:=?_) (a':=?_) #[true,true,true,true,true,true,true,true,true,true,true,true,true,true,true,true,true,true,false,false,false,false,false,false,false,false,false] rfl rfl (take_ofW HT_.out HW_.out (by kernel_rfl)) (fun _ _ _ h => h) (Or.inl ⟨by rfl,?_⟩) hHeld ?_ ?_
             rotate_left
             ·rintro w' ⟨s0,s1,s2⟩
              go_simp
              with_reducible rfl
             rotate_left
             ·simp only [Act.put,List.setIfInBounds_toArray,List.set_cons_zero,List.set_cons_succ,i64_w,i32_w]
              rfl
             refine pure_ (i:=18) (N:=some 38) (v:=?_) (a':=?_) #[true,true,true,true,true,true,true,true,true,true,true,true,true,true,true,true,true,true,true,false,false,false,false,false,false,false,false] rfl rfl (any_of HT_.out (by kernel_rfl)) (fun _ _ _ h => h) (Or.inl ⟨by rfl,?_⟩) ?_ ?_
             rotate_left
             ·intro w'
              go_simp
              with_reducible rfl
             rotate_left
             ·simp only [Act.put,List.setIfInBounds_toArray,List.set_cons_zero,List.set_cons_succ,i64_w,i32_w]
              rfl
             refine pure_ (i:=19) (N:=some 39) (v:=?_) (a':=?_) #[true,true,true,true,true,true,true,true,true,true,true,true,true,true,true,true,true,true,true,true,false,false,false,false,false,false,false] rfl rfl (any_of HT_.out (by kernel_rfl)) (fun _ _ _ h => h) (Or.inl ⟨by rfl,?_⟩) ?_ ?_
             rotate_left
             ·intro w'
              go_simp
              with_reducible rfl
             rotate_left
             ·simp only [Act.put,List.setIfInBounds_toArray,List.set_cons_zero,List.set_cons_succ,i64_w,i32_w]
              rfl
             refine pure_ (i:=20) (N:=some 40) (v:=?_) (a':=?_) #[true,true,true,true,true,true,true,true,true,true,true,true,true,true,true,true,true,true,true,true,true,false,false,false,false,false,false] rfl rfl (any_of HT_.out (by kernel_rfl)) (fun _ _ _ h => h) (Or.inl ⟨by rfl,?_⟩) ?_ ?_
             rotate_left
             ·intro w'
              go_simp
              with_reducible rfl
             rotate_left
             ·simp only [Act.put,List.setIfInBounds_toArray,List.set_cons_zero,List.set_cons_succ,i64_w,i32_w]
              rfl
             refine pure_ (i:=21) (N:=some 41) (v:=?_) (a':=?_) #[true,true,true,true,true,true,true,true,true,true,true,true,true,true,true,true,true,true,true,true,true,true,false,false,false,false,false] rfl rfl (any_of HT_.out (by kernel_rfl)) (fun _ _ _ h => h) (Or.inl ⟨by rfl,?_⟩) ?_ ?_
             rotate_left
             ·intro w'
              go_simp
              with_reducible rfl
             rotate_left
             ·simp only [Act.put,List.setIfInBounds_toArray,List.set_cons_zero,List.set_cons_succ,i64_w,i32_w]
              rfl
             refine last_ (i:=22) (N:=none) #[true,true,true,true,true,true,true,true,true,true,true,true,true,true,true,true,true,true,true,true,true,true,true,false,false,false,false] rfl rfl (one_of HT_.out (by kernel_rfl)) (by decide) (fun K hK => ?_)
             have hs19 : w18.cell? ⟨gb167,0,none⟩ = some (.string ((rd_T33 l0 x4_1).f0)):=(blk_cell BK167.out 0).trans rfl
             have hfs19:=blk_frozen BK167.out 0
             refine skip_ (w1:=?_) (by rfl) rfl ?_ ?_
             rotate_left
             ·go_simp
              rfl
             refine hK.out _ _ ?_
             clear hK K
             refine pure_ (i:=23) (N:=some 42) (v:=?_) (a':=?_) #[true,true,true,true,true,true,true,true,true,true,true,true,true,true,true,true,true,true,true,true,true,true,true,true,false,false,false] rfl rfl (any_of HT_.out (by kernel_rfl)) (fun _ _ _ h => h) (Or.inl ⟨by rfl,?_⟩) ?_ ?_
             rotate_left
             ·intro w'
              go_simp
              with_reducible rfl
             rotate_left
             ·simp only [Act.put,List.setIfInBounds_toArray,List.set_cons_zero,List.set_cons_succ,i64_w,i32_w]
              rfl
             refine last_ (i:=24) (N:=none) #[true,true,true,true,true,true,true,true,true,true,true,true,true,true,true,true,true,true,true,true,true,true,true,true,true,false,false] rfl rfl (one_of HT_.out (by kernel_rfl)) (by decide) (fun K hK => ?_)
             have hs20 : w18.cell? ⟨gb167,1,none⟩ = some (.string ((rd_T33 l0 x4_1).f1)):=(blk_cell BK167.out 1).trans rfl
             have hfs20:=blk_frozen BK167.out 1
             refine skip_ (w1:=?_) (by rfl) rfl ?_ ?_
             rotate_left
             ·go_simp
              rfl
             refine hK.out _ _ ?_
             clear hK K
             refine pure_ (i:=25) (N:=some 43) (v:=?_) (a':=?_) #[true,true,true,true,true,true,true,true,true,true,true,true,true,true,true,true,true,true,true,true,true,true,true,true,true,true,false] rfl rfl (any_of HT_.out (by kernel_rfl)) (fun _ _ _ h => h) (Or.inl ⟨by rfl,?_⟩) ?_ ?_
             rotate_left
             ·intro w'
              go_simp
              with_reducible rfl
             rotate_left
             ·simp only [Act.put,List.setIfInBounds_toArray,List.set_cons_zero,List.set_cons_succ,i64_w,i32_w]
              rfl
             refine last_ (i:=26) (N:=none) #[true,true,true,true,true,true,true,true,true,true,true,true,true,true,true,true,true,true,true,true,true,true,true,true,true,true,true] rfl rfl (one_of HT_.out (by kernel_rfl)) (by decide) (fun K hK => ?_)
             have hs21 : w18.cell? ⟨gb167,2,none⟩ = some (.string ((rd_T33 l0 x4_1).f2)):=(blk_cell BK167.out 2).trans rfl
             have hfs21:=blk_frozen BK167.out 2
             refine skip_ (w1:=?_) (by rfl) rfl ?_ ?_
             rotate_left
             ·go_simp
              rfl
             refine hK.out _ _ ?_
             clear hK K
             refine done_ (done_of HT_.out (by kernel_rfl)) ?_
             have hcz22_0 : w18.cell? ⟨gb167,0,none⟩ = some (.string ((rd_T33 l0 x4_1).f0)):=(blk_cell BK167.out 0).trans rfl
             have hcz22_1 : w18.cell? ⟨gb167,1,none⟩ = some (.string ((rd_T33 l0 x4_1).f1)):=(blk_cell BK167.out 1).trans rfl
             have hcz22_2 : w18.cell? ⟨gb167,2,none⟩ = some (.string ((rd_T33 l0 x4_1).f2)):=(blk_cell BK167.out 2).trans rfl
             have hfz22_0:=blk_frozen BK167.out 0
             have hfz22_1:=blk_frozen BK167.out 1
             have hfz22_2:=blk_frozen BK167.out 2
             try go_wp2_with (first|((with_reducible refine gate_builtin (b:=.append) (xs:=#[.tmp 44,.tmp 46]) rfl ?_);at_builtin;refine Kd.R_append k33 (w0:=w) w.heap.size rfl (.tmp 44) (.tmp 46) 26 33 (.agg #[(.string ⟨#[]⟩),(.string ⟨#[]⟩),(.string ⟨#[]⟩)]) 48 rfl Tryd.underlying26 info33 rfl (by decide) (by omega) u3 x3_1 (⟨((rd_T33 l0 x4_1).f0).extract 0 ((ji5) : Int).toNat,((rd_T33 l0 x4_1).f1).extract 0 ((ji8) : Int).toNat,((rd_T33 l0 x4_1).f2).extract 0 ((ji11) : Int).toNat⟩ : S33) [.string (((rd_T33 l0 x4_1).f0).extract 0 ((ji5) : Int).toNat),.string (((rd_T33 l0 x4_1).f1).extract 0 ((ji8) : Int).toNat),.string (((rd_T33 l0 x4_1).f2).extract 0 ((ji11) : Int).toNat)] (fun k_ => k_ ≠ gb167) (fun _ => False) rfl (by first|(go_simp;done)|(go_simp;rfl)) ?aP (fun _ hk => hk.elim) ?aF ?aO ?aB ?aS ?aL ?_;(case aP => exact k33_mkM _ _ _ (⟨((rd_T33 l0 x4_1).f0).extract 0 ((ji5) : Int).toNat,((rd_T33 l0 x4_1).f1).extract 0 ((ji8) : Int).toNat,((rd_T33 l0 x4_1).f2).extract 0 ((ji11) : Int).toNat⟩ : S33));(case aB => exact (by repeat (first|(with_reducible first|exact HB.out|apply below_alloc|apply pw_below_drewN|apply below_drew1|refine below_set ?_ GE167.out)|exact HB.out)));(case aF => exact (fun k_ hk => Kd.freshB (g:=gb167) (o:=.cells #[.string (((rd_T33 l0 x4_1).f0).extract 0 ((ji5) : Int).toNat),.string (((rd_T33 l0 x4_1).f1).extract 0 ((ji8) : Int).toNat),.string (((rd_T33 l0 x4_1).f2).extract 0 ((ji11) : Int).toNat)] 33 (0,0)) (by (with_reducible repeat (first|refine blk_drewN ?_ _|refine blk_drew ?_|refine blk_alloc ?_ _));refine blk_put (cs:=#[.string (((rd_T33 l0 x4_1).f0).extract 0 ((ji5) : Int).toNat),.string (((rd_T33 l0 x4_1).f1).extract 0 ((ji8) : Int).toNat),.string ((rd_T33 l0 x4_1).f2)]) ?_ 2 _ rfl;(with_reducible repeat (first|refine blk_drewN ?_ _|refine blk_drew ?_|refine blk_alloc ?_ _));refine blk_put (cs:=#[.string (((rd_T33 l0 x4_1).f0).extract 0 ((ji5) : Int).toNat),.string ((rd_T33 l0 x4_1).f1),.string ((rd_T33 l0 x4_1).f2)]) ?_ 1 _ rfl;(with_reducible repeat (first|refine blk_drewN ?_ _|refine blk_drew ?_|refine blk_alloc ?_ _));refine blk_put (cs:=#[.string ((rd_T33 l0 x4_1).f0),.string ((rd_T33 l0 x4_1).f1),.string ((rd_T33 l0 x4_1).f2)]) ?_ 0 _ rfl;(with_reducible repeat (first|refine blk_drewN ?_ _|refine blk_drew ?_|refine blk_alloc ?_ _));exact BK167.out) k_ hk));(case aO => exact (by (with_reducible repeat (first|apply Kd.R_alloc|apply Kd.R_drewN|apply Kd.R_drew));exact Kd.R_mono (Kd.R_far (p:=⟨gb167,2,none⟩) (Kd.R_far (p:=⟨gb167,1,none⟩) (Kd.R_far (p:=⟨gb167,0,none⟩) (Kd.R_mono HO_3.out (fun k_ hk => (⟨hk,hk⟩ : _ ∧ k_ ≠ gb167))) (fun _ hk => hk.2) (.string (((rd_T33 l0 x4_1).f0).extract 0 ((ji5) : Int).toNat))) (fun _ hk => hk.2) (.string (((rd_T33 l0 x4_1).f1).extract 0 ((ji8) : Int).toNat))) (fun _ hk => hk.2) (.string (((rd_T33 l0 x4_1).f2).extract 0 ((ji11) : Int).toNat))) (fun _ hk => hk.1)));(case aS => exact (below_size (by repeat (first|(with_reducible first|exact HB.out|apply below_alloc|apply pw_below_drewN|apply below_drew1|refine below_set ?_ GE167.out)|exact HB.out))));(case aL => have:=LMc14.out;omega);intro v169 w23 ho hb hg hat;rw [← Ny168.out] at ho;have n0_:=Aside0.mk (blk_grown (g:=gb167) (o:=.cells #[.string (((rd_T33 l0 x4_1).f0).extract 0 ((ji5) : Int).toNat),.string (((rd_T33 l0 x4_1).f1).extract 0 ((ji8) : Int).toNat),.string (((rd_T33 l0 x4_1).f2).extract 0 ((ji11) : Int).toNat)] 33 (0,0)) (by (with_reducible repeat (first|refine blk_drewN ?_ _|refine blk_drew ?_|refine blk_alloc ?_ _));refine blk_put (cs:=#[.string (((rd_T33 l0 x4_1).f0).extract 0 ((ji5) : Int).toNat),.string (((rd_T33 l0 x4_1).f1).extract 0 ((ji8) : Int).toNat),.string ((rd_T33 l0 x4_1).f2)]) ?_ 2 _ rfl;(with_reducible repeat (first|refine blk_drewN ?_ _|refine blk_drew ?_|refine blk_alloc ?_ _));refine blk_put (cs:=#[.string (((rd_T33 l0 x4_1).f0).extract 0 ((ji5) : Int).toNat),.string ((rd_T33 l0 x4_1).f1),.string ((rd_T33 l0 x4_1).f2)]) ?_ 1 _ rfl;(with_reducible repeat (first|refine blk_drewN ?_ _|refine blk_drew ?_|refine blk_alloc ?_ _));refine blk_put (cs:=#[.string ((rd_T33 l0 x4_1).f0),.string ((rd_T33 l0 x4_1).f1),.string ((rd_T33 l0 x4_1).f2)]) ?_ 0 _ rfl;(with_reducible repeat (first|refine blk_drewN ?_ _|refine blk_drew ?_|refine blk_alloc ?_ _));exact BK167.out) hg (Kd.R_away HO_3.out (fun _ hk => hk)));have n1_:=Aside0.mk (hb);have n2_:=Aside0.mk (ho);clear BK167;clear HB;clear HO_3;have BK167:=n0_;have HB:=n1_;have HO170:=n2_;clear n0_ n1_ n2_;clear ho hb hg hat))
             go_roundg k1
             case measure => have:=HK1.out;omega
             case rel => exact ⟨(y168),(wrap64 (x4_1 + 1)),(by first|rfl|(simp;done)|(simp;decide +kernel)|(simp [*];done)),(by first|exact H'|(subst_vars;exact H')),⟨by have:=HK1.out;omega⟩,⟨by (with_reducible repeat (first|apply Kd.R_alloc|apply Kd.R_drewN|apply Kd.R_drew));exact Kd.R_mono HO170.out (fun _ hk => trivial)⟩,⟨by repeat (first|(with_reducible first|exact HB.out|apply below_alloc|apply pw_below_drewN|apply below_drew1|refine below_set ?_ GE167.out)|exact HB.out)⟩⟩
            ·rw [if_neg c14] at H
             exact absurd H (by simp)
           ·rw [if_neg c13] at H
            exact absurd H (by simp)
          ·rw [if_neg c12] at H
           exact absurd H (by simp)
         ·rw [if_neg c10] at H
          exact absurd H (by simp)
        ·rw [if_neg c9] at H
         exact absurd H (by simp)
       ·rw [if_neg c7] at H
        exact absurd H (by simp)
      ·rw [if_neg c6] at H
       exact absurd H (by simp)
     ·rw [if_neg c4] at H
      exact absurd H (by simp)
    ·rw [if_neg c3] at H
     have c3b0 : decide (x4_1 < 14) = false:=decide_eq_false c3
     clear c3
     obtain rfl:=Option.some.inj H
     go_wp2
     go_ret
     exact ⟨_,by first|rfl|(simp [errW_none,errW_some] <;> rfl)|(simp [*,errW_none,errW_some] <;> rfl),by (with_reducible repeat (first|apply Kd.R_alloc|apply Kd.R_drewN|apply Kd.R_drew));exact HO_3.out,by repeat (first|(with_reducible first|exact HB.out|apply below_alloc|apply pw_below_drewN|apply below_drew1)|exact HB.out)⟩
   ·rw [if_neg c2] at H
    have c2b0 : decide (x4_1 < (l0.length : Int)) = false:=decide_eq_false c2
    clear c2
    obtain rfl:=Option.some.inj H
    go_wp2
    go_ret
    exact ⟨_,by first|rfl|(simp [errW_none,errW_some] <;> rfl)|(simp [*,errW_none,errW_some] <;> rfl),by (with_reducible repeat (first|apply Kd.R_alloc|apply Kd.R_drewN|apply Kd.R_drew));exact HO_3.out,by repeat (first|(with_reducible first|exact HB.out|apply below_alloc|apply pw_below_drewN|apply below_drew1)|exact HB.out)⟩
end Go.Proofs.YtolpefnedpgaaaaDoor.X
namespace Go.Proofs.YtolpefnedpgaaaaDoor.X
open Go.RowKit Go.Proofs.YtolpefnedpgaaaaDoorW.PrintWords Go.Proofs.YtolpefnedpgaaaaDoorW.PrintMore
set_option linter.unusedVariables false
set_option linter.unusedSimpArgs false
def cutS (x : S33) : S33 :=
 ⟨x.f0.extract 0 ((mn (x.f0.size : Int) 100) : Int).toNat,x.f1.extract 0 ((mn (x.f1.size : Int) 100) : Int).toNat,x.f2.extract 0 ((mn (x.f2.size : Int) 200) : Int).toNat⟩
def fewB (l : List S33) : List S33:=(l.take 14).map cutS
theorem cutB_le (s : ByteArray) (n : Nat) : (s.extract 0 ((mn (s.size : Int) (n : Int)) : Int).toNat).size ≤ n:=by
 have:=cutB_size s n
 unfold cutB at this
 omega
theorem cutS_size (x : S33) : (cutS x).f0.size ≤ 100 ∧ (cutS x).f1.size ≤ 100 ∧ (cutS x).f2.size ≤ 200:=⟨cutB_le _ 100,cutB_le _ 100,cutB_le _ 200⟩
theorem fewB_length (l : List S33) : (fewB l).length = min 14 l.length:=by simp [fewB]
def small (L : List S33) : Prop:=L.length ≤ 14 ∧ ∀ x ∈ L,x.f0.size ≤ 100 ∧ x.f1.size ≤ 100 ∧ x.f2.size ≤ 200
theorem fewB_small (l : List S33) : small (fewB l):=by
 refine ⟨by rw [fewB_length];omega,fun x hx => ?_⟩
 unfold fewB at hx
 obtain ⟨y,_,rfl⟩:=List.mem_map.1 hx
 exact cutS_size y
theorem rd33 (l : List S33) (i : Nat) : rd_T33 l (i : Int) = l.getD i z33:=by unfold rd_T33;rw [Int.toNat_natCast]
theorem fewB_at (l : List S33) (i : Nat) (h1 : i < l.length) (h2 : i < 14) : (fewB l).take (i + 1) = (fewB l).take i ++ [cutS (l.getD i z33)]:=by
 rw [List.take_succ_eq_append_getElem (by rw [fewB_length];omega)]
 congr 2
 unfold fewB
 simp [List.getD,h1]
theorem few_l0 (l : List S33) : ∀ (d k i : Nat),i + d = min 14 l.length → d < k → racewaylaw24_few.l0 k l ((fewB l).take i) (i : Int) = some (fewB l):=by
 intro d
 induction d with
 | zero =>
  intro k i h hk
  obtain ⟨k,rfl⟩ : ∃ m,k = m + 1:=⟨k - 1,by omega⟩
  simp only [racewaylaw24_few.l0]
  rw [List.take_of_length_le (by rw [fewB_length];omega)]
  by_cases h1 : (i : Int) < (l.length : Int)
  ·rw [if_pos h1,if_neg (by omega)]
  ·rw [if_neg h1]
 | succ d ih =>
  intro k i h hk
  obtain ⟨k,rfl⟩ : ∃ m,k = m + 1:=⟨k - 1,by omega⟩
  simp only [racewaylaw24_few.l0]
  have hm : ∀ (s : ByteArray) (n : Nat),0 ≤ mn (s.size : Int) (n : Int) ∧ mn (s.size : Int) (n : Int) ≤ (s.size : Int):=by
   intro s n
   refine ⟨?_,mn_le_left _ _⟩
   rcases mn_cases (s.size : Int) (n : Int) with h|h <;> rw [h] <;> omega
  have ha:=fun s => hm s 100
  have hb:=fun s => hm s 200
  rw [show ((100 : Nat) : Int) = 100 from rfl] at ha
  rw [show ((200 : Nat) : Int) = 200 from rfl] at hb
  rw [if_pos (by omega),if_pos (by omega),if_pos (by omega),rd33,if_pos (ha _).1,if_pos (ha _).2,if_pos (ha _).1,if_pos (ha _).2,if_pos (hb _).1,if_pos (hb _).2,if_pos (by rw [List.length_take,fewB_length];omega)]
  have e:=fewB_at l i (by omega) (by omega)
  unfold cutS at e
  rw [← e,w64 (by omega) (by omega),show ((i : Int) + 1) = ((i + 1 : Nat) : Int) by omega]
  exact ih k (i + 1) (by omega) (by omega)
theorem few_eq (l : List S33) (k : Nat) (hk : 20 < k) : racewaylaw24_few.f k l = some (fewB l):=by
 unfold racewaylaw24_few.f
 have:=few_l0 l (min 14 l.length) k 0 (by omega) (by omega)
 rw [List.take_zero] at this
 exact this
end Go.Proofs.YtolpefnedpgaaaaDoor.X
namespace Go.Proofs.YtolpefnedpgaaaaDoor.X
open Go.RowKit Go.Proofs.YtolpefnedpgaaaaDoorW.PrintWords Go.Proofs.YtolpefnedpgaaaaDoorW.PrintMore
set_option linter.unusedVariables false
set_option linter.unusedSimpArgs false
theorem hexL_length : ∀ l : List Int,(hexL l).length = 2 * l.length
 | [] => rfl
 | x :: l => by
  have:=hexL_length l
  unfold hexL at this ⊢
  simp only [List.flatMap_cons,List.length_append,this,List.length_cons,List.length_nil]
  omega
theorem outL_length : ∀ l : List Int,(outL l).length = 4 * l.length
 | [] => rfl
 | x :: l => by
  have:=outL_length l
  unfold outL at this ⊢
  simp only [List.flatMap_cons,List.length_append,this,List.length_cons,List.length_nil]
  omega
theorem sum_length {s : Fp} (h : s.Ok) : s.sum.length = 16:=by
 unfold Fp.sum
 rw [outL_length]
 have : s.fin.Ok:=by unfold Fp.fin;exact Fp.bytes_ok (Fp.bytes_ok (Fp.byte_ok h _) _) _
 rw [this.1]
theorem strOfNums_size (l : List Int) : (strOfNums l).size = l.length:=by
 unfold strOfNums
 show Array.size _ = _
 simp
theorem sum_one (k : Nat) (x : S33) (hx : small33 x) (hk : x.f1.size + 13 < k) : ∃ r,attribute_Sum.f k [x] = some r ∧ r.size = 32:=by
 unfold attribute_Sum.f
 rw [if_neg (by simp),if_pos (by simp),show sortA [x] = [x] from rfl]
 unfold sumAll sumStep
 rw [if_pos hx,Type_eq x.f1 (by have:=hx.2.1;omega) k hk]
 refine ⟨_,rfl,?_⟩
 rw [strOfNums_size,hexL_length,sum_length]
 exact Fp.text_ok (Fp.bytes_ok (Fp.text_ok (Fp.text_ok fp0_ok _) _) _) _
theorem works_eq (k : Nat) (hk : 4000 < k) : racewaylaw24_works.f k = some true:=by
 unfold racewaylaw24_works.f
 rw [Type_eq _ (by decide) k (by show 10 + 13 < k;omega),Name_eq _ (by decide) k (by show 3 + 20 < k;omega),Name_eq _ (by decide) k (by show 4 + 20 < k;omega),Name_eq _ (by decide) k (by show 5 + 20 < k;omega),Number_eq _ (by decide) k (by omega)]
 obtain ⟨r,h1,h2⟩:=sum_one k ⟨⟨#[97]⟩,⟨#[83,116,114,105,110,103]⟩,⟨#[120]⟩⟩ (by decide) (by show 6 + 13 < k;omega)
 rw [h1]
 rw [show typeF ⟨#[78,117,109,98,101,114,46,105,110,116]⟩ kindsL 3 0 = (2,true) by decide +kernel]
 rw [show nameB ⟨#[97,46,98]⟩ = true by decide +kernel,show nameB ⟨#[97,46,46,98]⟩ = false by decide +kernel,show nameB ⟨#[65,87,83,46,120]⟩ = false by decide +kernel]
 rw [show numA (⟨#[45,49,46,53,101,51]⟩ : ByteArray).data.toList = true by decide +kernel]
 simp only [Option.bind_some,if_true,Bool.false_eq_true,if_false]
 rw [h2]
 rfl
end Go.Proofs.YtolpefnedpgaaaaDoor.X
namespace Go.Proofs.YtolpefnedpgaaaaDoor.X
open Go.RowKit Go.Proofs.YtolpefnedpgaaaaDoorW.PrintWords Go.Proofs.YtolpefnedpgaaaaDoorW.PrintLast Go.Proofs.YtolpefnedpgaaaaDoorW.PrintMore
set_option linter.unusedVariables false
set_option linter.unusedSimpArgs false
structure WhyW (w wr : World) (B : Nat) (A : Option Addr) (l : List S33) (x : S33) : Prop where
 P : wr.heap[B]? = some (.cells (vA x).toArray 33 (0,0))
 C : Kd.C k33 wr A l.length l
 G : GlobMax wr
 L : Below w.heap.size w wr
theorem WhyW.below {w wr wr' : World} {B : Nat} {A : Option Addr} {l : List S33} {x : S33} (h : WhyW w wr B A l x) (hb : Below wr.heap.size wr wr') : WhyW w wr' B A l x :=
 ⟨(hb.block _ (Array.getElem?_eq_some_iff.mp h.P).1).trans h.P,Kd.C_below h.C hb,h.G.below hb,below_step h.L hb⟩
theorem WhyW.drawn {w wr wr' : World} {B : Nat} {A : Option Addr} {l : List S33} {x : S33} (h : WhyW w wr B A l x) (hd : Drawn0 wr wr') : WhyW w wr' B A l x:=h.below hd.below
theorem WhyW.cells {w wr : World} {B : Nat} {A : Option Addr} {l : List S33} {x : S33} (h : WhyW w wr B A l x) : wr.cell? ⟨B,0,none⟩ = some (.string x.f0) ∧ wr.cell? ⟨B,1,none⟩ = some (.string x.f1) ∧ wr.cell? ⟨B,2,none⟩ = some (.string x.f2) :=
 ⟨(blk_cell h.P 0).trans rfl,(blk_cell h.P 1).trans rfl,(blk_cell h.P 2).trans rfl⟩
end Go.Proofs.YtolpefnedpgaaaaDoor.X
namespace Go.Proofs.YtolpefnedpgaaaaDoor.X
open Go.RowKit Go.Proofs.YtolpefnedpgaaaaDoorW.PrintWords Go.Proofs.YtolpefnedpgaaaaDoorW.PrintMore
set_option linter.unusedVariables false
set_option linter.unusedSimpArgs false
theorem u8_lt (a b : UInt8) : a < b ↔ a.toNat < b.toNat:=UInt8.lt_iff_toNat_lt
theorem u8_eq {a b : UInt8} (h1 : ¬ a < b) (h2 : ¬ b < a) : a = b:=by
 rw [u8_lt] at h1 h2
 apply UInt8.toNat.inj
 omega
theorem cb_self : ∀ a : List UInt8,Lib.compareBytes a a = 0
 | [] => rfl
 | a :: l => by
  unfold Lib.compareBytes
  rw [if_neg (by rw [u8_lt];omega),if_neg (by rw [u8_lt];omega)]
  exact cb_self l
theorem cb_eq : ∀ a b : List UInt8,Lib.compareBytes a b = 0 → a = b
 | [],[],_ => rfl
 | [],_ :: _,h => by simp [Lib.compareBytes] at h
 | _ :: _,[],h => by simp [Lib.compareBytes] at h
 | a :: l,b :: m,h => by
  unfold Lib.compareBytes at h
  by_cases h1 : a < b
  ·rw [if_pos h1] at h;simp at h
  ·rw [if_neg h1] at h
   by_cases h2 : b < a
   ·rw [if_pos h2] at h;simp at h
   ·rw [if_neg h2] at h
    rw [u8_eq h1 h2,cb_eq l m h]
theorem cb_anti : ∀ a b : List UInt8,Lib.compareBytes b a = - Lib.compareBytes a b
 | [],[] => rfl
 | [],_ :: _ => rfl
 | _ :: _,[] => rfl
 | a :: l,b :: m => by
  unfold Lib.compareBytes
  by_cases h1 : a < b
  ·have h2 : ¬ b < a:=by rw [u8_lt] at h1 ⊢;omega
   rw [if_pos h1,if_neg h2,if_pos h1];rfl
  ·by_cases h2 : b < a
   ·simp only [if_pos h2,if_neg h1]
   ·simp only [if_neg h2,if_neg h1]
    exact cb_anti l m
theorem cb_trans : ∀ a b c : List UInt8,Lib.compareBytes a b < 0 → Lib.compareBytes b c < 0 → Lib.compareBytes a c < 0
 | a,[],c,h1,h2 => by cases a <;> simp [Lib.compareBytes] at h1
 | a,b :: m,[],h1,h2 => by simp [Lib.compareBytes] at h2
 | [],b :: m,c :: n,h1,h2 => by simp [Lib.compareBytes]
 | a :: l,b :: m,c :: n,h1,h2 => by
  unfold Lib.compareBytes at h1 h2 ⊢
  by_cases e1 : a < b
  ·by_cases e2 : b < c
   ·rw [if_pos (by rw [u8_lt] at e1 e2 ⊢;omega)];omega
   ·rw [if_neg e2] at h2
    by_cases e3 : c < b
    ·rw [if_pos e3] at h2;omega
    ·obtain rfl:=u8_eq e2 e3
     rw [if_pos e1];omega
  ·rw [if_neg e1] at h1
   by_cases e4 : b < a
   ·rw [if_pos e4] at h1;omega
   ·rw [if_neg e4] at h1
    obtain rfl:=u8_eq e1 e4
    by_cases e2 : a < c
    ·rw [if_pos e2];omega
    ·rw [if_neg e2] at h2 ⊢
     by_cases e3 : c < a
     ·rw [if_pos e3] at h2;omega
     ·rw [if_neg e3] at h2 ⊢
      exact cb_trans l m n h1 h2
theorem less_cb : ∀ a b : List UInt8,Op.bytesLess a b = decide (Lib.compareBytes a b < 0)
 | [],[] => rfl
 | _ :: _,[] => rfl
 | [],_ :: _ => rfl
 | a :: l,b :: m => by
  unfold Op.bytesLess Lib.compareBytes
  rw [less_cb l m]
  by_cases h1 : a < b
  ·rw [if_pos h1];simp [h1]
  ·rw [if_neg h1]
   by_cases h2 : b < a
   ·rw [if_pos h2]
    have : (a == b) = false:=by
     rw [beq_eq_false_iff_ne]
     rintro rfl
     exact h1 h2
    simp [h1,this]
   ·rw [if_neg h2]
    have : (a == b) = true:=by rw [beq_iff_eq];exact u8_eq h1 h2
    simp [h1,this]
def ltA (x y : S33) : Prop:=cmpA x y < 0
theorem ltA_trans {x y z : S33} (h1 : ltA x y) (h2 : ltA y z) : ltA x z:=cb_trans _ _ _ h1 h2
theorem ltA_asymm {x y : S33} (h1 : ltA x y) (h2 : ltA y x) : False:=by
 unfold ltA cmpA at h1 h2
 rw [cb_anti] at h2
 omega
theorem ltA_of {x y : S33} (h : ¬ cmpA y x < 0) (hne : x.f0.toList ≠ y.f0.toList) : ltA x y:=by
 unfold ltA cmpA at *
 rw [cb_anti] at h
 have : Lib.compareBytes x.f0.data.toList y.f0.data.toList ≠ 0:=fun h0 => hne (by rw [ByteArray.toList_eq,ByteArray.toList_eq];exact cb_eq _ _ h0)
 omega
def Dist (l : List S33) : Prop:=∀ a b,a < l.length → b < l.length → (l.getD a z33).f0.toList = (l.getD b z33).f0.toList → a = b
def sw (l : List S33) (i j : Nat) : List S33:=(l.set i (l.getD j z33)).set j (l.getD i z33)
theorem sw_len (l : List S33) (i j : Nat) : (sw l i j).length = l.length:=by simp [sw]
theorem sw_getD (l : List S33) (i j n : Nat) (hi : i < l.length) (hj : j < l.length) : (sw l i j).getD n z33 = if n = j then l.getD i z33 else if n = i then l.getD j z33 else l.getD n z33:=by
 unfold sw
 simp only [List.getD,List.getElem?_set,List.length_set]
 by_cases h1 : n = j
 ·subst h1;simp [hj]
 ·rw [if_neg (fun h => h1 h.symm),if_neg h1]
  by_cases h2 : n = i
  ·subst h2;simp [hi]
  ·rw [if_neg (fun h => h2 h.symm),if_neg h2]
theorem mem_getD (l : List S33) (x : S33) : x ∈ l ↔ ∃ n,n < l.length ∧ l.getD n z33 = x:=by
 rw [List.mem_iff_getElem]
 constructor
 ·rintro ⟨n,h,e⟩
  exact ⟨n,h,by simp [List.getD,h,e]⟩
 ·rintro ⟨n,h,e⟩
  exact ⟨n,h,by simpa [List.getD,h] using e⟩
structure Same (l m : List S33) : Prop where
 len : m.length = l.length
 mem : ∀ x,x ∈ m ↔ x ∈ l
 dist : Dist l → Dist m
theorem Same.refl (l : List S33) : Same l l:=⟨rfl,fun _ => Iff.rfl,id⟩
theorem Same.trans {a b c : List S33} (h : Same a b) (k : Same b c) : Same a c:=⟨k.len.trans h.len,fun x => (k.mem x).trans (h.mem x),fun d => k.dist (h.dist d)⟩
theorem sw_same (l : List S33) (i j : Nat) (hi : i < l.length) (hj : j < l.length) : Same l (sw l i j):=by
 refine ⟨sw_len l i j,fun x => ?_,fun hd => ?_⟩
 ·rw [mem_getD,mem_getD,sw_len]
  constructor
  ·rintro ⟨n,hn,e⟩
   rw [sw_getD l i j n hi hj] at e
   by_cases h1 : n = j
   ·rw [if_pos h1] at e;exact ⟨i,hi,e⟩
   ·rw [if_neg h1] at e
    by_cases h2 : n = i
    ·rw [if_pos h2] at e;exact ⟨j,hj,e⟩
    ·rw [if_neg h2] at e;exact ⟨n,hn,e⟩
  ·rintro ⟨n,hn,e⟩
   by_cases h1 : n = i
   ·subst h1
    refine ⟨j,hj,?_⟩
    rw [sw_getD l n j j hi hj,if_pos rfl];exact e
   ·by_cases h2 : n = j
    ·subst h2
     refine ⟨i,hi,?_⟩
     rw [sw_getD l i n i hi hj,if_neg (fun h => h1 h.symm),if_pos rfl];exact e
    ·exact ⟨n,hn,by rw [sw_getD l i j n hi hj,if_neg h2,if_neg h1];exact e⟩
 ·intro a b ha hb h
  rw [sw_len] at ha hb
  have e : ∀ n,(sw l i j).getD n z33 = l.getD (if n = j then i else if n = i then j else n) z33:=by
   intro n
   rw [sw_getD l i j n hi hj]
   split
   ·rfl
   ·split <;> rfl
  rw [e,e] at h
  have ht : ∀ n,n < l.length → (if n = j then i else if n = i then j else n) < l.length:=by
   intro n hn
   split
   ·exact hi
   ·split
    ·exact hj
    ·exact hn
  have:=hd _ _ (ht a ha) (ht b hb) h
  by_cases a1 : a = j <;> by_cases b1 : b = j <;> by_cases a2 : a = i <;> by_cases b2 : b = i <;> simp only [a1,b1,a2,b2,if_true,if_false] at this <;> (try split at this) <;> (try split at this) <;> omega
theorem swapA_sw (l : List S33) (j : Nat) : swapA l j = sw l j (j - 1):=rfl
theorem sink_same : ∀ (m : Nat) (l : List S33),m < l.length → Same l (sinkA m l)
 | 0,l,_ => Same.refl l
 | m + 1,l,h => by
  rw [sinkA]
  split
  ·have h1:=sw_same l (m + 1) m h (by omega)
   rw [swapA_sw,show m + 1 - 1 = m by omega]
   exact h1.trans (sink_same m _ (by rw [sw_len];omega))
  ·exact Same.refl l
theorem sortedTo_same (l : List S33) : ∀ i,i < l.length → Same l (sortedTo l i)
 | 0,_ => Same.refl l
 | i + 1,h => by
  have h1:=sortedTo_same l i (by omega)
  rw [sortedTo]
  exact h1.trans (sink_same (i + 1) _ (by rw [h1.len];omega))
theorem sort_same (l : List S33) : Same l (sortA l):=by
 unfold sortA
 by_cases h : l.length = 0
 ·rw [h];exact Same.refl l
 ·exact sortedTo_same l _ (by omega)
end Go.Proofs.YtolpefnedpgaaaaDoor.X
namespace Go.Proofs.YtolpefnedpgaaaaDoor.X
open Go.RowKit Go.Proofs.YtolpefnedpgaaaaDoorW.PrintWords Go.Proofs.YtolpefnedpgaaaaDoorW.PrintMore
set_option linter.unusedVariables false
set_option linter.unusedSimpArgs false
instance (x y : S33) : Decidable (ltA x y):=by unfold ltA;infer_instance
def insR (x : S33) : List S33 → List S33
 | [] => [x]
 | y :: l => if ltA x y then x :: y :: l else y :: insR x l
theorem insR_len (x : S33) : ∀ l,(insR x l).length = l.length + 1
 | [] => rfl
 | y :: l => by
  unfold insR
  split
  ·rfl
  ·simp [insR_len x l]
theorem insR_mem (x z : S33) : ∀ l,z ∈ insR x l ↔ z = x ∨ z ∈ l
 | [] => by simp [insR]
 | y :: l => by
  unfold insR
  split
  ·simp
  ·simp only [List.mem_cons,insR_mem x z l]
   constructor
   ·rintro (h|h|h)
    ·exact .inr (.inl h)
    ·exact .inl h
    ·exact .inr (.inr h)
   ·rintro (h|h|h)
    ·exact .inr (.inl h)
    ·exact .inl h
    ·exact .inr (.inr h)
theorem nlt_trans {x y z : S33} (h1 : ¬ ltA y x) (h2 : ¬ ltA z y) : ¬ ltA z x:=by
 intro h
 have e : Lib.compareBytes x.f0.data.toList y.f0.data.toList ≤ 0:=by
  have:=h1
  unfold ltA cmpA at this
  rw [cb_anti] at this
  omega
 have e2 : Lib.compareBytes y.f0.data.toList z.f0.data.toList ≤ 0:=by
  have:=h2
  unfold ltA cmpA at this
  rw [cb_anti] at this
  omega
 by_cases c1 : Lib.compareBytes x.f0.data.toList y.f0.data.toList = 0
 ·have hxy:=cb_eq _ _ c1
  apply h2
  unfold ltA cmpA at h ⊢
  rwa [hxy] at h
 ·have l1 : ltA x y:=by unfold ltA cmpA;omega
  by_cases c2 : Lib.compareBytes y.f0.data.toList z.f0.data.toList = 0
  ·have hyz:=cb_eq _ _ c2
   apply h1
   unfold ltA cmpA at h ⊢
   rwa [← hyz] at h
  ·have l2 : ltA y z:=by unfold ltA cmpA;omega
   exact ltA_asymm (ltA_trans l1 l2) h
def Rises (l : List S33) : Prop:=l.Pairwise fun a b => ¬ ltA b a
theorem insR_rises (x : S33) : ∀ l,Rises l → Rises (insR x l)
 | [],_ => by unfold insR Rises;simp
 | y :: l,h => by
  unfold Rises at h
  rw [List.pairwise_cons] at h
  unfold insR
  by_cases hxy : ltA x y
  ·rw [if_pos hxy]
   unfold Rises
   rw [List.pairwise_cons]
   refine ⟨fun z hz => ?_,by rw [List.pairwise_cons];exact h⟩
   have hyx : ¬ ltA y x:=fun h' => ltA_asymm hxy h'
   rcases List.mem_cons.1 hz with rfl|hz
   ·exact hyx
   ·exact nlt_trans hyx (h.1 z hz)
  ·rw [if_neg hxy]
   unfold Rises
   rw [List.pairwise_cons]
   refine ⟨fun z hz => ?_,insR_rises x l h.2⟩
   rcases (insR_mem x z l).1 hz with rfl|hz
   ·exact hxy
   ·exact h.1 z hz
theorem insR_snoc_lt (x y : S33) (h : ltA x y) : ∀ l,insR x (l ++ [y]) = insR x l ++ [y]
 | [] => by simp [insR,h]
 | z :: l => by
  simp only [List.cons_append,insR]
  split
  ·rfl
  ·rw [insR_snoc_lt x y h l];rfl
theorem insR_last (x : S33) : ∀ l,(∀ z ∈ l,¬ ltA x z) → insR x l = l ++ [x]
 | [],_ => rfl
 | z :: l,h => by
  unfold insR
  rw [if_neg (h z (by simp)),insR_last x l (fun w hw => h w (List.mem_cons_of_mem _ hw))]
  rfl
theorem getD_at (o : List S33) (x : S33) (r : List S33) : (o ++ x :: r).getD o.length z33 = x:=by
 simp [List.getD]
theorem sink_ins (x : S33) : ∀ (m : Nat) (o r : List S33),o.length = m → Rises o → sinkA m (o ++ x :: r) = insR x o ++ r
 | 0,o,r,h,_ => by
  have : o = []:=List.eq_nil_of_length_eq_zero h
  subst this
  rfl
 | m + 1,o,r,h,hr => by
  obtain ⟨o',y,rfl⟩ : ∃ o' y,o = o' ++ [y]:=by
   have hne : o ≠ []:=by
    rintro rfl
    simp at h
   exact ⟨o.dropLast,o.getLast hne,(List.dropLast_concat_getLast hne).symm⟩
  have hm : o'.length = m:=by simpa using h
  unfold Rises at hr
  rw [List.pairwise_append] at hr
  have e1 : (o' ++ [y] ++ x :: r).getD (m + 1) z33 = x:=by
   have:=getD_at (o' ++ [y]) x r
   rw [h] at this
   exact this
  have e2 : (o' ++ [y] ++ x :: r).getD m z33 = y:=by
   rw [List.append_assoc]
   have:=getD_at o' y (x :: r)
   rw [hm] at this
   exact this
  rw [sinkA,e1,e2]
  by_cases hlt : ltA x y
  ·rw [if_pos (show cmpA x y < 0 from hlt),insR_snoc_lt x y hlt]
   have hsw : swapA (o' ++ [y] ++ x :: r) (m + 1) = o' ++ x :: (y :: r):=by
    unfold swapA
    rw [show m + 1 - 1 = m by omega,e1,e2]
    subst hm
    simp [List.set_append]
   rw [hsw,sink_ins x m o' (y :: r) hm hr.1]
   simp
  ·rw [if_neg (show ¬ cmpA x y < 0 from hlt),insR_last x (o' ++ [y])]
   ·simp
   ·intro z hz
    rcases List.mem_append.1 hz with hz|hz
    ·exact nlt_trans (hr.2.2 z hz y (by simp)) hlt
    ·rw [List.mem_singleton] at hz
     rw [hz];exact hlt
def sortR (l : List S33) : List S33:=l.foldl (fun o x => insR x o) []
theorem sortR_snoc (l : List S33) (x : S33) : sortR (l ++ [x]) = insR x (sortR l):=by unfold sortR;rw [List.foldl_append];rfl
theorem sortR_rises (l : List S33) : Rises (sortR l):=by
 unfold sortR
 have : ∀ (l o : List S33),Rises o → Rises (l.foldl (fun o x => insR x o) o):=by
  intro l
  induction l with
  | nil => intro o h;exact h
  | cons a l ih => intro o h;exact ih _ (insR_rises a o h)
 exact this l [] (by unfold Rises;simp)
theorem sortR_len (l : List S33) : (sortR l).length = l.length:=by
 unfold sortR
 have : ∀ (l o : List S33),(l.foldl (fun o x => insR x o) o).length = o.length + l.length:=by
  intro l
  induction l with
  | nil => intro o;simp
  | cons a l ih => intro o;rw [List.foldl_cons,ih,insR_len];simp;omega
 simpa using this l []
theorem sortedTo_sortR (l : List S33) : ∀ i,i < l.length → sortedTo l i = sortR (l.take (i + 1)) ++ l.drop (i + 1)
 | 0,h => by
  cases l with
  | nil => simp at h
  | cons a l => rfl
 | i + 1,h => by
  rw [sortedTo,sortedTo_sortR l i (by omega),List.drop_eq_getElem_cons h]
  have hl : (sortR (l.take (i + 1))).length = i + 1:=by rw [sortR_len];simp;omega
  rw [sink_ins _ (i + 1) _ _ hl (sortR_rises _),← sortR_snoc,← List.take_succ_eq_append_getElem h]
theorem sortA_sortR (l : List S33) : sortA l = sortR l:=by
 unfold sortA
 by_cases h : l.length = 0
 ·have : l = []:=List.eq_nil_of_length_eq_zero h
  subst this
  rfl
 ·rw [sortedTo_sortR l (l.length - 1) (by omega),show l.length - 1 + 1 = l.length by omega,List.take_length,List.drop_length,List.append_nil]
end Go.Proofs.YtolpefnedpgaaaaDoor.X
namespace Go.Proofs.YtolpefnedpgaaaaDoor.X
open Go.RowKit Go.Proofs.YtolpefnedpgaaaaDoorW.PrintWords Go.Proofs.YtolpefnedpgaaaaDoorW.PrintLast Go.Proofs.YtolpefnedpgaaaaDoorW.PrintMore
set_option linter.unusedVariables false
set_option linter.unusedSimpArgs false
structure OrdW (w1 wr : World) (A : Option Addr) (L : List S33) : Prop where
 C : Kd.C k33 wr A L.length L
 F : GlobFp wr
 M : GlobMax wr
 B : Below w1.heap.size w1 wr
theorem OrdW.below {w1 wr wr' : World} {A : Option Addr} {L : List S33} (h : OrdW w1 wr A L) (hb : Below wr.heap.size wr wr') : OrdW w1 wr' A L :=
 ⟨Kd.C_below h.C hb,h.F.below hb,h.M.below hb,below_step h.B hb⟩
theorem OrdW.of {w1 wr : World} {A : Option Addr} {L : List S33} (h : OrdW w1 w1 A L) (hb : Below w1.heap.size w1 wr) : OrdW w1 wr A L :=
 ⟨Kd.C_below h.C hb,h.F.below hb,h.M.below hb,hb⟩
theorem at_attrA (ad : Addr) (n cap : Nat) (i : Int) (j : Nat) (W : World) (hj : i = j) (hl : j < n) :
  (Instr.indexAt 26 (.slice (some ad) n cap) (.int .i64 i)).run Tryd.prog W = .ok (.pointer (some (ad.add (j * 3)))) W:=by
 have hs : ∀ W,(sizeOf (Tryd.prog.elem 26)).run Tryd.prog W = .ok 3 W:=fun W => by kernel_rfl
 rw [run_indexAt_slice W 26 ad n cap .i64 i (by kernel_rfl),hs,if_pos (by omega)]
 subst hj
 simp only [Result.andThen,Int.toNat_natCast]
end Go.Proofs.YtolpefnedpgaaaaDoor.X
namespace Go.Proofs.YtolpefnedpgaaaaDoor.X
open Go.RowKit Go.Proofs.YtolpefnedpgaaaaDoorW.PrintWords Go.Proofs.YtolpefnedpgaaaaDoorW.PrintLast Go.Proofs.YtolpefnedpgaaaaDoorW.PrintMore
set_option linter.unusedVariables false
set_option linter.unusedSimpArgs false
def goR (x : S33) (s : List S33 × Bool) (y : S33) : List S33 × Bool:=if s.2 = false ∧ ltA x y then (s.1 ++ [x] ++ [y],true) else (s.1 ++ [y],s.2)
def goL (x : S33) (l : List S33) : List S33 × Bool:=l.foldl (goR x) ([],false)
theorem goR_true (x : S33) : ∀ (l o : List S33),l.foldl (goR x) (o,true) = (o ++ l,true)
 | [],o => by simp
 | y :: l,o => by
  rw [List.foldl_cons]
  have : goR x (o,true) y = (o ++ [y],true):=by unfold goR;simp
  rw [this,goR_true x l]
  simp
theorem goR_false (x : S33) : ∀ (l o : List S33),(if (l.foldl (goR x) (o,false)).2 = true then (l.foldl (goR x) (o,false)).1 else (l.foldl (goR x) (o,false)).1 ++ [x]) = o ++ insR x l
 | [],o => by simp [insR]
 | y :: l,o => by
  rw [List.foldl_cons]
  unfold insR
  by_cases h : ltA x y
  ·have : goR x (o,false) y = (o ++ [x] ++ [y],true):=by unfold goR;simp [h]
   rw [this,goR_true,if_pos rfl,if_pos h]
   simp
  ·have : goR x (o,false) y = (o ++ [y],false):=by unfold goR;simp [h]
   rw [this,goR_false x l,if_neg h]
   simp
theorem goL_ins (x : S33) (l : List S33) : (if (goL x l).2 = true then (goL x l).1 else (goL x l).1 ++ [x]) = insR x l:=by
 have:=goR_false x l []
 rwa [List.nil_append] at this
theorem goL_snoc (x : S33) (l : List S33) (m : Nat) (h : m < l.length) : goL x (l.take (m + 1)) = goR x (goL x (l.take m)) (l.getD m z33):=by
 unfold goL
 rw [List.take_succ_eq_append_getElem h,List.foldl_append]
 simp [List.getD,h]
theorem goL_len (x : S33) (l : List S33) : (goL x l).1.length ≤ l.length + 1:=by
 have h:=goL_ins x l
 have hl:=insR_len x l
 split at h
 ·rw [h,hl];omega
 ·rw [← h,List.length_append,List.length_singleton] at hl
  omega
set_option maxHeartbeats 16000000 in
set_option maxRecDepth 100000 in
theorem ref_sort_calls (A0 : Option Addr) (c0 : Nat) (l0 : List S33) (w : World) (hr0 : Kd.C k33 w A0 l0.length l0) (hc0 : l0.length ≤ c0) (hl : l0.length ≤ 1000) :
  Calls Tryd.prog 20 #[.slice A0 l0.length c0] w fun e w' => ∃ v0_ : Value,e = .returned v0_ ∧ Kd.R k33 33 w' w.heap.size (fun _ => True) v0_ (sortR l0) ∧ Below w.heap.size w w':=by
 have HR:=Lib.hid hr0
 clear hr0
 go_enter Tryd.func20,Tryd.ntmps20
 go_wp2
 go_loopw [3,4] (fun o i wr => ∃ n : Nat,i = .int .i64 n ∧ n ≤ l0.length ∧ Hid (Kd.R k33 33 wr w.heap.size (fun _ => True) o (sortR (l0.take n))) ∧ Hid (Below w.heap.size w wr)) (fun _ i _ => (l0.length - intOf i).toNat)
 case atStart => exact ⟨0,rfl,Nat.zero_le _,Lib.hid (Kd.R_nil _ _ _ _ _),Lib.hid (Below.refl _ _)⟩
 case round =>
  obtain ⟨n,rfl,hn,HO,HB⟩:=hrel
  by_cases hlt : n < l0.length
  ·have hd : decide ((n : Int) < (l0.length : Int)) = true:=decide_eq_true (by omega)
   obtain ⟨ad,ea,_,_,_⟩:=at_T33 HR.out (n : Int) (by omega) (by omega)
   subst ea
   have la:=fun W => at_attrA ad l0.length c0 (n : Int) n W rfl hlt
   have hOl : (sortR (l0.take n)).length ≤ 1000:=by rw [sortR_len,List.length_take];omega
   have hsn : sortR (l0.take (n + 1)) = insR (l0.getD n z33) (sortR (l0.take n)):=by
    rw [List.take_succ_eq_append_getElem hlt,sortR_snoc]
    simp [List.getD,hlt]
   obtain ⟨x,hx⟩ : ∃ x,l0.getD n z33 = x:=⟨_,rfl⟩
   rw [hx] at hsn
   have HX:=Lib.hid hx
   have HSN:=Lib.hid hsn
   clear hx hsn
   generalize sortR (l0.take n) = O at HO hOl HSN
   obtain ⟨Ao,co,eo⟩:=Kd.R_slice HO.out
   subst eo
   have hco:=(Kd.R_reads' HO.out).2.1
   have HC:=Lib.hid (Kd.R_reads' HO.out).2.2
   generalize wr = w2 at *
   clear HO
   have HR2:=Lib.hid (Kd.C_below HR.out HB.out)
   go_wp2
   go_loopw [5,6,7] (fun nx pt i wq => ∃ m : Nat,i = .int .i64 m ∧ m ≤ O.length ∧ pt = .bool (goL x (O.take m)).2 ∧ Hid (Kd.R k33 33 wq w2.heap.size (fun _ => True) nx (goL x (O.take m)).1) ∧ Hid (Below w2.heap.size w2 wq)) (fun _ _ i _ => (O.length - intOf i).toNat)
   case atStart => exact ⟨0,rfl,Nat.zero_le _,rfl,Lib.hid (Kd.R_nil _ _ _ _ _),Lib.hid (Below.refl _ _)⟩
   case round =>
    obtain ⟨m,rfl,hm,rfl,HN,HBq⟩:=hrel
    have hgl:=goL_len x (O.take m)
    have hgl2 : (goL x (O.take m)).1.length ≤ 1001:=by rw [List.length_take] at hgl;omega
    clear hgl
    by_cases hmlt : m < O.length
    ·have hdm : decide ((m : Int) < (O.length : Int)) = true:=decide_eq_true (by omega)
     have hst:=goL_snoc x O m hmlt
     obtain ⟨y,hy⟩ : ∃ y,O.getD m z33 = y:=⟨_,rfl⟩
     rw [hy] at hst
     have HY:=Lib.hid hy
     have HST:=Lib.hid hst
     clear hst hy
     generalize goL x (O.take m) = st at HN HST hgl2 ⊢
     obtain ⟨nl,pf⟩:=st
     simp only at HN hgl2 ⊢
     have HBd : Hid (Below w2.heap.size w2 wr.drew):=Lib.hid (below_drew1 HBq.out)
     have HNd : Hid (Kd.R k33 33 wr.drew w2.heap.size (fun _ => True) _ nl):=Lib.hid (Kd.R_drew HN.out)
     obtain ⟨ao,eo,yy0,yy1,yy2⟩:=at_T33 (Kd.C_below HC.out HBd.out) (m : Int) (by omega) (by omega)
     subst eo
     obtain ⟨ad2,ea2,xx0,xx1,xx2⟩:=at_T33 (Kd.C_below HR2.out HBd.out) (n : Int) (by omega) (by omega)
     cases ea2
     have lb:=fun W => at_attrA ao O.length co (m : Int) m W rfl hmlt
     simp only [Int.toNat_natCast] at yy0 yy1 yy2 xx0 xx1 xx2
     rw [rd33,HY.out] at yy0 yy1 yy2
     rw [rd33,HX.out] at xx0 xx1 xx2
     have y0:=yy0
     have x0:=xx0
     cases pf with
     | true =>
      go_upto_region 10 with (fail)
      refine start_ (n:=15) (S:=fun w' => True) (ds:=[]) #[false,false,false,false,false,false,false,false,false,false,false,false,false,false,false] (by kernel_rfl) rfl rfl trivial (fun hHeld => ?_)
      refine pure_ (i:=0) (N:=some 20) (v:=?_) (a':=?_) #[true,false,false,false,false,false,false,false,false,false,false,false,false,false,false] rfl rfl (by kernel_rfl) (fun _ _ _ h => h) (Or.inl ⟨by rfl,?_⟩) ?_ ?_
      rotate_left
      ·intro w'
       go_simp
       with_reducible rfl
      rotate_left
      ·simp only [Act.put,List.setIfInBounds_toArray,List.set_cons_zero,List.set_cons_succ,i64_w,i32_w]
       rfl
      refine pure_ (i:=1) (N:=some 21) (v:=?_) (a':=?_) #[true,true,false,false,false,false,false,false,false,false,false,false,false,false,false] rfl rfl (by kernel_rfl) (fun _ _ _ h => h) (Or.inl ⟨by rfl,?_⟩) ?_ ?_
      rotate_left
      ·intro w'
       go_simp
       with_reducible rfl
      rotate_left
      ·simp only [Act.put,List.setIfInBounds_toArray,List.set_cons_zero,List.set_cons_succ,i64_w,i32_w]
       rfl
      refine pure_ (i:=2) (N:=some 22) (v:=?_) (a':=?_) #[true,true,true,false,false,false,false,false,false,false,false,false,false,false,false] rfl rfl (by kernel_rfl) (fun _ _ _ h => h) (Or.inl ⟨by rfl,?_⟩) ?_ ?_
      rotate_left
      ·intro w'
       go_simp
       with_reducible rfl
      rotate_left
      ·simp only [Act.put,List.setIfInBounds_toArray,List.set_cons_zero,List.set_cons_succ,i64_w,i32_w]
       rfl
      refine pure_ (i:=3) (N:=some 23) (v:=undef) (a':=?_) #[true,true,true,true,false,false,false,false,false,false,false,false,false,false,false] rfl rfl (by kernel_rfl) (fun _ _ _ h => h) (Or.inr ⟨by rfl,rfl⟩) ?_ ?_
      rotate_left
      ·simp only [Act.put,List.setIfInBounds_toArray,List.set_cons_zero,List.set_cons_succ,i64_w,i32_w]
       rfl
      refine pure_ (i:=4) (N:=some 24) (v:=undef) (a':=?_) #[true,true,true,true,true,false,false,false,false,false,false,false,false,false,false] rfl rfl (by kernel_rfl) (fun _ _ _ h => h) (Or.inr ⟨by rfl,rfl⟩) ?_ ?_
      rotate_left
      ·simp only [Act.put,List.setIfInBounds_toArray,List.set_cons_zero,List.set_cons_succ,i64_w,i32_w]
       rfl
      refine pure_ (i:=5) (N:=some 25) (v:=undef) (a':=?_) #[true,true,true,true,true,true,false,false,false,false,false,false,false,false,false] rfl rfl (by kernel_rfl) (fun _ _ _ h => h) (Or.inr ⟨by rfl,rfl⟩) ?_ ?_
      rotate_left
      ·simp only [Act.put,List.setIfInBounds_toArray,List.set_cons_zero,List.set_cons_succ,i64_w,i32_w]
       rfl
      refine pure_ (i:=6) (N:=some 26) (v:=undef) (a':=?_) #[true,true,true,true,true,true,true,false,false,false,false,false,false,false,false] rfl rfl (by kernel_rfl) (fun _ _ _ h => h) (Or.inr ⟨by rfl,rfl⟩) ?_ ?_
      rotate_left
      ·simp only [Act.put,List.setIfInBounds_toArray,List.set_cons_zero,List.set_cons_succ,i64_w,i32_w]
       rfl
      refine pure_ (i:=7) (N:=some 27) (v:=undef) (a':=?_) #[true,true,true,true,true,true,true,true,false,false,false,false,false,false,false] rfl rfl (by kernel_rfl) (fun _ _ _ h => h) (Or.inr ⟨by rfl,rfl⟩) ?_ ?_
      rotate_left
      ·simp only [Act.put,List.setIfInBounds_toArray,List.set_cons_zero,List.set_cons_succ,i64_w,i32_w]
       rfl
      refine pure_ (i:=8) (N:=some 28) (v:=undef) (a':=?_) #[true,true,true,true,true,true,true,true,true,false,false,false,false,false,false] rfl rfl (by kernel_rfl) (fun _ _ _ h => h) (Or.inr ⟨by rfl,rfl⟩) ?_ ?_
      rotate_left
      ·simp only [Act.put,List.setIfInBounds_toArray,List.set_cons_zero,List.set_cons_succ,i64_w,i32_w]
       rfl
      refine pure_ (i:=9) (N:=some 29) (v:=undef) (a':=?_) #[true,true,true,true,true,true,true,true,true,true,false,false,false,false,false] rfl rfl (by kernel_rfl) (fun _ _ _ h => h) (Or.inr ⟨by rfl,rfl⟩) ?_ ?_
      rotate_left
      ·simp only [Act.put,List.setIfInBounds_toArray,List.set_cons_zero,List.set_cons_succ,i64_w,i32_w]
       rfl
      refine pure_ (i:=10) (N:=some 30) (v:=undef) (a':=?_) #[true,true,true,true,true,true,true,true,true,true,true,false,false,false,false] rfl rfl (by kernel_rfl) (fun _ _ _ h => h) (Or.inr ⟨by rfl,rfl⟩) ?_ ?_
      rotate_left
      ·simp only [Act.put,List.setIfInBounds_toArray,List.set_cons_zero,List.set_cons_succ,i64_w,i32_w]
       rfl
      refine pure_ (i:=11) (N:=some 31) (v:=undef) (a':=?_) #[true,true,true,true,true,true,true,true,true,true,true,true,false,false,false] rfl rfl (by kernel_rfl) (fun _ _ _ h => h) (Or.inr ⟨by rfl,rfl⟩) ?_ ?_
      rotate_left
      ·simp only [Act.put,List.setIfInBounds_toArray,List.set_cons_zero,List.set_cons_succ,i64_w,i32_w]
       rfl
      refine pure_ (i:=12) (N:=some 32) (v:=undef) (a':=?_) #[true,true,true,true,true,true,true,true,true,true,true,true,true,false,false] rfl rfl (by kernel_rfl) (fun _ _ _ h => h) (Or.inr ⟨by rfl,rfl⟩) ?_ ?_
      rotate_left
      ·simp only [Act.put,List.setIfInBounds_toArray,List.set_cons_zero,List.set_cons_succ,i64_w,i32_w]
       rfl
      refine pure_ (i:=13) (N:=some 33) (v:=undef) (a':=?_) #[true,true,true,true,true,true,true,true,true,true,true,true,true,true,false] rfl rfl (by kernel_rfl) (fun _ _ _ h => h) (Or.inr ⟨by rfl,rfl⟩) ?_ ?_
      rotate_left
      ·simp only [Act.put,List.setIfInBounds_toArray,List.set_cons_zero,List.set_cons_succ,i64_w,i32_w]
       rfl
      refine pure_ (i:=14) (N:=some 34) (v:=?_) (a':=?_) #[true,true,true,true,true,true,true,true,true,true,true,true,true,true,true] rfl rfl (by kernel_rfl) (fun _ _ _ h => h) (Or.inl ⟨by rfl,?_⟩) ?_ ?_
      rotate_left
      ·intro w'
       go_simp
       with_reducible rfl
      rotate_left
      ·simp only [Act.put,List.setIfInBounds_toArray,List.set_cons_zero,List.set_cons_succ,i64_w,i32_w]
       rfl
      refine done_ (by kernel_rfl) ?_
      change Exit.then _ _ Exit.normal _ wr.drew
      generalize wr.drew = w6 at *
      go_upto_region 13 with (fail)
      refine wp_region_lit ?_
      refine wpList_step (fun K hK => ?_)
      go_simp
      refine hK _ _ ?_
      clear hK K
      refine wpList_step (fun K hK => ?_)
      go_simp
      refine hK _ _ ?_
      clear hK K
      refine wpList_step (fun K hK => ?_)
      go_simp
      refine hK _ _ ?_
      clear hK K
      refine wpList_step (fun K hK => ?_)
      go_simp
      refine hK _ _ ?_
      clear hK K
      refine wpList_step (fun K hK => ?_)
      go_simp
      refine hK _ _ ?_
      clear hK K
      refine wpList_step (fun K hK => ?_)
      go_simp
      refine hK _ _ ?_
      clear hK K
      refine Kd.R_append k33 (w0:=w2) w2.heap.size rfl (.tmp 42) (.tmp 47) 26 33 (.agg #[(.string ⟨#[]⟩),(.string ⟨#[]⟩),(.string ⟨#[]⟩)]) 48 rfl Tryd.underlying26 info33 rfl (by decide) (by decide) _ _ y [.string y.f0,.string y.f1,.string y.f2] (fun _ => True) (fun _ => False) rfl rfl (k33_mkM _ _ _ y) (fun _ hk => hk.elim) (fun _ _ => trivial) HNd.out HBd.out HBd.out.size (by omega) ?_
      intro v_HN7 w_HN7 ho hb hg hat
      have HN7:=Lib.hid ho
      have HB7:=Lib.hid hb
      clear ho hb hg hat
      go_wp2
      go_roundw
      case rel =>
       refine ⟨m + 1,by go_num,by omega,?_,?_,HB7⟩
       ·rw [HST.out];simp [goR]
       ·rw [HST.out];simpa [goR] using HN7
      case measure => simp [intOf];omega
     | false =>
      by_cases hxy : ltA x y
      ·have hbl : Op.bytesLess y.f0.toList x.f0.toList = false:=by
        rw [less_cb,ByteArray.toList_eq,ByteArray.toList_eq]
        exact decide_eq_false (fun h => ltA_asymm hxy h)
       have hbe : (y.f0.toList == x.f0.toList) = false:=by
        rw [beq_eq_false_iff_ne,ByteArray.toList_eq,ByteArray.toList_eq]
        intro he
        have hxy2:=hxy
        unfold ltA cmpA at hxy2
        rw [he,cb_self] at hxy2
        omega
       go_upto_region 10 with (fail)
       refine start_ (n:=15) (S:=fun w' => w'.cell? (ao.add (m * 3)) = some (.string y.f0) ∧ w'.cell? (ad.add (n * 3)) = some (.string x.f0)) (ds:=[]) #[false,false,false,false,false,false,false,false,false,false,false,false,false,false,false] (by kernel_rfl) rfl rfl ⟨y0,x0⟩ (fun hHeld => ?_)
       refine pure_ (i:=0) (N:=some 20) (v:=?_) (a':=?_) #[true,false,false,false,false,false,false,false,false,false,false,false,false,false,false] rfl rfl (by kernel_rfl) (fun _ _ _ h => h) (Or.inl ⟨by rfl,?_⟩) ?_ ?_
       rotate_left
       ·intro w'
        go_simp
        with_reducible rfl
       rotate_left
       ·simp only [Act.put,List.setIfInBounds_toArray,List.set_cons_zero,List.set_cons_succ,i64_w,i32_w]
        rfl
       refine pure_ (i:=1) (N:=some 21) (v:=?_) (a':=?_) #[true,true,false,false,false,false,false,false,false,false,false,false,false,false,false] rfl rfl (by kernel_rfl) (fun _ _ _ h => h) (Or.inl ⟨by rfl,?_⟩) ?_ ?_
       rotate_left
       ·intro w'
        go_simp
        with_reducible rfl
       rotate_left
       ·simp only [Act.put,List.setIfInBounds_toArray,List.set_cons_zero,List.set_cons_succ,i64_w,i32_w]
        rfl
       refine pure_ (i:=2) (N:=some 22) (v:=?_) (a':=?_) #[true,true,true,false,false,false,false,false,false,false,false,false,false,false,false] rfl rfl (by kernel_rfl) (fun _ _ _ h => h) (Or.inl ⟨by rfl,?_⟩) ?_ ?_
       rotate_left
       ·intro w'
        go_simp
        with_reducible rfl
       rotate_left
       ·simp only [Act.put,List.setIfInBounds_toArray,List.set_cons_zero,List.set_cons_succ,i64_w,i32_w]
        rfl
       refine pure_ (i:=3) (N:=some 23) (v:=?_) (a':=?_) #[true,true,true,true,false,false,false,false,false,false,false,false,false,false,false] rfl rfl (by kernel_rfl) (fun _ _ _ h => h) (Or.inl ⟨by rfl,?_⟩) ?_ ?_
       rotate_left
       ·intro w'
        go_simp
        with_reducible rfl
       rotate_left
       ·simp only [Act.put,List.setIfInBounds_toArray,List.set_cons_zero,List.set_cons_succ,i64_w,i32_w]
        rfl
       refine pure_ (i:=4) (N:=some 24) (v:=?_) (a':=?_) #[true,true,true,true,true,false,false,false,false,false,false,false,false,false,false] rfl rfl (by kernel_rfl) (fun _ _ _ h => h) (Or.inl ⟨by rfl,?_⟩) ?_ ?_
       rotate_left
       ·intro w'
        go_simp
        with_reducible rfl
       rotate_left
       ·simp only [Act.put,List.setIfInBounds_toArray,List.set_cons_zero,List.set_cons_succ,i64_w,i32_w]
        rfl
       refine pure_ (i:=5) (N:=some 25) (v:=?_) (a':=?_) #[true,true,true,true,true,true,false,false,false,false,false,false,false,false,false] rfl rfl (by kernel_rfl) (fun _ _ _ h => h) (Or.inl ⟨by rfl,?_⟩) ?_ ?_
       rotate_left
       ·intro w'
        go_simp
        with_reducible rfl
       rotate_left
       ·simp only [Act.put,List.setIfInBounds_toArray,List.set_cons_zero,List.set_cons_succ,i64_w,i32_w]
        rfl
       refine pure_ (i:=6) (N:=some 26) (v:=?_) (a':=?_) #[true,true,true,true,true,true,true,false,false,false,false,false,false,false,false] rfl rfl (by kernel_rfl) (fun _ _ _ h => h) (Or.inl ⟨by rfl,?_⟩) ?_ ?_
       rotate_left
       ·intro w'
        go_simp
        with_reducible rfl
       rotate_left
       ·simp only [Act.put,List.setIfInBounds_toArray,List.set_cons_zero,List.set_cons_succ,i64_w,i32_w]
        rfl
       refine pure_ (i:=8) (N:=some 28) (v:=?_) (a':=?_) #[true,true,true,true,true,true,true,false,true,false,false,false,false,false,false] rfl rfl (by kernel_rfl) (fun _ _ _ h => h) (Or.inl ⟨by rfl,?_⟩) ?_ ?_
       rotate_left
       ·intro w'
        go_simp
        with_reducible rfl
       rotate_left
       ·simp only [Act.put,List.setIfInBounds_toArray,List.set_cons_zero,List.set_cons_succ,i64_w,i32_w]
        rfl
       refine pure_ (i:=9) (N:=some 29) (v:=?_) (a':=?_) #[true,true,true,true,true,true,true,false,true,true,false,false,false,false,false] rfl rfl (by kernel_rfl) (fun _ _ _ h => h) (Or.inl ⟨by rfl,?_⟩) ?_ ?_
       rotate_left
       ·intro w'
        go_simp
        with_reducible rfl
       rotate_left
       ·simp only [Act.put,List.setIfInBounds_toArray,List.set_cons_zero,List.set_cons_succ,i64_w,i32_w]
        rfl
       refine pure_ (i:=10) (N:=some 30) (v:=?_) (a':=?_) #[true,true,true,true,true,true,true,false,true,true,true,false,false,false,false] rfl rfl (by kernel_rfl) (fun _ _ _ h => h) (Or.inl ⟨by rfl,?_⟩) ?_ ?_
       rotate_left
       ·intro w'
        go_simp
        with_reducible rfl
       rotate_left
       ·simp only [Act.put,List.setIfInBounds_toArray,List.set_cons_zero,List.set_cons_succ,i64_w,i32_w]
        rfl
       refine pure_ (i:=11) (N:=some 31) (v:=?_) (a':=?_) #[true,true,true,true,true,true,true,false,true,true,true,true,false,false,false] rfl rfl (by kernel_rfl) (fun _ _ _ h => h) (Or.inl ⟨by rfl,?_⟩) ?_ ?_
       rotate_left
       ·intro w'
        go_simp
        with_reducible rfl
       rotate_left
       ·simp only [Act.put,List.setIfInBounds_toArray,List.set_cons_zero,List.set_cons_succ,i64_w,i32_w]
        rfl
       refine take_ (i:=7) (N:=some 27) (v:=?_) (a':=?_) #[true,true,true,true,true,true,true,true,true,true,true,true,false,false,false] rfl rfl (by kernel_rfl) (fun _ _ _ h => h) (Or.inl ⟨by rfl,?_⟩) hHeld ?_ ?_
       rotate_left
       ·rintro w' ⟨s0,s1⟩
        go_simp
        with_reducible rfl
       rotate_left
       ·simp only [Act.put,List.setIfInBounds_toArray,List.set_cons_zero,List.set_cons_succ,i64_w,i32_w]
        rfl
       refine take_ (i:=12) (N:=some 32) (v:=?_) (a':=?_) #[true,true,true,true,true,true,true,true,true,true,true,true,true,false,false] rfl rfl (by kernel_rfl) (fun _ _ _ h => h) (Or.inl ⟨by rfl,?_⟩) hHeld ?_ ?_
       rotate_left
       ·rintro w' ⟨s0,s1⟩
        go_simp
        with_reducible rfl
       rotate_left
       ·simp only [Act.put,List.setIfInBounds_toArray,List.set_cons_zero,List.set_cons_succ,i64_w,i32_w]
        rfl
       refine pure_ (i:=13) (N:=some 33) (v:=?_) (a':=?_) #[true,true,true,true,true,true,true,true,true,true,true,true,true,true,false] rfl rfl (by kernel_rfl) (fun _ _ _ h => h) (Or.inl ⟨by rfl,?_⟩) ?_ ?_
       rotate_left
       ·intro w'
        go_simp
        with_reducible rfl
       rotate_left
       ·simp only [Act.put,List.setIfInBounds_toArray,List.set_cons_zero,List.set_cons_succ,i64_w,i32_w]
        rfl
       refine pure_ (i:=14) (N:=some 34) (v:=?_) (a':=?_) #[true,true,true,true,true,true,true,true,true,true,true,true,true,true,true] rfl rfl (by kernel_rfl) (fun _ _ _ h => h) (Or.inl ⟨by rfl,?_⟩) ?_ ?_
       rotate_left
       ·intro w'
        go_simp
        with_reducible rfl
       rotate_left
       ·simp only [Act.put,List.setIfInBounds_toArray,List.set_cons_zero,List.set_cons_succ,i64_w,i32_w]
        rfl
       refine done_ (by kernel_rfl) ?_
       change Exit.then _ _ Exit.normal _ wr.drew
       generalize wr.drew = w6 at *
       go_upto_region 11 with (fail)
       refine wp_region_lit ?_
       refine wpList_step (fun K hK => ?_)
       go_simp
       refine hK _ _ ?_
       clear hK K
       refine wpList_step (fun K hK => ?_)
       go_simp
       refine hK _ _ ?_
       clear hK K
       refine wpList_step (fun K hK => ?_)
       go_simp
       refine hK _ _ ?_
       clear hK K
       refine wpList_step (fun K hK => ?_)
       go_simp
       refine hK _ _ ?_
       clear hK K
       refine wpList_step (fun K hK => ?_)
       go_simp
       refine hK _ _ ?_
       clear hK K
       refine wpList_step (fun K hK => ?_)
       go_simp
       refine hK _ _ ?_
       clear hK K
       refine Kd.R_append k33 (w0:=w2) w2.heap.size rfl (.tmp 35) (.tmp 40) 26 33 (.agg #[(.string ⟨#[]⟩),(.string ⟨#[]⟩),(.string ⟨#[]⟩)]) 48 rfl Tryd.underlying26 info33 rfl (by decide) (by decide) _ _ x [.string x.f0,.string x.f1,.string x.f2] (fun _ => True) (fun _ => False) rfl rfl (k33_mkM _ _ _ x) (fun _ hk => hk.elim) (fun _ _ => trivial) HNd.out HBd.out HBd.out.size (by omega) ?_
       intro v_HN7 w_HN7 ho hb hg hat
       have HN7:=Lib.hid ho
       have HB7:=Lib.hid hb
       clear ho hb hg hat
       clear x0 y0 xx0 xx1 xx2 yy0 yy1 yy2
       obtain ⟨ao3,eo3,zz0,zz1,zz2⟩:=at_T33 (Kd.C_below HC.out HB7.out) (m : Int) (by omega) (by omega)
       cases eo3
       simp only [Int.toNat_natCast] at zz0 zz1 zz2
       rw [rd33,HY.out] at zz0 zz1 zz2
       go_upto_region 13 with (fail)
       refine wp_region_lit ?_
       refine wpList_step (fun K hK => ?_)
       go_simp
       refine hK _ _ ?_
       clear hK K
       refine wpList_step (fun K hK => ?_)
       go_simp
       refine hK _ _ ?_
       clear hK K
       refine wpList_step (fun K hK => ?_)
       go_simp
       refine hK _ _ ?_
       clear hK K
       refine wpList_step (fun K hK => ?_)
       go_simp
       refine hK _ _ ?_
       clear hK K
       refine wpList_step (fun K hK => ?_)
       go_simp
       refine hK _ _ ?_
       clear hK K
       refine wpList_step (fun K hK => ?_)
       go_simp
       refine hK _ _ ?_
       clear hK K
       refine Kd.R_append k33 (w0:=w2) w2.heap.size rfl (.tmp 42) (.tmp 47) 26 33 (.agg #[(.string ⟨#[]⟩),(.string ⟨#[]⟩),(.string ⟨#[]⟩)]) 48 rfl Tryd.underlying26 info33 rfl (by decide) (by decide) _ _ y [.string y.f0,.string y.f1,.string y.f2] (fun _ => True) (fun _ => False) rfl rfl (k33_mkM _ _ _ y) (fun _ hk => hk.elim) (fun _ _ => trivial) HN7.out HB7.out HB7.out.size (by rw [List.length_append,List.length_singleton];omega) ?_
       intro v_HN8 w_HN8 ho hb hg hat
       have HN8:=Lib.hid ho
       have HB8:=Lib.hid hb
       clear ho hb hg hat
       go_wp2
       go_roundw
       case rel =>
        refine ⟨m + 1,by go_num,by omega,?_,?_,HB8⟩
        ·rw [HST.out];simp [goR,hxy]
        ·rw [HST.out];simpa [goR,hxy] using HN8
       case measure => simp [intOf];omega
      ·by_cases hqe : y.f0.toList = x.f0.toList
       ·have hbe : (y.f0.toList == x.f0.toList) = true:=beq_iff_eq.2 hqe
        clear hqe
        go_upto_region 10 with (fail)
        refine start_ (n:=15) (S:=fun w' => w'.cell? (ao.add (m * 3)) = some (.string y.f0) ∧ w'.cell? (ad.add (n * 3)) = some (.string x.f0)) (ds:=[]) #[false,false,false,false,false,false,false,false,false,false,false,false,false,false,false] (by kernel_rfl) rfl rfl ⟨y0,x0⟩ (fun hHeld => ?_)
        refine pure_ (i:=0) (N:=some 20) (v:=?_) (a':=?_) #[true,false,false,false,false,false,false,false,false,false,false,false,false,false,false] rfl rfl (by kernel_rfl) (fun _ _ _ h => h) (Or.inl ⟨by rfl,?_⟩) ?_ ?_
        rotate_left
        ·intro w'
         go_simp
         with_reducible rfl
        rotate_left
        ·simp only [Act.put,List.setIfInBounds_toArray,List.set_cons_zero,List.set_cons_succ,i64_w,i32_w]
         rfl
        refine pure_ (i:=1) (N:=some 21) (v:=?_) (a':=?_) #[true,true,false,false,false,false,false,false,false,false,false,false,false,false,false] rfl rfl (by kernel_rfl) (fun _ _ _ h => h) (Or.inl ⟨by rfl,?_⟩) ?_ ?_
        rotate_left
        ·intro w'
         go_simp
         with_reducible rfl
        rotate_left
        ·simp only [Act.put,List.setIfInBounds_toArray,List.set_cons_zero,List.set_cons_succ,i64_w,i32_w]
         rfl
        refine pure_ (i:=2) (N:=some 22) (v:=?_) (a':=?_) #[true,true,true,false,false,false,false,false,false,false,false,false,false,false,false] rfl rfl (by kernel_rfl) (fun _ _ _ h => h) (Or.inl ⟨by rfl,?_⟩) ?_ ?_
        rotate_left
        ·intro w'
         go_simp
         with_reducible rfl
        rotate_left
        ·simp only [Act.put,List.setIfInBounds_toArray,List.set_cons_zero,List.set_cons_succ,i64_w,i32_w]
         rfl
        refine pure_ (i:=3) (N:=some 23) (v:=?_) (a':=?_) #[true,true,true,true,false,false,false,false,false,false,false,false,false,false,false] rfl rfl (by kernel_rfl) (fun _ _ _ h => h) (Or.inl ⟨by rfl,?_⟩) ?_ ?_
        rotate_left
        ·intro w'
         go_simp
         with_reducible rfl
        rotate_left
        ·simp only [Act.put,List.setIfInBounds_toArray,List.set_cons_zero,List.set_cons_succ,i64_w,i32_w]
         rfl
        refine pure_ (i:=4) (N:=some 24) (v:=?_) (a':=?_) #[true,true,true,true,true,false,false,false,false,false,false,false,false,false,false] rfl rfl (by kernel_rfl) (fun _ _ _ h => h) (Or.inl ⟨by rfl,?_⟩) ?_ ?_
        rotate_left
        ·intro w'
         go_simp
         with_reducible rfl
        rotate_left
        ·simp only [Act.put,List.setIfInBounds_toArray,List.set_cons_zero,List.set_cons_succ,i64_w,i32_w]
         rfl
        refine pure_ (i:=5) (N:=some 25) (v:=?_) (a':=?_) #[true,true,true,true,true,true,false,false,false,false,false,false,false,false,false] rfl rfl (by kernel_rfl) (fun _ _ _ h => h) (Or.inl ⟨by rfl,?_⟩) ?_ ?_
        rotate_left
        ·intro w'
         go_simp
         with_reducible rfl
        rotate_left
        ·simp only [Act.put,List.setIfInBounds_toArray,List.set_cons_zero,List.set_cons_succ,i64_w,i32_w]
         rfl
        refine pure_ (i:=6) (N:=some 26) (v:=?_) (a':=?_) #[true,true,true,true,true,true,true,false,false,false,false,false,false,false,false] rfl rfl (by kernel_rfl) (fun _ _ _ h => h) (Or.inl ⟨by rfl,?_⟩) ?_ ?_
        rotate_left
        ·intro w'
         go_simp
         with_reducible rfl
        rotate_left
        ·simp only [Act.put,List.setIfInBounds_toArray,List.set_cons_zero,List.set_cons_succ,i64_w,i32_w]
         rfl
        refine pure_ (i:=8) (N:=some 28) (v:=?_) (a':=?_) #[true,true,true,true,true,true,true,false,true,false,false,false,false,false,false] rfl rfl (by kernel_rfl) (fun _ _ _ h => h) (Or.inl ⟨by rfl,?_⟩) ?_ ?_
        rotate_left
        ·intro w'
         go_simp
         with_reducible rfl
        rotate_left
        ·simp only [Act.put,List.setIfInBounds_toArray,List.set_cons_zero,List.set_cons_succ,i64_w,i32_w]
         rfl
        refine pure_ (i:=9) (N:=some 29) (v:=?_) (a':=?_) #[true,true,true,true,true,true,true,false,true,true,false,false,false,false,false] rfl rfl (by kernel_rfl) (fun _ _ _ h => h) (Or.inl ⟨by rfl,?_⟩) ?_ ?_
        rotate_left
        ·intro w'
         go_simp
         with_reducible rfl
        rotate_left
        ·simp only [Act.put,List.setIfInBounds_toArray,List.set_cons_zero,List.set_cons_succ,i64_w,i32_w]
         rfl
        refine pure_ (i:=10) (N:=some 30) (v:=?_) (a':=?_) #[true,true,true,true,true,true,true,false,true,true,true,false,false,false,false] rfl rfl (by kernel_rfl) (fun _ _ _ h => h) (Or.inl ⟨by rfl,?_⟩) ?_ ?_
        rotate_left
        ·intro w'
         go_simp
         with_reducible rfl
        rotate_left
        ·simp only [Act.put,List.setIfInBounds_toArray,List.set_cons_zero,List.set_cons_succ,i64_w,i32_w]
         rfl
        refine pure_ (i:=11) (N:=some 31) (v:=?_) (a':=?_) #[true,true,true,true,true,true,true,false,true,true,true,true,false,false,false] rfl rfl (by kernel_rfl) (fun _ _ _ h => h) (Or.inl ⟨by rfl,?_⟩) ?_ ?_
        rotate_left
        ·intro w'
         go_simp
         with_reducible rfl
        rotate_left
        ·simp only [Act.put,List.setIfInBounds_toArray,List.set_cons_zero,List.set_cons_succ,i64_w,i32_w]
         rfl
        refine take_ (i:=7) (N:=some 27) (v:=?_) (a':=?_) #[true,true,true,true,true,true,true,true,true,true,true,true,false,false,false] rfl rfl (by kernel_rfl) (fun _ _ _ h => h) (Or.inl ⟨by rfl,?_⟩) hHeld ?_ ?_
        rotate_left
        ·rintro w' ⟨s0,s1⟩
         go_simp
         with_reducible rfl
        rotate_left
        ·simp only [Act.put,List.setIfInBounds_toArray,List.set_cons_zero,List.set_cons_succ,i64_w,i32_w]
         rfl
        refine take_ (i:=12) (N:=some 32) (v:=?_) (a':=?_) #[true,true,true,true,true,true,true,true,true,true,true,true,true,false,false] rfl rfl (by kernel_rfl) (fun _ _ _ h => h) (Or.inl ⟨by rfl,?_⟩) hHeld ?_ ?_
        rotate_left
        ·rintro w' ⟨s0,s1⟩
         go_simp
         with_reducible rfl
        rotate_left
        ·simp only [Act.put,List.setIfInBounds_toArray,List.set_cons_zero,List.set_cons_succ,i64_w,i32_w]
         rfl
        refine pure_ (i:=13) (N:=some 33) (v:=?_) (a':=?_) #[true,true,true,true,true,true,true,true,true,true,true,true,true,true,false] rfl rfl (by kernel_rfl) (fun _ _ _ h => h) (Or.inl ⟨by rfl,?_⟩) ?_ ?_
        rotate_left
        ·intro w'
         go_simp
         with_reducible rfl
        rotate_left
        ·simp only [Act.put,List.setIfInBounds_toArray,List.set_cons_zero,List.set_cons_succ,i64_w,i32_w]
         rfl
        refine pure_ (i:=14) (N:=some 34) (v:=?_) (a':=?_) #[true,true,true,true,true,true,true,true,true,true,true,true,true,true,true] rfl rfl (by kernel_rfl) (fun _ _ _ h => h) (Or.inl ⟨by rfl,?_⟩) ?_ ?_
        rotate_left
        ·intro w'
         go_simp
         with_reducible rfl
        rotate_left
        ·simp only [Act.put,List.setIfInBounds_toArray,List.set_cons_zero,List.set_cons_succ,i64_w,i32_w]
         rfl
        refine done_ (by kernel_rfl) ?_
        change Exit.then _ _ Exit.normal _ wr.drew
        generalize wr.drew = w6 at *
        go_upto_region 13 with (fail)
        refine wp_region_lit ?_
        refine wpList_step (fun K hK => ?_)
        go_simp
        refine hK _ _ ?_
        clear hK K
        refine wpList_step (fun K hK => ?_)
        go_simp
        refine hK _ _ ?_
        clear hK K
        refine wpList_step (fun K hK => ?_)
        go_simp
        refine hK _ _ ?_
        clear hK K
        refine wpList_step (fun K hK => ?_)
        go_simp
        refine hK _ _ ?_
        clear hK K
        refine wpList_step (fun K hK => ?_)
        go_simp
        refine hK _ _ ?_
        clear hK K
        refine wpList_step (fun K hK => ?_)
        go_simp
        refine hK _ _ ?_
        clear hK K
        refine Kd.R_append k33 (w0:=w2) w2.heap.size rfl (.tmp 42) (.tmp 47) 26 33 (.agg #[(.string ⟨#[]⟩),(.string ⟨#[]⟩),(.string ⟨#[]⟩)]) 48 rfl Tryd.underlying26 info33 rfl (by decide) (by decide) _ _ y [.string y.f0,.string y.f1,.string y.f2] (fun _ => True) (fun _ => False) rfl rfl (k33_mkM _ _ _ y) (fun _ hk => hk.elim) (fun _ _ => trivial) HNd.out HBd.out HBd.out.size (by omega) ?_
        intro v_HN7 w_HN7 ho hb hg hat
        have HN7:=Lib.hid ho
        have HB7:=Lib.hid hb
        clear ho hb hg hat
        go_wp2
        go_roundw
        case rel =>
         refine ⟨m + 1,by go_num,by omega,?_,?_,HB7⟩
         ·rw [HST.out];simp [goR,hxy]
         ·rw [HST.out];simpa [goR,hxy] using HN7
        case measure => simp [intOf];omega
       ·have hbe : (y.f0.toList == x.f0.toList) = false:=beq_eq_false_iff_ne.2 hqe
        have hbl : Op.bytesLess y.f0.toList x.f0.toList = true:=by
         have:=ltA_of hxy hqe
         rw [less_cb,ByteArray.toList_eq,ByteArray.toList_eq]
         exact decide_eq_true this
        clear hqe
        go_upto_region 10 with (fail)
        refine start_ (n:=15) (S:=fun w' => w'.cell? (ao.add (m * 3)) = some (.string y.f0) ∧ w'.cell? (ad.add (n * 3)) = some (.string x.f0)) (ds:=[]) #[false,false,false,false,false,false,false,false,false,false,false,false,false,false,false] (by kernel_rfl) rfl rfl ⟨y0,x0⟩ (fun hHeld => ?_)
        refine pure_ (i:=0) (N:=some 20) (v:=?_) (a':=?_) #[true,false,false,false,false,false,false,false,false,false,false,false,false,false,false] rfl rfl (by kernel_rfl) (fun _ _ _ h => h) (Or.inl ⟨by rfl,?_⟩) ?_ ?_
        rotate_left
        ·intro w'
         go_simp
         with_reducible rfl
        rotate_left
        ·simp only [Act.put,List.setIfInBounds_toArray,List.set_cons_zero,List.set_cons_succ,i64_w,i32_w]
         rfl
        refine pure_ (i:=1) (N:=some 21) (v:=?_) (a':=?_) #[true,true,false,false,false,false,false,false,false,false,false,false,false,false,false] rfl rfl (by kernel_rfl) (fun _ _ _ h => h) (Or.inl ⟨by rfl,?_⟩) ?_ ?_
        rotate_left
        ·intro w'
         go_simp
         with_reducible rfl
        rotate_left
        ·simp only [Act.put,List.setIfInBounds_toArray,List.set_cons_zero,List.set_cons_succ,i64_w,i32_w]
         rfl
        refine pure_ (i:=2) (N:=some 22) (v:=?_) (a':=?_) #[true,true,true,false,false,false,false,false,false,false,false,false,false,false,false] rfl rfl (by kernel_rfl) (fun _ _ _ h => h) (Or.inl ⟨by rfl,?_⟩) ?_ ?_
        rotate_left
        ·intro w'
         go_simp
         with_reducible rfl
        rotate_left
        ·simp only [Act.put,List.setIfInBounds_toArray,List.set_cons_zero,List.set_cons_succ,i64_w,i32_w]
         rfl
        refine pure_ (i:=3) (N:=some 23) (v:=?_) (a':=?_) #[true,true,true,true,false,false,false,false,false,false,false,false,false,false,false] rfl rfl (by kernel_rfl) (fun _ _ _ h => h) (Or.inl ⟨by rfl,?_⟩) ?_ ?_
        rotate_left
        ·intro w'
         go_simp
         with_reducible rfl
        rotate_left
        ·simp only [Act.put,List.setIfInBounds_toArray,List.set_cons_zero,List.set_cons_succ,i64_w,i32_w]
         rfl
        refine pure_ (i:=4) (N:=some 24) (v:=?_) (a':=?_) #[true,true,true,true,true,false,false,false,false,false,false,false,false,false,false] rfl rfl (by kernel_rfl) (fun _ _ _ h => h) (Or.inl ⟨by rfl,?_⟩) ?_ ?_
        rotate_left
        ·intro w'
         go_simp
         with_reducible rfl
        rotate_left
        ·simp only [Act.put,List.setIfInBounds_toArray,List.set_cons_zero,List.set_cons_succ,i64_w,i32_w]
         rfl
        refine pure_ (i:=5) (N:=some 25) (v:=?_) (a':=?_) #[true,true,true,true,true,true,false,false,false,false,false,false,false,false,false] rfl rfl (by kernel_rfl) (fun _ _ _ h => h) (Or.inl ⟨by rfl,?_⟩) ?_ ?_
        rotate_left
        ·intro w'
         go_simp
         with_reducible rfl
        rotate_left
        ·simp only [Act.put,List.setIfInBounds_toArray,List.set_cons_zero,List.set_cons_succ,i64_w,i32_w]
         rfl
        refine pure_ (i:=6) (N:=some 26) (v:=?_) (a':=?_) #[true,true,true,true,true,true,true,false,false,false,false,false,false,false,false] rfl rfl (by kernel_rfl) (fun _ _ _ h => h) (Or.inl ⟨by rfl,?_⟩) ?_ ?_
        rotate_left
        ·intro w'
         go_simp
         with_reducible rfl
        rotate_left
        ·simp only [Act.put,List.setIfInBounds_toArray,List.set_cons_zero,List.set_cons_succ,i64_w,i32_w]
         rfl
        refine pure_ (i:=8) (N:=some 28) (v:=?_) (a':=?_) #[true,true,true,true,true,true,true,false,true,false,false,false,false,false,false] rfl rfl (by kernel_rfl) (fun _ _ _ h => h) (Or.inl ⟨by rfl,?_⟩) ?_ ?_
        rotate_left
        ·intro w'
         go_simp
         with_reducible rfl
        rotate_left
        ·simp only [Act.put,List.setIfInBounds_toArray,List.set_cons_zero,List.set_cons_succ,i64_w,i32_w]
         rfl
        refine pure_ (i:=9) (N:=some 29) (v:=?_) (a':=?_) #[true,true,true,true,true,true,true,false,true,true,false,false,false,false,false] rfl rfl (by kernel_rfl) (fun _ _ _ h => h) (Or.inl ⟨by rfl,?_⟩) ?_ ?_
        rotate_left
        ·intro w'
         go_simp
         with_reducible rfl
        rotate_left
        ·simp only [Act.put,List.setIfInBounds_toArray,List.set_cons_zero,List.set_cons_succ,i64_w,i32_w]
         rfl
        refine pure_ (i:=10) (N:=some 30) (v:=?_) (a':=?_) #[true,true,true,true,true,true,true,false,true,true,true,false,false,false,false] rfl rfl (by kernel_rfl) (fun _ _ _ h => h) (Or.inl ⟨by rfl,?_⟩) ?_ ?_
        rotate_left
        ·intro w'
         go_simp
         with_reducible rfl
        rotate_left
        ·simp only [Act.put,List.setIfInBounds_toArray,List.set_cons_zero,List.set_cons_succ,i64_w,i32_w]
         rfl
        refine pure_ (i:=11) (N:=some 31) (v:=?_) (a':=?_) #[true,true,true,true,true,true,true,false,true,true,true,true,false,false,false] rfl rfl (by kernel_rfl) (fun _ _ _ h => h) (Or.inl ⟨by rfl,?_⟩) ?_ ?_
        rotate_left
        ·intro w'
         go_simp
         with_reducible rfl
        rotate_left
        ·simp only [Act.put,List.setIfInBounds_toArray,List.set_cons_zero,List.set_cons_succ,i64_w,i32_w]
         rfl
        refine take_ (i:=7) (N:=some 27) (v:=?_) (a':=?_) #[true,true,true,true,true,true,true,true,true,true,true,true,false,false,false] rfl rfl (by kernel_rfl) (fun _ _ _ h => h) (Or.inl ⟨by rfl,?_⟩) hHeld ?_ ?_
        rotate_left
        ·rintro w' ⟨s0,s1⟩
         go_simp
         with_reducible rfl
        rotate_left
        ·simp only [Act.put,List.setIfInBounds_toArray,List.set_cons_zero,List.set_cons_succ,i64_w,i32_w]
         rfl
        refine take_ (i:=12) (N:=some 32) (v:=?_) (a':=?_) #[true,true,true,true,true,true,true,true,true,true,true,true,true,false,false] rfl rfl (by kernel_rfl) (fun _ _ _ h => h) (Or.inl ⟨by rfl,?_⟩) hHeld ?_ ?_
        rotate_left
        ·rintro w' ⟨s0,s1⟩
         go_simp
         with_reducible rfl
        rotate_left
        ·simp only [Act.put,List.setIfInBounds_toArray,List.set_cons_zero,List.set_cons_succ,i64_w,i32_w]
         rfl
        refine pure_ (i:=13) (N:=some 33) (v:=?_) (a':=?_) #[true,true,true,true,true,true,true,true,true,true,true,true,true,true,false] rfl rfl (by kernel_rfl) (fun _ _ _ h => h) (Or.inl ⟨by rfl,?_⟩) ?_ ?_
        rotate_left
        ·intro w'
         go_simp
         with_reducible rfl
        rotate_left
        ·simp only [Act.put,List.setIfInBounds_toArray,List.set_cons_zero,List.set_cons_succ,i64_w,i32_w]
         rfl
        refine pure_ (i:=14) (N:=some 34) (v:=?_) (a':=?_) #[true,true,true,true,true,true,true,true,true,true,true,true,true,true,true] rfl rfl (by kernel_rfl) (fun _ _ _ h => h) (Or.inl ⟨by rfl,?_⟩) ?_ ?_
        rotate_left
        ·intro w'
         go_simp
         with_reducible rfl
        rotate_left
        ·simp only [Act.put,List.setIfInBounds_toArray,List.set_cons_zero,List.set_cons_succ,i64_w,i32_w]
         rfl
        refine done_ (by kernel_rfl) ?_
        change Exit.then _ _ Exit.normal _ wr.drew
        generalize wr.drew = w6 at *
        go_upto_region 13 with (fail)
        refine wp_region_lit ?_
        refine wpList_step (fun K hK => ?_)
        go_simp
        refine hK _ _ ?_
        clear hK K
        refine wpList_step (fun K hK => ?_)
        go_simp
        refine hK _ _ ?_
        clear hK K
        refine wpList_step (fun K hK => ?_)
        go_simp
        refine hK _ _ ?_
        clear hK K
        refine wpList_step (fun K hK => ?_)
        go_simp
        refine hK _ _ ?_
        clear hK K
        refine wpList_step (fun K hK => ?_)
        go_simp
        refine hK _ _ ?_
        clear hK K
        refine wpList_step (fun K hK => ?_)
        go_simp
        refine hK _ _ ?_
        clear hK K
        refine Kd.R_append k33 (w0:=w2) w2.heap.size rfl (.tmp 42) (.tmp 47) 26 33 (.agg #[(.string ⟨#[]⟩),(.string ⟨#[]⟩),(.string ⟨#[]⟩)]) 48 rfl Tryd.underlying26 info33 rfl (by decide) (by decide) _ _ y [.string y.f0,.string y.f1,.string y.f2] (fun _ => True) (fun _ => False) rfl rfl (k33_mkM _ _ _ y) (fun _ hk => hk.elim) (fun _ _ => trivial) HNd.out HBd.out HBd.out.size (by omega) ?_
        intro v_HN7 w_HN7 ho hb hg hat
        have HN7:=Lib.hid ho
        have HB7:=Lib.hid hb
        clear ho hb hg hat
        go_wp2
        go_roundw
        case rel =>
         refine ⟨m + 1,by go_num,by omega,?_,?_,HB7⟩
         ·rw [HST.out];simp [goR,hxy]
         ·rw [HST.out];simpa [goR,hxy] using HN7
        case measure => simp [intOf];omega
    ·have hdm : decide ((m : Int) < (O.length : Int)) = false:=decide_eq_false (by omega)
     have hmO : m = O.length:=by omega
     have hins:=goL_ins x O
     have htk : O.take m = O:=by rw [hmO,List.take_length]
     rw [htk] at HN hgl2 ⊢
     have HIN:=Lib.hid hins
     clear hins htk
     generalize goL x O = st at HN HIN hgl2 ⊢
     obtain ⟨nl,pf⟩:=st
     simp only at HN hgl2 ⊢
     cases pf with
     | true =>
      have hfin : nl = insR x O:=by have:=HIN.out;simpa using this
      have HFIN:=Lib.hid hfin
      clear hfin
      go_wp2
      go_roundw
      case rel =>
       refine ⟨n + 1,by go_num,by omega,Lib.hid ?_,Lib.hid (below_step HB.out HBq.out)⟩
       rw [HSN.out,← HFIN.out]
       exact Kd.R_lower HN.out HB.out.size
      case measure => simp [intOf];omega
     | false =>
      have hfin : nl ++ [x] = insR x O:=by have:=HIN.out;simpa using this
      have HFIN:=Lib.hid hfin
      clear hfin
      obtain ⟨ad2,ea2,xx0,xx1,xx2⟩:=at_T33 (Kd.C_below HR2.out HBq.out) (n : Int) (by omega) (by omega)
      cases ea2
      simp only [Int.toNat_natCast] at xx0 xx1 xx2
      rw [rd33,HX.out] at xx0 xx1 xx2
      go_upto_region 15 with (fail)
      refine wp_region_lit ?_
      refine wpList_step (fun K hK => ?_)
      go_simp
      refine hK _ _ ?_
      clear hK K
      refine wpList_step (fun K hK => ?_)
      go_simp
      refine hK _ _ ?_
      clear hK K
      refine wpList_step (fun K hK => ?_)
      go_simp
      refine hK _ _ ?_
      clear hK K
      refine wpList_step (fun K hK => ?_)
      go_simp
      refine hK _ _ ?_
      clear hK K
      refine wpList_step (fun K hK => ?_)
      go_simp
      refine hK _ _ ?_
      clear hK K
      refine wpList_step (fun K hK => ?_)
      go_simp
      refine hK _ _ ?_
      clear hK K
      refine Kd.R_append k33 (w0:=w2) w2.heap.size rfl (.tmp 51) (.tmp 56) 26 33 (.agg #[(.string ⟨#[]⟩),(.string ⟨#[]⟩),(.string ⟨#[]⟩)]) 48 rfl Tryd.underlying26 info33 rfl (by decide) (by decide) _ _ x [.string x.f0,.string x.f1,.string x.f2] (fun _ => True) (fun _ => False) rfl rfl (k33_mkM _ _ _ x) (fun _ hk => hk.elim) (fun _ _ => trivial) HN.out HBq.out HBq.out.size (by omega) ?_
      intro v_HN7 w_HN7 ho hb hg hat
      have HN7:=Lib.hid ho
      have HB7:=Lib.hid hb
      clear ho hb hg hat
      go_wp2
      go_roundw
      case rel =>
       refine ⟨n + 1,by go_num,by omega,Lib.hid ?_,Lib.hid (below_step HB.out HB7.out)⟩
       rw [HSN.out,← HFIN.out]
       exact Kd.R_lower HN7.out HB.out.size
      case measure => simp [intOf];omega
  ·have hd : decide ((n : Int) < (l0.length : Int)) = false:=decide_eq_false (by omega)
   have hnn : n = l0.length:=by omega
   go_wp2
   go_ret
   refine ⟨_,rfl,?_,HB.out⟩
   have:=HO.out
   rw [hnn,List.take_length] at this
   exact this
def racewayref24_Sort.f (l : List S33) : Option (List S33):=if l.length ≤ 1000 then some (sortR l) else none
theorem racewayref24_Sort.calls (A0 : Option Addr) (c0 : Nat) (l0 : List S33) (r : List S33) (w : World) (hr0 : Kd.C k33 w A0 l0.length l0) (hc0 : l0.length ≤ c0) (h : racewayref24_Sort.f l0 = some r) :
  Calls Tryd.prog 20 #[.slice A0 l0.length c0] w fun e w' => ∃ v0_ : Value,e = .returned v0_ ∧ Kd.R k33 33 w' w.heap.size (fun _ => True) v0_ r ∧ Below w.heap.size w w':=by
 unfold racewayref24_Sort.f at h
 split at h
 ·rename_i hl
  obtain rfl:=Option.some.inj h
  exact ref_sort_calls A0 c0 l0 w hr0 hc0 hl
 ·exact absurd h (by simp)
end Go.Proofs.YtolpefnedpgaaaaDoor.X
