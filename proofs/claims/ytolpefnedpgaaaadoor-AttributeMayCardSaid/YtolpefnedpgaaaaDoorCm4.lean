/-
  What the claim's law rests on, part 4 of 5: printed walks, externals, plain lemmas; conditions: none of its own.
-/
import Derived.Lib.SliceRun
import Derived.OwnWalk
import Derived.Test.YtolpefnedpgaaaaDoorCm3
namespace Go.Proofs.YtolpefnedpgaaaaDoor.X
open Go.RowKit Go.Proofs.YtolpefnedpgaaaaDoorW.PrintWords Go.Proofs.YtolpefnedpgaaaaDoorW.PrintLast Go.Proofs.YtolpefnedpgaaaaDoorW.PrintMore
set_option linter.unusedVariables false
set_option linter.unusedSimpArgs false
def vA (x : S33) : List Value := [.string x.f0, .string x.f1, .string x.f2]
def cellsA (xs : List S33) : List Value := xs.flatMap vA
theorem cellsA_len (xs : List S33) : (cellsA xs).length = 3 * xs.length := by
  induction xs with
  | nil => rfl
  | cons x l ih => simp only [cellsA, List.flatMap_cons, List.length_append, List.length_cons] at ih ⊢; rw [ih]; simp [vA]; omega
theorem cellsA_at : ∀ (xs : List S33) (t : List Value) (j : Nat) (d : S33), j < xs.length → ∀ k, k < 3 → (cellsA xs ++ t)[3 * j + k]? = (vA (xs.getD j d))[k]?
  | [], _, _, _, h, _, _ => by simp at h
  | x :: l, t, 0, d, h, k, hk => by
    simp only [cellsA, List.flatMap_cons, List.getD_cons_zero, Nat.mul_zero, Nat.zero_add, List.append_assoc]
    rw [List.getElem?_append_left (by simp [vA]; omega)]
  | x :: l, t, j + 1, d, h, k, hk => by
    have ih := cellsA_at l t j d (by simpa using h) k hk
    simp only [cellsA, List.flatMap_cons, List.getD_cons_succ, List.append_assoc] at ih ⊢
    rw [List.getElem?_append_right (by simp [vA]; omega), ← ih]
    congr 1
    simp [vA]
    omega
theorem blk_setCells_mid (g : Nat) (t : TypeId) : ∀ (vs : List Value) (o : Nat) (w : World) (cs : List Value), o + vs.length ≤ cs.length → w.heap[g]? = some (.cells cs.toArray t (0, 0)) → (w.setCells g o vs).heap[g]? = some (.cells (cs.take o ++ vs ++ cs.drop (o + vs.length)).toArray t (0, 0))
  | [], o, w, cs, hl, h => by
    rw [World.setCells, h]
    simp
  | v :: r, o, w, cs, hl, h => by
    rw [World.setCells]
    simp only [List.length_cons] at hl ⊢
    have h1 := blk_set h o v
    rw [show cs.toArray.setIfInBounds o v = (cs.set o v).toArray by simp] at h1
    rw [blk_setCells_mid g t r (o + 1) _ _ (by simp; omega) h1]
    congr 2
    rw [List.take_set, List.take_add_one, List.getElem?_eq_getElem (by omega), List.drop_set_of_lt (by omega)]
    simp only [Option.toList_some]
    rw [List.set_append, if_neg (by simp; omega), List.length_take, Nat.min_eq_left (by omega), Nat.sub_self, List.append_assoc, List.append_assoc, List.append_assoc, show o + 1 + r.length = o + (r.length + 1) by omega]
    rfl
theorem cellsA_set : ∀ (xs : List S33) (t : List Value) (j : Nat) (y : S33), j < xs.length → (cellsA xs ++ t).take (3 * j) ++ vA y ++ (cellsA xs ++ t).drop (3 * j + 3) = cellsA (xs.set j y) ++ t
  | [], _, _, _, h => by simp at h
  | x :: l, t, 0, y, h => by simp [cellsA, vA]
  | x :: l, t, j + 1, y, h => by
    have ih := cellsA_set l t j y (by simpa using h)
    simp only [cellsA, List.flatMap_cons, List.set_cons_succ, List.append_assoc] at ih ⊢
    rw [← ih, show 3 * (j + 1) = 3 * j + 1 + 1 + 1 by omega, show 3 * j + 1 + 1 + 1 + 3 = 3 * j + 3 + 1 + 1 + 1 by omega]
    simp [vA]
theorem set_A {w : World} {g : Nat} {ys : List S33} {t : List Value} (h : w.heap[g]? = some (.cells (cellsA ys ++ t).toArray 33 (0, 0))) (j : Nat) (y : S33) (hj : j < ys.length) :
    (w.setCells g (3 * j) (vA y)).heap[g]? = some (.cells (cellsA (ys.set j y) ++ t).toArray 33 (0, 0)) := by
  have := blk_setCells_mid g _ (vA y) (3 * j) w _ (by rw [List.length_append, cellsA_len]; simp [vA]; omega) h
  rw [this, ← cellsA_set ys t j y hj]
  rfl
theorem infoA : ∃ ie, Tryd.prog.info? 33 = some ie ∧ ie.size = 3 := Option.map_eq_some_iff.1 (show (Tryd.prog.info? 33).map (·.size) = some 3 by kernel_rfl)
theorem store_A {w : World} {g : Nat} {ys : List S33} {t : List Value} (h : w.heap[g]? = some (.cells (cellsA ys ++ t).toArray 33 (0, 0))) (j : Nat) (y : S33) (hj : j < ys.length) :
    (storeVar 33 ⟨g, 3 * j, none⟩ (.agg (vA y).toArray)).run Tryd.prog w = .ok () (w.setCells g (3 * j) (vA y)) := by
  obtain ⟨ie, hie, hsz⟩ := infoA
  refine Lib.rl_storeVar_cells (P := Tryd.prog) 33 ie hie g (3 * j) (vA y) (by rw [hsz]; rfl) (fun v hv => ?_) w (fun k hk => ?_) (fun k hk => blk_frozen h _)
  · simp only [vA, List.mem_cons, List.mem_nil_iff, or_false] at hv
    rcases hv with rfl | rfl | rfl <;> rfl
  · rw [blk_cell h, List.getElem?_toArray, List.getElem?_eq_getElem (by rw [List.length_append, cellsA_len]; simp [vA] at hk; omega)]
    rfl
theorem setA1 {w : World} {g : Nat} {ys : List S33} {t : List Value} (h : w.heap[g]? = some (.cells (cellsA ys ++ t).toArray 33 (0, 0))) (m : Nat) (y : S33) (hj : m + 1 < ys.length) :
    (w.drew.setCells g (3 * m + 3) (vA y)).heap[g]? = some (.cells (cellsA (ys.set (m + 1) y) ++ t).toArray 33 (0, 0)) := by
  have := set_A (w := w.drew) h (m + 1) y hj
  rw [show 3 * (m + 1) = 3 * m + 3 by omega] at this
  exact this
theorem storeA1 {w : World} {g : Nat} {ys : List S33} {t : List Value} (h : w.heap[g]? = some (.cells (cellsA ys ++ t).toArray 33 (0, 0))) (m : Nat) (y : S33) (hj : m + 1 < ys.length) :
    (storeVar 33 ⟨g, 3 * m + 3, none⟩ (.agg (vA y).toArray)).run Tryd.prog w.drew = .ok () (w.drew.setCells g (3 * m + 3) (vA y)) := by
  have := store_A (w := w.drew) h (m + 1) y hj
  rw [show 3 * (m + 1) = 3 * m + 3 by omega] at this
  exact this
theorem store_run_value {P : Program} {a : Act} {o : Oper} {w : World} (t : TypeId) (x y : Operand) (ho : o.op = .store t x y) (ad : Addr) (hx : a.eval x = .pointer (some ad)) (v : Value) (hy : a.eval y = v) {w' : World}
    (hr : (storeVar t ad v).run P w = .ok () w') : (execOp a.eval o).run P w = .ok .skip w' := by
  unfold execOp
  simp only [ho, hx, hy, Instr.storeAt, Instr.sureAddr, Sem.run_bind, Sem.run_pure, Result.andThen_ok, hr]
/-- Do they stand the wrong way round? -/
def cmpA (x y : S33) : Int := Lib.compareBytes x.f0.data.toList y.f0.data.toList
def swapA (xs : List S33) (j : Nat) : List S33 := (xs.set j (xs.getD (j - 1) z33)).set (j - 1) (xs.getD j z33)
/-- One goes down to its place. -/
def sinkA : Nat → List S33 → List S33
  | 0, xs => xs
  | j + 1, xs => if cmpA (xs.getD (j + 1) z33) (xs.getD j z33) < 0 then sinkA j (swapA xs (j + 1)) else xs
def sortedTo (xs : List S33) : Nat → List S33
  | 0 => xs
  | i + 1 => sinkA (i + 1) (sortedTo xs i)
def sortA (xs : List S33) : List S33 := sortedTo xs (xs.length - 1)
theorem swapA_len (xs : List S33) (j : Nat) : (swapA xs j).length = xs.length := by simp [swapA]
theorem sinkA_len : ∀ (j : Nat) (xs : List S33), (sinkA j xs).length = xs.length
  | 0, xs => rfl
  | j + 1, xs => by
    rw [sinkA]
    split
    · rw [sinkA_len j, swapA_len]
    · rfl
theorem sortedTo_len (xs : List S33) : ∀ i, (sortedTo xs i).length = xs.length
  | 0 => rfl
  | i + 1 => by rw [sortedTo, sinkA_len, sortedTo_len xs i]
set_option maxHeartbeats 1000000 in
set_option maxRecDepth 100000 in
theorem cmp_calls (x y : S33) (w : World) : Calls Tryd.prog 44 #[.agg (vA x).toArray, .agg (vA y).toArray] w fun e w' => e = .returned (.int .i64 (cmpA x y)) ∧ Below w.heap.size w w' := by
  unfold vA
  go_enter Tryd.func44, Tryd.ntmps44
  go_wp2_with (go_at_call 45; refine (Tryd.strings_Compare _ _ _).mono ?_; rintro e w1 ⟨rfl, rfl⟩)
  go_ret
  exact ⟨rfl, ((Below.refl _ _).alloc (Nat.le_refl _) _).alloc (by rw [World.size_alloc]; omega) _⟩
section
variable {P : Program} {ops : Array Oper} {Q : Exit → Act → World → Prop}
/-- A call of a function value that captures nothing. -/
theorem gov_ {oi : Oper} {N : Option Tmp} {a : Act} {w : World} {K : Act → World → Prop} {f : FuncId} {fn : Func} {c : Operand} {ar : Array Operand} {ts : Array TypeId} (hf : P.funcs[f]? = some fn) (hname : (fn.name == "runtime.NumGoroutine") = false) (hb : fn.body.isSome = true) (args : Array Value)
    (hw : Region.wanted oi (yielded ops a.tmps) = true) (hN : oi.dst = N) (hop : oi.op = .call { callee := .value c, args := ar, argTypes := ts }) (hcv : a.eval c = .func (.func f) #[] #[]) (hargs : ar.map a.eval = args)
    (h : Calls P f args w fun e w' => ∃ v, e = .returned v ∧ K (a.put N v) w') : if Region.wanted oi (yielded ops a.tmps) = true then Oper.wp P oi a w K Q else K (a.put N undef) w := by
  refine call_ f args hw hN ?_ h
  have he := enters_ hf hname hb args w
  unfold execOp
  simp [hop, resolve, Deferred.ofValue, invoke, hcv, hargs, he]
end
theorem rowA {W : World} {g m : Nat} {ys : List S33} {t : List Value} (h : W.heap[g]? = some (.cells (cellsA ys ++ t).toArray 33 (0, 0))) (hm : m + 1 < ys.length) (x y : S33) (hx : ys.getD (m + 1) z33 = x) (hy : ys.getD m z33 = y) :
    W.cell? ⟨g, 3 * m + 3, none⟩ = some (.string x.f0) ∧ W.cell? ⟨g, 3 * m + 4, none⟩ = some (.string x.f1) ∧ W.cell? ⟨g, 3 * m + 5, none⟩ = some (.string x.f2) ∧ W.cell? ⟨g, 3 * m, none⟩ = some (.string y.f0) ∧ W.cell? ⟨g, 3 * m + 1, none⟩ = some (.string y.f1) ∧ W.cell? ⟨g, 3 * m + 2, none⟩ = some (.string y.f2) := by
  subst hx hy
  have c := fun j k hj hk => (blk_cell h (3 * j + k)).trans ((List.getElem?_toArray ..).trans (cellsA_at ys t j z33 hj k hk))
  exact ⟨c (m + 1) 0 hm (by omega), c (m + 1) 1 hm (by omega), c (m + 1) 2 hm (by omega), c m 0 (by omega) (by omega), c m 1 (by omega) (by omega), c m 2 (by omega) (by omega)⟩
theorem at_attr (g n cap : Nat) (i : Int) (j : Nat) (W : World) (hj : i = j) (hl : j < n) :
    (Instr.indexAt 26 (.slice (some ⟨g, 0, none⟩) n cap) (.int .i64 i)).run Tryd.prog W = .ok (.pointer (some ⟨g, 3 * j, none⟩)) W := by
  have hs : ∀ W, (sizeOf (Tryd.prog.elem 26)).run Tryd.prog W = .ok 3 W := fun W => by kernel_rfl
  rw [run_indexAt_slice W 26 ⟨g, 0, none⟩ n cap .i64 i (by kernel_rfl), hs, if_pos (by omega)]
  subst hj
  simp only [Result.andThen, Int.toNat_natCast]
  unfold Addr.add
  split
  · rename_i hz
    rw [show 3 * j = 0 by omega]
  · simp [Nat.mul_comm]
set_option pp.maxSteps 100000 in
set_option pp.deepTerms true in
set_option maxHeartbeats 4000000 in
set_option maxRecDepth 100000 in
theorem ins_calls (g n cap : Nat) (xs : List S33) (t : List Value) (w : World) (hn : n = xs.length) (h1 : n ≤ 1000) (hg : w.heap[g]? = some (.cells (cellsA xs ++ t).toArray 33 (0, 0))) :
    Calls Tryd.prog 97 #[.slice (some ⟨g, 0, none⟩) n cap, .int .i64 0, .int .i64 n, .func (.func 44) #[] #[]] w fun e w' => e = .returned (.tuple #[]) ∧ w'.heap[g]? = some (.cells (cellsA (sortA xs) ++ t).toArray 33 (0, 0)) ∧ Upd g w w' := by
  go_enter Tryd.func97, Tryd.ntmps97
  have HN := Lib.hid hn
  have HN1 := Lib.hid hn.symm
  clear hn
  have hglt : g < w.heap.size := (Array.getElem?_eq_some_iff.mp hg).1
  go_wp2
  go_loopw [8] (fun i wr => ∃ k, i = .int .i64 (k : Nat) ∧ 1 ≤ k ∧ (k ≤ n ∨ k = 1) ∧ wr.heap[g]? = some (.cells (cellsA (sortedTo xs (k - 1)) ++ t).toArray 33 (0, 0)) ∧ Upd g w wr)
    (fun i _ => (n - intOf i).toNat)
  case atStart => exact ⟨1, rfl, by omega, .inr rfl, hg, Upd.refl _ _⟩
  case round =>
    obtain ⟨k, rfl, hk1, hk, hG, hu⟩ := hrel
    by_cases hlt : k < n
    · have hd : decide ((k : Int) < n) = true := by simp; omega
      go_wp2
      go_loopw [9] (fun j wr => ∃ (m : Nat) (ys : List S33), j = .int .i64 (m : Nat) ∧ m ≤ k ∧ ys.length = n ∧ sinkA m ys = sortedTo xs k ∧ wr.heap[g]? = some (.cells (cellsA ys ++ t).toArray 33 (0, 0)) ∧ Upd g w wr)
        (fun j _ => (intOf j).toNat)
      case atStart =>
        refine ⟨k, sortedTo xs (k - 1), rfl, Nat.le_refl _, by rw [sortedTo_len]; exact HN1.out, ?_, hG, hu⟩
        obtain ⟨q, rfl⟩ : ∃ q, k = q + 1 := ⟨k - 1, by omega⟩
        rfl
      case round =>
        obtain ⟨m, ys, rfl, hmk, hyl, hsink, hG, hu⟩ := hrel
        have HYL := Lib.hid hyl
        have hyl1 : n ≤ ys.length := by omega
        clear hyl
        have HSK := Lib.hid hsink
        clear hsink
        rcases m with _ | m
        · have HGz := Lib.hid hG
          clear hG
          go_wp2
          refine start_ (n := 17) (S := fun w' => True) (ds := []) #[false, false, false, false, false, false, false, false, false, false, false, false, false, false, false, false, false] (by kernel_rfl) rfl rfl trivial (fun hHeld => ?_)
          refine pure_ (i := 0) (N := some 18) (v := ?_) (a' := ?_) #[true, false, false, false, false, false, false, false, false, false, false, false, false, false, false, false, false] rfl rfl (by kernel_rfl) (fun _ _ _ h => h) (Or.inl ⟨by rfl, ?_⟩) ?_ ?_
          rotate_left
          · intro w'
            go_simp
            with_reducible rfl
          rotate_left
          · simp only [Act.put, List.setIfInBounds_toArray, List.set_cons_zero, List.set_cons_succ, i64_w, i32_w]
            rfl
          refine pure_ (i := 1) (N := some 19) (v := ?_) (a' := ?_) #[true, true, false, false, false, false, false, false, false, false, false, false, false, false, false, false, false] rfl rfl (by kernel_rfl) (fun _ _ _ h => h) (Or.inl ⟨by rfl, ?_⟩) ?_ ?_
          rotate_left
          · intro w'
            go_simp
            with_reducible rfl
          rotate_left
          · simp only [Act.put, List.setIfInBounds_toArray, List.set_cons_zero, List.set_cons_succ, i64_w, i32_w]
            rfl
          refine pure_ (i := 2) (N := some 20) (v := ?_) (a' := ?_) #[true, true, true, false, false, false, false, false, false, false, false, false, false, false, false, false, false] rfl rfl (by kernel_rfl) (fun _ _ _ h => h) (Or.inl ⟨by rfl, ?_⟩) ?_ ?_
          rotate_left
          · intro w'
            go_simp
            with_reducible rfl
          rotate_left
          · simp only [Act.put, List.setIfInBounds_toArray, List.set_cons_zero, List.set_cons_succ, i64_w, i32_w]
            rfl
          refine pure_ (i := 3) (N := some 21) (v := ?_) (a' := ?_) #[true, true, true, true, false, false, false, false, false, false, false, false, false, false, false, false, false] rfl rfl (by kernel_rfl) (fun _ _ _ h => h) (Or.inl ⟨by rfl, ?_⟩) ?_ ?_
          rotate_left
          · intro w'
            go_simp
            with_reducible rfl
          rotate_left
          · simp only [Act.put, List.setIfInBounds_toArray, List.set_cons_zero, List.set_cons_succ, i64_w, i32_w]
            rfl
          refine pure_ (i := 4) (N := some 22) (v := undef) (a' := ?_) #[true, true, true, true, true, false, false, false, false, false, false, false, false, false, false, false, false] rfl rfl (by kernel_rfl) (fun _ _ _ h => h) (Or.inr ⟨by rfl, rfl⟩) ?_ ?_
          rotate_left
          · simp only [Act.put, List.setIfInBounds_toArray, List.set_cons_zero, List.set_cons_succ, i64_w, i32_w]
            rfl
          refine pure_ (i := 5) (N := some 23) (v := undef) (a' := ?_) #[true, true, true, true, true, true, false, false, false, false, false, false, false, false, false, false, false] rfl rfl (by kernel_rfl) (fun _ _ _ h => h) (Or.inr ⟨by rfl, rfl⟩) ?_ ?_
          rotate_left
          · simp only [Act.put, List.setIfInBounds_toArray, List.set_cons_zero, List.set_cons_succ, i64_w, i32_w]
            rfl
          refine pure_ (i := 6) (N := some 24) (v := undef) (a' := ?_) #[true, true, true, true, true, true, true, false, false, false, false, false, false, false, false, false, false] rfl rfl (by kernel_rfl) (fun _ _ _ h => h) (Or.inr ⟨by rfl, rfl⟩) ?_ ?_
          rotate_left
          · simp only [Act.put, List.setIfInBounds_toArray, List.set_cons_zero, List.set_cons_succ, i64_w, i32_w]
            rfl
          refine pure_ (i := 7) (N := some 25) (v := undef) (a' := ?_) #[true, true, true, true, true, true, true, true, false, false, false, false, false, false, false, false, false] rfl rfl (by kernel_rfl) (fun _ _ _ h => h) (Or.inr ⟨by rfl, rfl⟩) ?_ ?_
          rotate_left
          · simp only [Act.put, List.setIfInBounds_toArray, List.set_cons_zero, List.set_cons_succ, i64_w, i32_w]
            rfl
          refine pure_ (i := 8) (N := some 26) (v := undef) (a' := ?_) #[true, true, true, true, true, true, true, true, true, false, false, false, false, false, false, false, false] rfl rfl (by kernel_rfl) (fun _ _ _ h => h) (Or.inr ⟨by rfl, rfl⟩) ?_ ?_
          rotate_left
          · simp only [Act.put, List.setIfInBounds_toArray, List.set_cons_zero, List.set_cons_succ, i64_w, i32_w]
            rfl
          refine pure_ (i := 9) (N := some 27) (v := undef) (a' := ?_) #[true, true, true, true, true, true, true, true, true, true, false, false, false, false, false, false, false] rfl rfl (by kernel_rfl) (fun _ _ _ h => h) (Or.inr ⟨by rfl, rfl⟩) ?_ ?_
          rotate_left
          · simp only [Act.put, List.setIfInBounds_toArray, List.set_cons_zero, List.set_cons_succ, i64_w, i32_w]
            rfl
          refine pure_ (i := 10) (N := some 28) (v := undef) (a' := ?_) #[true, true, true, true, true, true, true, true, true, true, true, false, false, false, false, false, false] rfl rfl (by kernel_rfl) (fun _ _ _ h => h) (Or.inr ⟨by rfl, rfl⟩) ?_ ?_
          rotate_left
          · simp only [Act.put, List.setIfInBounds_toArray, List.set_cons_zero, List.set_cons_succ, i64_w, i32_w]
            rfl
          refine pure_ (i := 11) (N := some 29) (v := undef) (a' := ?_) #[true, true, true, true, true, true, true, true, true, true, true, true, false, false, false, false, false] rfl rfl (by kernel_rfl) (fun _ _ _ h => h) (Or.inr ⟨by rfl, rfl⟩) ?_ ?_
          rotate_left
          · simp only [Act.put, List.setIfInBounds_toArray, List.set_cons_zero, List.set_cons_succ, i64_w, i32_w]
            rfl
          refine pure_ (i := 12) (N := some 30) (v := undef) (a' := ?_) #[true, true, true, true, true, true, true, true, true, true, true, true, true, false, false, false, false] rfl rfl (by kernel_rfl) (fun _ _ _ h => h) (Or.inr ⟨by rfl, rfl⟩) ?_ ?_
          rotate_left
          · simp only [Act.put, List.setIfInBounds_toArray, List.set_cons_zero, List.set_cons_succ, i64_w, i32_w]
            rfl
          refine pure_ (i := 13) (N := some 31) (v := undef) (a' := ?_) #[true, true, true, true, true, true, true, true, true, true, true, true, true, true, false, false, false] rfl rfl (by kernel_rfl) (fun _ _ _ h => h) (Or.inr ⟨by rfl, rfl⟩) ?_ ?_
          rotate_left
          · simp only [Act.put, List.setIfInBounds_toArray, List.set_cons_zero, List.set_cons_succ, i64_w, i32_w]
            rfl
          refine pure_ (i := 14) (N := some 32) (v := undef) (a' := ?_) #[true, true, true, true, true, true, true, true, true, true, true, true, true, true, true, false, false] rfl rfl (by kernel_rfl) (fun _ _ _ h => h) (Or.inr ⟨by rfl, rfl⟩) ?_ ?_
          rotate_left
          · simp only [Act.put, List.setIfInBounds_toArray, List.set_cons_zero, List.set_cons_succ, i64_w, i32_w]
            rfl
          refine pure_ (i := 15) (N := some 33) (v := undef) (a' := ?_) #[true, true, true, true, true, true, true, true, true, true, true, true, true, true, true, true, false] rfl rfl (by kernel_rfl) (fun _ _ _ h => h) (Or.inr ⟨by rfl, rfl⟩) ?_ ?_
          rotate_left
          · simp only [Act.put, List.setIfInBounds_toArray, List.set_cons_zero, List.set_cons_succ, i64_w, i32_w]
            rfl
          refine pure_ (i := 16) (N := some 34) (v := ?_) (a' := ?_) #[true, true, true, true, true, true, true, true, true, true, true, true, true, true, true, true, true] rfl rfl (by kernel_rfl) (fun _ _ _ h => h) (Or.inl ⟨by rfl, ?_⟩) ?_ ?_
          rotate_left
          · intro w'
            go_simp
            with_reducible rfl
          rotate_left
          · simp only [Act.put, List.setIfInBounds_toArray, List.set_cons_zero, List.set_cons_succ, i64_w, i32_w]
            rfl
          refine done_ (by kernel_rfl) ?_
          change Exit.then _ _ Exit.normal _ wr.drew
          have huz : Upd g w wr.drew := ⟨hu.os, hu.tape, hu.output, hu.size, hu.block⟩
          have hGz : wr.drew.heap[g]? = some (.cells (cellsA ys ++ t).toArray 33 (0, 0)) := HGz.out
          have HG := Lib.hid hGz
          clear hGz HGz
          generalize wr.drew = w3 at *
          go_wp2
          go_roundw
          case rel =>
            refine ⟨k + 1, rfl, by omega, .inl (by omega), ?_, huz⟩
            rw [show k + 1 - 1 = k by omega, ← HSK.out]
            exact HG.out
          case measure => simp [intOf]; omega
        · have hd0 : decide (0 < ((m + 1 : Nat) : Int)) = true := by simp
          obtain ⟨x, hx⟩ : ∃ x, ys.getD (m + 1) z33 = x := ⟨_, rfl⟩
          obtain ⟨y, hy⟩ : ∃ y, ys.getD m z33 = y := ⟨_, rfl⟩
          have hrow := fun (W : World) (h : W.heap[g]? = some (.cells (cellsA ys ++ t).toArray 33 (0, 0))) => rowA h (by omega) x y hx hy
          have hB0 : wr.drew.heap[g]? = some (.cells (cellsA ys ++ t).toArray 33 (0, 0)) := hG
          obtain ⟨hc0, hc1, hc2, hc3, hc4, hc5⟩ := hrow wr.drew hB0
          have e1 : wrap64 (m : Int) = (m : Int) := by unfold wrap64; omega
          have e2 : IntKind.i64.wrap (m : Int) = (m : Int) := IntWalk.i64_in _ (by omega)
          have la := fun W => at_attr g n cap ((m : Int) + 1) (m + 1) W (by omega) (by omega)
          have lb := fun W => at_attr g n cap (m : Int) m W rfl (by omega)
          rw [show 3 * (m + 1) = 3 * m + 3 by omega] at la
          have HX := Lib.hid hx
          have HY := Lib.hid hy
          clear hx hy
          go_wp2
          refine start_ (n := 17) (S := fun w' => w'.cell? ⟨g, 3 * m + 3, none⟩ = some (.string x.f0) ∧ w'.cell? ⟨g, 3 * m + 4, none⟩ = some (.string x.f1) ∧ w'.cell? ⟨g, 3 * m + 5, none⟩ = some (.string x.f2) ∧ w'.cell? ⟨g, 3 * m, none⟩ = some (.string y.f0) ∧ w'.cell? ⟨g, 3 * m + 1, none⟩ = some (.string y.f1) ∧ w'.cell? ⟨g, 3 * m + 2, none⟩ = some (.string y.f2)) (ds := []) #[false, false, false, false, false, false, false, false, false, false, false, false, false, false, false, false, false] (by kernel_rfl) rfl rfl ⟨hc0, hc1, hc2, hc3, hc4, hc5⟩ (fun hHeld => ?_)
          refine pure_ (i := 0) (N := some 18) (v := ?_) (a' := ?_) #[true, false, false, false, false, false, false, false, false, false, false, false, false, false, false, false, false] rfl rfl (by kernel_rfl) (fun _ _ _ h => h) (Or.inl ⟨by rfl, ?_⟩) ?_ ?_
          rotate_left
          · intro w'
            go_simp
            with_reducible rfl
          rotate_left
          · simp only [Act.put, List.setIfInBounds_toArray, List.set_cons_zero, List.set_cons_succ, i64_w, i32_w]
            rfl
          refine pure_ (i := 1) (N := some 19) (v := ?_) (a' := ?_) #[true, true, false, false, false, false, false, false, false, false, false, false, false, false, false, false, false] rfl rfl (by kernel_rfl) (fun _ _ _ h => h) (Or.inl ⟨by rfl, ?_⟩) ?_ ?_
          rotate_left
          · intro w'
            go_simp
            with_reducible rfl
          rotate_left
          · simp only [Act.put, List.setIfInBounds_toArray, List.set_cons_zero, List.set_cons_succ, i64_w, i32_w]
            rfl
          refine pure_ (i := 2) (N := some 20) (v := ?_) (a' := ?_) #[true, true, true, false, false, false, false, false, false, false, false, false, false, false, false, false, false] rfl rfl (by kernel_rfl) (fun _ _ _ h => h) (Or.inl ⟨by rfl, ?_⟩) ?_ ?_
          rotate_left
          · intro w'
            go_simp
            with_reducible rfl
          rotate_left
          · simp only [Act.put, List.setIfInBounds_toArray, List.set_cons_zero, List.set_cons_succ, i64_w, i32_w]
            rfl
          refine pure_ (i := 3) (N := some 21) (v := ?_) (a' := ?_) #[true, true, true, true, false, false, false, false, false, false, false, false, false, false, false, false, false] rfl rfl (by kernel_rfl) (fun _ _ _ h => h) (Or.inl ⟨by rfl, ?_⟩) ?_ ?_
          rotate_left
          · intro w'
            go_simp
            with_reducible rfl
          rotate_left
          · simp only [Act.put, List.setIfInBounds_toArray, List.set_cons_zero, List.set_cons_succ, i64_w, i32_w]
            rfl
          refine pure_ (i := 4) (N := some 22) (v := ?_) (a' := ?_) #[true, true, true, true, true, false, false, false, false, false, false, false, false, false, false, false, false] rfl rfl (by kernel_rfl) (fun _ _ _ h => h) (Or.inl ⟨by rfl, ?_⟩) ?_ ?_
          rotate_left
          · intro w'
            go_simp
            with_reducible rfl
          rotate_left
          · simp only [Act.put, List.setIfInBounds_toArray, List.set_cons_zero, List.set_cons_succ, i64_w, i32_w]
            rfl
          refine pure_ (i := 5) (N := some 23) (v := ?_) (a' := ?_) #[true, true, true, true, true, true, false, false, false, false, false, false, false, false, false, false, false] rfl rfl (by kernel_rfl) (fun _ _ _ h => h) (Or.inl ⟨by rfl, ?_⟩) ?_ ?_
          rotate_left
          · intro w'
            go_simp
            with_reducible rfl
          rotate_left
          · simp only [Act.put, List.setIfInBounds_toArray, List.set_cons_zero, List.set_cons_succ, i64_w, i32_w]
            rfl
          refine pure_ (i := 6) (N := some 24) (v := ?_) (a' := ?_) #[true, true, true, true, true, true, true, false, false, false, false, false, false, false, false, false, false] rfl rfl (by kernel_rfl) (fun _ _ _ h => h) (Or.inl ⟨by rfl, ?_⟩) ?_ ?_
          rotate_left
          · intro w'
            go_simp
            with_reducible rfl
          rotate_left
          · simp only [Act.put, List.setIfInBounds_toArray, List.set_cons_zero, List.set_cons_succ, i64_w, i32_w]
            rfl
          refine pure_ (i := 7) (N := some 25) (v := ?_) (a' := ?_) #[true, true, true, true, true, true, true, true, false, false, false, false, false, false, false, false, false] rfl rfl (by kernel_rfl) (fun _ _ _ h => h) (Or.inl ⟨by rfl, ?_⟩) ?_ ?_
          rotate_left
          · intro w'
            go_simp
            with_reducible rfl
          rotate_left
          · simp only [Act.put, List.setIfInBounds_toArray, List.set_cons_zero, List.set_cons_succ, i64_w, i32_w]
            rfl
          refine pure_ (i := 9) (N := some 27) (v := ?_) (a' := ?_) #[true, true, true, true, true, true, true, true, false, true, false, false, false, false, false, false, false] rfl rfl (by kernel_rfl) (fun _ _ _ h => h) (Or.inl ⟨by rfl, ?_⟩) ?_ ?_
          rotate_left
          · intro w'
            go_simp
            with_reducible rfl
          rotate_left
          · simp only [Act.put, List.setIfInBounds_toArray, List.set_cons_zero, List.set_cons_succ, i64_w, i32_w]
            rfl
          refine pure_ (i := 10) (N := some 28) (v := ?_) (a' := ?_) #[true, true, true, true, true, true, true, true, false, true, true, false, false, false, false, false, false] rfl rfl (by kernel_rfl) (fun _ _ _ h => h) (Or.inl ⟨by rfl, ?_⟩) ?_ ?_
          rotate_left
          · intro w'
            go_simp
            with_reducible rfl
          rotate_left
          · simp only [Act.put, List.setIfInBounds_toArray, List.set_cons_zero, List.set_cons_succ, i64_w, i32_w]
            rfl
          refine pure_ (i := 11) (N := some 29) (v := ?_) (a' := ?_) #[true, true, true, true, true, true, true, true, false, true, true, true, false, false, false, false, false] rfl rfl (by kernel_rfl) (fun _ _ _ h => h) (Or.inl ⟨by rfl, ?_⟩) ?_ ?_
          rotate_left
          · intro w'
            go_simp
            with_reducible rfl
          rotate_left
          · simp only [Act.put, List.setIfInBounds_toArray, List.set_cons_zero, List.set_cons_succ, i64_w, i32_w]
            rfl
          refine pure_ (i := 12) (N := some 30) (v := ?_) (a' := ?_) #[true, true, true, true, true, true, true, true, false, true, true, true, true, false, false, false, false] rfl rfl (by kernel_rfl) (fun _ _ _ h => h) (Or.inl ⟨by rfl, ?_⟩) ?_ ?_
          rotate_left
          · intro w'
            go_simp
            with_reducible rfl
          rotate_left
          · simp only [Act.put, List.setIfInBounds_toArray, List.set_cons_zero, List.set_cons_succ, i64_w, i32_w]
            rfl
          refine take_ (i := 8) (N := some 26) (v := ?_) (a' := ?_) #[true, true, true, true, true, true, true, true, true, true, true, true, true, false, false, false, false] rfl rfl (by kernel_rfl) (fun _ _ _ h => h) (Or.inl ⟨by rfl, ?_⟩) hHeld ?_ ?_
          rotate_left
          · rintro w' ⟨s0, s1, s2, s3, s4, s5⟩
            go_simp
            with_reducible rfl
          rotate_left
          · simp only [Act.put, List.setIfInBounds_toArray, List.set_cons_zero, List.set_cons_succ, i64_w, i32_w]
            rfl
          refine take_ (i := 13) (N := some 31) (v := ?_) (a' := ?_) #[true, true, true, true, true, true, true, true, true, true, true, true, true, true, false, false, false] rfl rfl (by kernel_rfl) (fun _ _ _ h => h) (Or.inl ⟨by rfl, ?_⟩) hHeld ?_ ?_
          rotate_left
          · rintro w' ⟨s0, s1, s2, s3, s4, s5⟩
            go_simp
            with_reducible rfl
          rotate_left
          · simp only [Act.put, List.setIfInBounds_toArray, List.set_cons_zero, List.set_cons_succ, i64_w, i32_w]
            rfl
          refine one_ (i := 14) (N := some 32) #[true, true, true, true, true, true, true, true, true, true, true, true, true, true, true, false, false] rfl rfl (by kernel_rfl) (by decide) (fun K hK => ?_)
          refine gov_ Tryd.func44 (by kernel_rfl) rfl #[.agg (vA x).toArray, .agg (vA y).toArray] (by rfl) rfl rfl rfl (by simp only [List.map_toArray, List.map_cons, List.map_nil]; rfl) ?_
          refine (cmp_calls x y _).mono ?_
          rintro e w3 ⟨rfl, hb3⟩
          refine ⟨_, rfl, ?_⟩
          have hbd := hb3
          have hlt3 : g < wr.drew.heap.size := (Array.getElem?_eq_some_iff.mp hB0).1
          have hB3 := (hb3.block g hlt3).trans hB0
          refine hK.out _ _ ⟨(hrow w3 hB3).1, (hrow w3 hB3).2.1, (hrow w3 hB3).2.2.1, (hrow w3 hB3).2.2.2.1, (hrow w3 hB3).2.2.2.2.1, (hrow w3 hB3).2.2.2.2.2⟩ (fun hHeld => ?_)
          clear hK K
          refine norm_ (a' := ?_) ?_ ?_
          rotate_left
          · show Act.put _ (some 32) _ = _
            simp only [Act.put, List.setIfInBounds_toArray, List.set_cons_zero, List.set_cons_succ, i64_w, i32_w]
            rfl
          refine pure_ (i := 15) (N := some 33) (v := ?_) (a' := ?_) #[true, true, true, true, true, true, true, true, true, true, true, true, true, true, true, true, false] rfl rfl (by kernel_rfl) (fun _ _ _ h => h) (Or.inl ⟨by rfl, ?_⟩) ?_ ?_
          rotate_left
          · intro w'
            go_simp
            with_reducible rfl
          rotate_left
          · simp only [Act.put, List.setIfInBounds_toArray, List.set_cons_zero, List.set_cons_succ, i64_w, i32_w]
            rfl
          refine pure_ (i := 16) (N := some 34) (v := ?_) (a' := ?_) #[true, true, true, true, true, true, true, true, true, true, true, true, true, true, true, true, true] rfl rfl (by kernel_rfl) (fun _ _ _ h => h) (Or.inl ⟨by rfl, ?_⟩) ?_ ?_
          rotate_left
          · intro w'
            go_simp
            with_reducible rfl
          rotate_left
          · simp only [Act.put, List.setIfInBounds_toArray, List.set_cons_zero, List.set_cons_succ, i64_w, i32_w]
            rfl
          refine done_ (by kernel_rfl) ?_
          have hu3 : Upd g wr w3 := Upd.of_below (B := g) (w := wr) ⟨hbd.os, hbd.tape, hbd.output, hbd.size, hbd.block⟩
          have hG3 := Lib.hid hG
          clear hc0 hc1 hc2 hc3 hc4 hc5 hB0 hG hb3 hbd hHeld
          by_cases hneg : cmpA x y < 0
          · have hdn : decide (cmpA x y < 0) = true := by simpa using hneg
            have HB3 := Lib.hid hB3
            clear hB3
            go_wp2
            obtain ⟨hc0, hc1, hc2, hc3, hc4, hc5⟩ := hrow w3.drew HB3.out
            refine start_ (n := 18) (S := fun w' => w'.cell? ⟨g, 3 * m + 3, none⟩ = some (.string x.f0) ∧ w'.cell? ⟨g, 3 * m + 4, none⟩ = some (.string x.f1) ∧ w'.cell? ⟨g, 3 * m + 5, none⟩ = some (.string x.f2) ∧ w'.cell? ⟨g, 3 * m, none⟩ = some (.string y.f0) ∧ w'.cell? ⟨g, 3 * m + 1, none⟩ = some (.string y.f1) ∧ w'.cell? ⟨g, 3 * m + 2, none⟩ = some (.string y.f2)) (ds := [15, 17]) #[false, false, false, false, false, false, false, false, false, false, false, false, false, false, false, false, false, false] (by kernel_rfl) rfl rfl ⟨hc0, hc1, hc2, hc3, hc4, hc5⟩ (fun hHeld => ?_)
            refine pure_ (i := 0) (N := some 37) (v := ?_) (a' := ?_) #[true, false, false, false, false, false, false, false, false, false, false, false, false, false, false, false, false, false] rfl rfl (by kernel_rfl) (fun _ _ _ h => h) (Or.inl ⟨by rfl, ?_⟩) ?_ ?_
            rotate_left
            · intro w'
              go_simp
              with_reducible rfl
            rotate_left
            · simp only [Act.put, List.setIfInBounds_toArray, List.set_cons_zero, List.set_cons_succ, i64_w, i32_w]
              rfl
            refine pure_ (i := 1) (N := some 38) (v := ?_) (a' := ?_) #[true, true, false, false, false, false, false, false, false, false, false, false, false, false, false, false, false, false] rfl rfl (by kernel_rfl) (fun _ _ _ h => h) (Or.inl ⟨by rfl, ?_⟩) ?_ ?_
            rotate_left
            · intro w'
              go_simp
              with_reducible rfl
            rotate_left
            · simp only [Act.put, List.setIfInBounds_toArray, List.set_cons_zero, List.set_cons_succ, i64_w, i32_w]
              rfl
            refine pure_ (i := 2) (N := some 39) (v := ?_) (a' := ?_) #[true, true, true, false, false, false, false, false, false, false, false, false, false, false, false, false, false, false] rfl rfl (by kernel_rfl) (fun _ _ _ h => h) (Or.inl ⟨by rfl, ?_⟩) ?_ ?_
            rotate_left
            · intro w'
              go_simp
              with_reducible rfl
            rotate_left
            · simp only [Act.put, List.setIfInBounds_toArray, List.set_cons_zero, List.set_cons_succ, i64_w, i32_w]
              rfl
            refine pure_ (i := 3) (N := some 40) (v := ?_) (a' := ?_) #[true, true, true, true, false, false, false, false, false, false, false, false, false, false, false, false, false, false] rfl rfl (by kernel_rfl) (fun _ _ _ h => h) (Or.inl ⟨by rfl, ?_⟩) ?_ ?_
            rotate_left
            · intro w'
              go_simp
              with_reducible rfl
            rotate_left
            · simp only [Act.put, List.setIfInBounds_toArray, List.set_cons_zero, List.set_cons_succ, i64_w, i32_w]
              rfl
            refine pure_ (i := 4) (N := some 41) (v := ?_) (a' := ?_) #[true, true, true, true, true, false, false, false, false, false, false, false, false, false, false, false, false, false] rfl rfl (by kernel_rfl) (fun _ _ _ h => h) (Or.inl ⟨by rfl, ?_⟩) ?_ ?_
            rotate_left
            · intro w'
              go_simp
              with_reducible rfl
            rotate_left
            · simp only [Act.put, List.setIfInBounds_toArray, List.set_cons_zero, List.set_cons_succ, i64_w, i32_w]
              rfl
            refine pure_ (i := 5) (N := some 42) (v := ?_) (a' := ?_) #[true, true, true, true, true, true, false, false, false, false, false, false, false, false, false, false, false, false] rfl rfl (by kernel_rfl) (fun _ _ _ h => h) (Or.inl ⟨by rfl, ?_⟩) ?_ ?_
            rotate_left
            · intro w'
              go_simp
              with_reducible rfl
            rotate_left
            · simp only [Act.put, List.setIfInBounds_toArray, List.set_cons_zero, List.set_cons_succ, i64_w, i32_w]
              rfl
            refine pure_ (i := 6) (N := some 43) (v := ?_) (a' := ?_) #[true, true, true, true, true, true, true, false, false, false, false, false, false, false, false, false, false, false] rfl rfl (by kernel_rfl) (fun _ _ _ h => h) (Or.inl ⟨by rfl, ?_⟩) ?_ ?_
            rotate_left
            · intro w'
              go_simp
              with_reducible rfl
            rotate_left
            · simp only [Act.put, List.setIfInBounds_toArray, List.set_cons_zero, List.set_cons_succ, i64_w, i32_w]
              rfl
            refine pure_ (i := 7) (N := some 44) (v := ?_) (a' := ?_) #[true, true, true, true, true, true, true, true, false, false, false, false, false, false, false, false, false, false] rfl rfl (by kernel_rfl) (fun _ _ _ h => h) (Or.inl ⟨by rfl, ?_⟩) ?_ ?_
            rotate_left
            · intro w'
              go_simp
              with_reducible rfl
            rotate_left
            · simp only [Act.put, List.setIfInBounds_toArray, List.set_cons_zero, List.set_cons_succ, i64_w, i32_w]
              rfl
            refine pure_ (i := 8) (N := some 45) (v := ?_) (a' := ?_) #[true, true, true, true, true, true, true, true, true, false, false, false, false, false, false, false, false, false] rfl rfl (by kernel_rfl) (fun _ _ _ h => h) (Or.inl ⟨by rfl, ?_⟩) ?_ ?_
            rotate_left
            · intro w'
              go_simp
              with_reducible rfl
            rotate_left
            · simp only [Act.put, List.setIfInBounds_toArray, List.set_cons_zero, List.set_cons_succ, i64_w, i32_w]
              rfl
            refine pure_ (i := 10) (N := some 47) (v := ?_) (a' := ?_) #[true, true, true, true, true, true, true, true, true, false, true, false, false, false, false, false, false, false] rfl rfl (by kernel_rfl) (fun _ _ _ h => h) (Or.inl ⟨by rfl, ?_⟩) ?_ ?_
            rotate_left
            · intro w'
              go_simp
              with_reducible rfl
            rotate_left
            · simp only [Act.put, List.setIfInBounds_toArray, List.set_cons_zero, List.set_cons_succ, i64_w, i32_w]
              rfl
            refine pure_ (i := 11) (N := some 48) (v := ?_) (a' := ?_) #[true, true, true, true, true, true, true, true, true, false, true, true, false, false, false, false, false, false] rfl rfl (by kernel_rfl) (fun _ _ _ h => h) (Or.inl ⟨by rfl, ?_⟩) ?_ ?_
            rotate_left
            · intro w'
              go_simp
              with_reducible rfl
            rotate_left
            · simp only [Act.put, List.setIfInBounds_toArray, List.set_cons_zero, List.set_cons_succ, i64_w, i32_w]
              rfl
            refine pure_ (i := 12) (N := some 49) (v := ?_) (a' := ?_) #[true, true, true, true, true, true, true, true, true, false, true, true, true, false, false, false, false, false] rfl rfl (by kernel_rfl) (fun _ _ _ h => h) (Or.inl ⟨by rfl, ?_⟩) ?_ ?_
            rotate_left
            · intro w'
              go_simp
              with_reducible rfl
            rotate_left
            · simp only [Act.put, List.setIfInBounds_toArray, List.set_cons_zero, List.set_cons_succ, i64_w, i32_w]
              rfl
            refine take_ (i := 9) (N := some 46) (v := ?_) (a' := ?_) #[true, true, true, true, true, true, true, true, true, true, true, true, true, false, false, false, false, false] rfl rfl (by kernel_rfl) (fun _ _ _ h => h) (Or.inl ⟨by rfl, ?_⟩) hHeld ?_ ?_
            rotate_left
            · rintro w' ⟨s0, s1, s2, s3, s4, s5⟩
              go_simp
              with_reducible rfl
            rotate_left
            · simp only [Act.put, List.setIfInBounds_toArray, List.set_cons_zero, List.set_cons_succ, i64_w, i32_w]
              rfl
            refine take_ (i := 13) (N := some 50) (v := ?_) (a' := ?_) #[true, true, true, true, true, true, true, true, true, true, true, true, true, true, false, false, false, false] rfl rfl (by kernel_rfl) (fun _ _ _ h => h) (Or.inl ⟨by rfl, ?_⟩) hHeld ?_ ?_
            rotate_left
            · rintro w' ⟨s0, s1, s2, s3, s4, s5⟩
              go_simp
              with_reducible rfl
            rotate_left
            · simp only [Act.put, List.setIfInBounds_toArray, List.set_cons_zero, List.set_cons_succ, i64_w, i32_w]
              rfl
            refine pure_ (i := 14) (N := some 51) (v := ?_) (a' := ?_) #[true, true, true, true, true, true, true, true, true, true, true, true, true, true, true, false, false, false] rfl rfl (by kernel_rfl) (fun _ _ _ h => h) (Or.inl ⟨by rfl, ?_⟩) ?_ ?_
            rotate_left
            · intro w'
              go_simp
              with_reducible rfl
            rotate_left
            · simp only [Act.put, List.setIfInBounds_toArray, List.set_cons_zero, List.set_cons_succ, i64_w, i32_w]
              rfl
            refine last_ (i := 15) (N := none) #[true, true, true, true, true, true, true, true, true, true, true, true, true, true, true, true, false, false] rfl rfl (by kernel_rfl) (by decide) (fun K hK => ?_)
            refine skip_ (w1 := w3.drew.setCells g (3 * m + 3) (vA y)) (by rfl) rfl ?_ ?_
            · exact store_run_value _ _ _ rfl _ rfl _ rfl (storeA1 HB3.out m y (by omega))
            refine hK.out _ _ ?_
            clear hK K
            refine pure_ (i := 16) (N := some 52) (v := ?_) (a' := ?_) #[true, true, true, true, true, true, true, true, true, true, true, true, true, true, true, true, true, false] rfl rfl (by kernel_rfl) (fun _ _ _ h => h) (Or.inl ⟨by rfl, ?_⟩) ?_ ?_
            rotate_left
            · intro w'
              go_simp
              with_reducible rfl
            rotate_left
            · simp only [Act.put, List.setIfInBounds_toArray, List.set_cons_zero, List.set_cons_succ, i64_w, i32_w]
              rfl
            refine last_ (i := 17) (N := none) #[true, true, true, true, true, true, true, true, true, true, true, true, true, true, true, true, true, true] rfl rfl (by kernel_rfl) (by decide) (fun K hK => ?_)
            refine skip_ (w1 := (w3.drew.setCells g (3 * m + 3) (vA y)).setCells g (3 * m) (vA x)) (by rfl) rfl ?_ ?_
            · exact store_run_value _ _ _ rfl _ rfl _ rfl (store_A (setA1 HB3.out m y (by omega)) m x (by simp; omega))
            refine hK.out _ _ ?_
            clear hK K
            refine done_ (by kernel_rfl) ?_
            have hfin := set_A (setA1 HB3.out m y (by omega)) m x (by simp; omega)
            have hsw : (ys.set (m + 1) y).set m x = swapA ys (m + 1) := by rw [← HX.out, ← HY.out]; rfl
            have hnx : sinkA (m + 1) ys = sinkA m (swapA ys (m + 1)) := by
              rw [sinkA, HX.out, HY.out, if_pos hneg]
            rw [hsw] at hfin
            have hu4 : Upd g w3 ((w3.drew.setCells g (3 * m + 3) (vA y)).setCells g (3 * m) (vA x)) := upd_setCells _ _ _ (upd_setCells _ _ w3.drew ⟨rfl, rfl, rfl, Nat.le_refl _, fun _ _ _ => rfl⟩)
            have HF := Lib.hid hfin
            have HNX := Lib.hid hnx
            have HU4 := Lib.hid hu4
            generalize (w3.drew.setCells g (3 * m + 3) (vA y)).setCells g (3 * m) (vA x) = w5 at *
            clear hfin hsw hnx hu4 hc0 hc1 hc2 hc3 hc4 hc5
            go_wp2
            go_roundw
            case rel => exact ⟨m, swapA ys (m + 1), by congr 1, by omega, by rw [swapA_len]; exact HYL.out, HNX.out.symm.trans HSK.out, HF.out, (hu.trans hu3).trans HU4.out⟩
            case measure => simp [intOf]
          · have hdn : decide (cmpA x y < 0) = false := by simpa using hneg
            have HB3 := Lib.hid hB3
            clear hB3
            go_wp2
            go_roundw
            case rel =>
              refine ⟨k + 1, rfl, by omega, .inl (by omega), ?_, hu.trans hu3⟩
              rw [show k + 1 - 1 = k by omega, ← HSK.out, sinkA, HX.out, HY.out, if_neg hneg]
              exact HB3.out
            case measure => simp [intOf]; omega
    · have hkn : sortedTo xs (k - 1) = sortA xs := by
        have := HN1.out
        unfold sortA
        rw [this]
        rcases hk with hk | hk
        · rw [show k = n by omega]
        · subst hk
          rw [show n - 1 = 0 by omega]
      rw [hkn] at hG
      have HG := Lib.hid hG
      clear hG hkn
      have hd : decide ((k : Int) < n) = false := by simp; omega
      go_wp2
      go_end0
      exact ⟨rfl, HG.out, hu⟩
end Go.Proofs.YtolpefnedpgaaaaDoor.X

namespace Go.Proofs.YtolpefnedpgaaaaDoor.X
open Go.RowKit Go.Proofs.YtolpefnedpgaaaaDoorW.PrintWords Go.Proofs.YtolpefnedpgaaaaDoorW.PrintLast Go.Proofs.YtolpefnedpgaaaaDoorW.PrintMore
set_option linter.unusedVariables false
set_option linter.unusedSimpArgs false
set_option maxHeartbeats 2000000 in
set_option maxRecDepth 100000 in
theorem clone_calls (A0 : Option Addr) (c0 : Nat) (l : List S33) (w : World) (hr : Kd.C k33 w A0 l.length l) (hc : l.length ≤ c0) (hl : l.length ≤ 1000) :
    Calls Tryd.prog 42 #[.slice A0 l.length c0] w fun e w' => ∃ v0_ : Value, e = .returned v0_ ∧ Kd.R k33 33 w' w.heap.size (fun _ => True) v0_ l ∧ Below w.heap.size w w' := by
  go_enter Tryd.func42, Tryd.ntmps42
  have he := fun W => Lib.run_eql_slice_nil (P := Tryd.prog) W 26 33 A0 l.length c0 0 0 Tryd.underlying26
  rcases A0 with _ | ad
  · have h0 : l = [] := by
      rcases l with _ | ⟨x, l⟩
      · rfl
      · obtain ⟨ad, h, _⟩ := hr.2.2 (by simp)
        cases h
    subst h0
    simp only [List.length_nil] at he
    go_wp2
    go_ret
    exact ⟨_, rfl, Kd.R_nil _ _ _ _ _, Below.refl _ _⟩
  · go_upto_region 3 with (fail)
    have hnew := heap_alloc_new w (.cells #[] 33 (0, 0))
    have hbel : Below w.heap.size w (w.alloc (.cells #[] 33 (0, 0))) := (Below.refl _ _).alloc (Nat.le_refl _) _
    have hown : Kd.R k33 33 (w.alloc (.cells #[] 33 (0, 0))) w.heap.size (fun _ => True) (.slice (some ⟨w.heap.size, 0, none⟩) 0 0) [] := by
      refine ⟨fun _ _ => trivial, [], ⟨rfl, .inr ⟨w.heap.size, 0, _, rfl, Nat.le_refl _, hnew, Nat.le_refl _, by unfold maxLen; omega, rfl, rfl⟩⟩, Reps.none _ _⟩
    refine wp_region_lit ?_
    refine wpList_step (fun K hK => ?_)
    go_simp
    refine hK _ _ ?_
    clear hK K
    refine wpList_step (fun K hK => ?_)
    go_simp
    refine hK _ _ ?_
    clear hK K
    refine Kd.R_append_rows k33 (Rr := k33.K w) (w0 := w) w.heap.size rfl _ _ _ 33 _ 48 rfl Tryd.underlying26 info33 rfl (by decide) (by decide) (.slice (some ⟨w.heap.size, 0, none⟩) 0 0) [] l (some ad) l.length c0 (fun _ => True) (fun _ => False) rfl rfl hown (Kd.C_below hr hbel) (fun x cs h => by rw [k33_open h]; exact k33_mkM _ _ _ _) (fun _ h => h.elim) (fun _ _ => trivial) hbel (by rw [World.size_alloc]; omega) (by simp; omega) ?_
    intro v1 w1 h1 hb1 hg1 hat
    refine wpList_step (fun K hK => ?_)
    go_simp
    refine hK _ _ ?_
    clear hK K
    refine wpList_nil ?_
    go_wp2
    go_ret
    exact ⟨_, rfl, h1, hb1⟩
end Go.Proofs.YtolpefnedpgaaaaDoor.X

namespace Go.Proofs.YtolpefnedpgaaaaDoor.X
open Go.RowKit Go.Proofs.YtolpefnedpgaaaaDoorW.PrintWords Go.Proofs.YtolpefnedpgaaaaDoorW.PrintLast Go.Proofs.YtolpefnedpgaaaaDoorW.PrintMore
set_option linter.unusedVariables false
set_option linter.unusedSimpArgs false
set_option maxHeartbeats 2000000 in
set_option maxRecDepth 100000 in
theorem stable_calls (g n cap : Nat) (xs : List S33) (t : List Value) (w : World) (hn : n = xs.length) (h1 : n < 20) (hg : w.heap[g]? = some (.cells (cellsA xs ++ t).toArray 33 (0, 0))) :
    Calls Tryd.prog 74 #[.slice (some ⟨g, 0, none⟩) n cap, .int .i64 n, .func (.func 44) #[] #[]] w fun e w' => e = .returned (.tuple #[]) ∧ w'.heap[g]? = some (.cells (cellsA (sortA xs) ++ t).toArray 33 (0, 0)) ∧ Upd g w w' := by
  have HI := Lib.hid (ins_calls g n cap xs t w hn (by omega) hg)
  have hd : decide (20 ≤ (n : Int)) = false := by simp; omega
  have hd2 : decide (20 < (n : Int)) = false := by simp; omega
  clear hg hn
  go_enter Tryd.func74, Tryd.ntmps74
  go_wp2
  refine wp_loop_rounds 1 ?_
  rw [rounds_succ]
  go_wp2_with (go_at_call 97; refine HI.out.mono ?_; rintro e w1 ⟨rfl, hG, hu⟩)
  refine wp_loop_rounds 1 ?_
  rw [rounds_succ]
  have HG := Lib.hid hG
  clear hG
  go_wp2
  go_end0
  exact ⟨rfl, HG.out, hu⟩
theorem cellsA_of : ∀ (xs : List S33) (inner : List Value) (R : S33 → List Value → Prop), (∀ x cs, R x cs → cs = vA x) → Reps R 3 xs inner → inner = cellsA xs
  | [], inner, R, h, hr => by
    have := hr.1
    simp at this
    rw [this]
    rfl
  | x :: l, inner, R, h, hr => by
    have h0 := h _ _ (hr.2 0 x rfl)
    have := cellsA_of l (inner.drop 3) R h ⟨by have := hr.1; simp at this ⊢; omega, fun j y hy => by
      have := hr.2 (j + 1) y hy
      rw [List.drop_drop, show 3 + j * 3 = (j + 1) * 3 by omega]
      exact this⟩
    rw [show inner = inner.take 3 ++ inner.drop 3 by simp, this]
    simp only [Nat.zero_mul, List.drop_zero] at h0
    rw [h0]
    rfl
theorem reps_of (R : S33 → List Value → Prop) (h : ∀ x, R x (vA x)) : ∀ (xs : List S33), Reps R 3 xs (cellsA xs)
  | [] => Reps.none _ _
  | x :: l => ⟨by rw [cellsA_len]; simp; omega, fun j y hy => by
    rcases j with _ | j
    · simp at hy
      subst hy
      have := h x
      simpa [cellsA, vA] using this
    · have := (reps_of R h l).2 j y (by simpa using hy)
      simp only [cellsA, List.flatMap_cons]
      rw [show (j + 1) * 3 = j * 3 + 1 + 1 + 1 by omega]
      simpa [vA, cellsA] using this⟩
set_option maxHeartbeats 2000000 in
set_option maxRecDepth 100000 in
theorem sortStable_calls (g n cap : Nat) (xs : List S33) (t : List Value) (w : World) (hn : n = xs.length) (h1 : n < 20) (hg : w.heap[g]? = some (.cells (cellsA xs ++ t).toArray 33 (0, 0))) :
    Calls Tryd.prog 43 #[.slice (some ⟨g, 0, none⟩) n cap, .func (.func 44) #[] #[]] w fun e w' => e = .returned (.tuple #[]) ∧ w'.heap[g]? = some (.cells (cellsA (sortA xs) ++ t).toArray 33 (0, 0)) ∧ Upd g w w' := by
  have HI := Lib.hid (stable_calls g n cap xs t w hn h1 hg)
  clear hg hn
  go_enter Tryd.func43, Tryd.ntmps43
  go_wp2_with (go_at_call 74; refine HI.out.mono ?_; rintro e w1 ⟨rfl, hG, hu⟩)
  go_end0
  exact ⟨rfl, hG, hu⟩
/-- Nothing to sort. -/
theorem ins_none (w : World) : Calls Tryd.prog 97 #[.slice none 0 0, .int .i64 0, .int .i64 0, .func (.func 44) #[] #[]] w fun e w' => e = .returned (.tuple #[]) ∧ w' = w := by
  go_enter Tryd.func97, Tryd.ntmps97
  go_wp2
  refine wp_loop_rounds 1 ?_
  rw [rounds_succ]
  go_wp2
  go_end0
  exact ⟨rfl, rfl⟩
theorem sortStable_none (w : World) : Calls Tryd.prog 43 #[.slice none 0 0, .func (.func 44) #[] #[]] w fun e w' => e = .returned (.tuple #[]) ∧ w' = w := by
  have key : Calls Tryd.prog 74 #[.slice none 0 0, .int .i64 0, .func (.func 44) #[] #[]] w fun e w' => e = .returned (.tuple #[]) ∧ w' = w := by
    go_enter Tryd.func74, Tryd.ntmps74
    go_wp2
    refine wp_loop_rounds 1 ?_
    rw [rounds_succ]
    go_wp2_with (go_at_call 97; refine (ins_none _).mono ?_; rintro e w1 ⟨rfl, rfl⟩)
    refine wp_loop_rounds 1 ?_
    rw [rounds_succ]
    go_wp2
    go_end0
    exact ⟨rfl, rfl⟩
  go_enter Tryd.func43, Tryd.ntmps43
  go_wp2_with (go_at_call 74; refine key.mono ?_; rintro e w1 ⟨rfl, rfl⟩)
  go_end0
  exact ⟨rfl, rfl⟩
/-- attribute.Sort, at fewer than 20. -/
def attribute_Sort.f (l : List S33) : Option (List S33) := if l.length < 20 then some (sortA l) else none
set_option maxHeartbeats 2000000 in
set_option maxRecDepth 100000 in
theorem attribute_Sort.calls (A0 : Option Addr) (c0 : Nat) (l0 : List S33) (r : List S33) (w : World) (hr0 : Kd.C k33 w A0 l0.length l0) (hc0 : l0.length ≤ c0) (h : attribute_Sort.f l0 = some r) :
    Calls Tryd.prog 19 #[.slice A0 l0.length c0] w fun e w' => ∃ v0_ : Value, e = .returned v0_ ∧ Kd.R k33 33 w' w.heap.size (fun _ => True) v0_ r ∧ Below w.heap.size w w' := by
  unfold attribute_Sort.f at h
  split at h
  · rename_i hl
    obtain rfl := Option.some.inj h
    have HC := Lib.hid (clone_calls A0 c0 l0 w hr0 hc0 (by omega))
    clear hr0 h
    go_enter Tryd.func19, Tryd.ntmps19
    go_wp2_with (go_at_call 42; refine HC.out.mono ?_; rintro e w1 ⟨v, rfl, hR, hb⟩)
    obtain ⟨hok, inner, hown, hrep⟩ := hR
    have hin := cellsA_of l0 inner _ (fun x cs h => k33_openM h) hrep
    subst hin
    have hsl : (sortA l0).length = l0.length := sortedTo_len _ _
    rcases hown.2 with ⟨rfl, h0⟩ | ⟨g, cap, cur, rfl, hbg, hgc, hcap, hmax, hsz, htk⟩
    · have hl0 : l0 = [] := List.eq_nil_of_length_eq_zero h0
      subst hl0
      refine (sortStable_none w1).mono ?_
      rintro e w2 ⟨rfl, rfl⟩
      go_wp2
      go_ret
      exact ⟨_, rfl, Kd.R_nil _ _ _ _ _, hb⟩
    · have hcur : cur = (cellsA l0 ++ cur.toList.drop (l0.length * 3)).toArray := by
        apply Array.ext'
        rw [show cellsA l0 = cur.toList.take (l0.length * 3) from htk.symm]
        simp
      rw [hcur] at hgc
      have hT : (cellsA (sortA l0) ++ cur.toList.drop (l0.length * 3)).length = cap * 3 := by
        rw [List.length_append, cellsA_len, hsl, List.length_drop]
        have : cur.toList.length = cap * 3 := hsz
        omega
      refine (sortStable_calls g l0.length cap l0 _ w1 rfl hl hgc).mono ?_
      rintro e w2 ⟨rfl, hG, hu⟩
      have HG := Lib.hid hG
      have HT := Lib.hid hT
      have HSL := Lib.hid hsl
      clear hG hT hsl hcur hgc htk hsz hrep hown
      go_wp2
      go_ret
      refine ⟨_, rfl, ⟨fun _ _ => trivial, cellsA (sortA l0), ⟨?_, .inr ⟨g, cap, _, by rw [HSL.out]; rfl, hbg, HG.out, by rw [HSL.out]; exact hcap, hmax, ?_, ?_⟩⟩, reps_of _ (fun x => k33_mkM _ _ _ x) _⟩, hb.trans (hu.below hbg hb.size)⟩
      · show (cellsA (sortA l0)).length = _
        rw [cellsA_len]
        show _ = (sortA l0).length * 3
        omega
      · rw [List.size_toArray, HT.out]
        rfl
      · show List.take ((sortA l0).length * 3) _ = _
        rw [List.take_left' (by rw [cellsA_len]; omega)]
  · exact absurd h (by simp)
end Go.Proofs.YtolpefnedpgaaaaDoor.X

namespace Go.Proofs.YtolpefnedpgaaaaDoor.X
open Go.RowKit Go.Proofs.YtolpefnedpgaaaaDoorW.PrintWords Go.Proofs.YtolpefnedpgaaaaDoorW.PrintLast
set_option linter.unusedVariables false
set_option linter.unusedSimpArgs false
def hexD (n : Nat) : Int := if n < 10 then 48 + n else 87 + n
/-- Two signs for each byte. -/
def hexL (l : List Int) : List Int := l.flatMap fun x => [hexD (x / 16).toNat, hexD (x % 16).toNat]
theorem hexL_len (l : List Int) : (hexL l).length = 2 * l.length := by
  induction l with
  | nil => rfl
  | cons x l ih => simp only [hexL, List.flatMap_cons, List.length_append, List.length_cons] at ih ⊢; rw [ih]; simp; omega
theorem u8info : ∃ i, Tryd.prog.info? 5 = some i ∧ i.zero = some (.int .u8 0) ∧ i.size = 1 ∧ i.bytes = 1 := by
  obtain ⟨i, h, h2⟩ := Option.map_eq_some_iff.1 (show (Tryd.prog.info? 5).map (fun i => (i.zero, i.size, i.bytes)) = some (some (.int .u8 0), 1, 1) by kernel_rfl)
  simp only [Prod.mk.injEq] at h2
  exact ⟨i, h, h2.1, h2.2.1, h2.2.2⟩
theorem append_run_value {P : Program} {a : Act} {o : Oper} {w : World} (s x : Operand) (t : TypeId) (ho : o.op = .call { callee := .builtin .append, args := #[s, x], argTypes := #[t, t] }) (u v : Value) (hs : a.eval s = u) (hx : a.eval x = v) {v' : Value} {w' : World}
    (hr : (Builtin.append_ #[t, t] o.type #[u, v]).run P w = .ok v' w') : (execOp a.eval o).run P w = .ok (.value v') w' := by
  unfold execOp
  simp only [ho, resolve, invoke, builtin, Sem.run_bind, Sem.run_pure, Result.andThen_ok, List.map_toArray, List.map_cons, List.map_nil, hs, hx, hr]
theorem and15 (x : Int) (h0 : 0 ≤ x) (h1 : x < 256) : bits .and .u8 x 15 = x % 16 := by
  obtain ⟨m, rfl⟩ := Int.eq_ofNat_of_zero_le h0
  have : ∀ k : Fin 256, bits .and .u8 ((k.val : Nat) : Int) 15 = ((k.val : Nat) : Int) % 16 := by decide +kernel
  exact this ⟨m, by omega⟩
theorem tens_at (i : Int) (h0 : 0 ≤ i) (h1 : i < 16) (W : World) : (Instr.index 9 (.string ⟨#[48, 49, 50, 51, 52, 53, 54, 55, 56, 57, 97, 98, 99, 100, 101, 102]⟩) (.int .u8 i)).run Tryd.prog W = .ok (.int .u8 (hexD i.toNat)) W := by
  obtain ⟨m, rfl⟩ := Int.eq_ofNat_of_zero_le h0
  rcases (show m = 0 ∨ m = 1 ∨ m = 2 ∨ m = 3 ∨ m = 4 ∨ m = 5 ∨ m = 6 ∨ m = 7 ∨ m = 8 ∨ m = 9 ∨ m = 10 ∨ m = 11 ∨ m = 12 ∨ m = 13 ∨ m = 14 ∨ m = 15 by omega) with rfl | rfl | rfl | rfl | rfl | rfl | rfl | rfl | rfl | rfl | rfl | rfl | rfl | rfl | rfl | rfl <;> kernel_rfl
theorem hexL_snoc (l : List Int) (x : Int) : hexL (l ++ [x]) = hexL l ++ [hexD (x / 16).toNat, hexD (x % 16).toNat] := by simp [hexL]
set_option maxHeartbeats 2000000 in
set_option maxRecDepth 100000 in
theorem hex_calls (A0 : Option Addr) (c0 : Nat) (l : List Int) (w : World) (hr : Kd.C (Kd.int .u8) w A0 l.length l) (hc : l.length ≤ c0) (hl : l.length ≤ 100000) (h8 : ∀ x ∈ l, 0 ≤ x ∧ x < 256) :
    Calls Tryd.prog 50 #[.slice A0 l.length c0] w fun e w' => e = .returned (.string (strOfNums (hexL l))) ∧ Below w.heap.size w w' := by
  obtain ⟨i8, hi8, hz8, hs8, hb8⟩ := u8info
  go_enter Tryd.func50, Tryd.ntmps50
  go_wp2
  obtain ⟨w1, hmk, hown, hg⟩ := run_make_own (P := Tryd.prog) w w.heap.size 63 5 i8 (.int .u8 0) 1 Tryd.underlying63 hi8 hz8 hs8 .i64 .i64 (2 * l.length) (by rw [hb8]; omega) (by unfold maxLen; omega) (Nat.le_refl _)
  rw [show ((2 * l.length : Nat) : Int) = 2 * (l.length : Int) by omega] at hmk
  rw [hmk]
  simp only [Result.andThen]
  have hbel : Below w.heap.size w w1 := (Below.refl _ _).grown hg (Nat.le_refl _) (by simp)
  go_wp2
  go_loopw [3, 12] (fun o i wr => ∃ k, i = .int .i64 (k : Nat) ∧ k ≤ l.length ∧ o = .slice (some ⟨w.heap.size, 0, none⟩) (2 * k) (2 * l.length) ∧ wr.ownsRow w.heap.size 5 1 (.slice (some ⟨w.heap.size, 0, none⟩) (2 * k) (2 * l.length)) (2 * k) (nums .u8 (hexL (l.take k))) ∧ Below w.heap.size w wr)
    (fun _ i _ => (l.length - intOf i).toNat)
  case atStart => exact ⟨0, rfl, by omega, rfl, by simpa [hexL, nums] using hown, hbel⟩
  case round =>
    obtain ⟨k, rfl, hk, rfl, ho, hb⟩ := hrel
    by_cases hlt : k < l.length
    · have hd : decide ((k : Int) < l.length) = true := by simp; omega
      obtain ⟨ad, rfl, hcell⟩ := Kd.at_int (Kd.C_below hr hb) (k : Int) (by omega) (by omega)
      simp only [Int.toNat_natCast] at hcell
      have hx := h8 (l.getD k 0) (by rw [List.getD_eq_getElem?_getD, List.getElem?_eq_getElem hlt]; simp)
      have hrd : rd l (k : Int) = l.getD k 0 := rfl
      rw [hrd] at hcell
      have hsn : hexL (l.take (k + 1)) = hexL (l.take k) ++ [hexD (l.getD k 0 / 16).toNat, hexD (l.getD k 0 % 16).toNat] := by
        rw [List.take_add_one, List.getElem?_eq_getElem hlt]
        simp only [Option.toList_some]
        rw [hexL_snoc, List.getD_eq_getElem?_getD, List.getElem?_eq_getElem hlt]
        rfl
      generalize l.getD k 0 = x at *
      have hcd : wr.drew.cell? (ad.add k) = some (.int .u8 x) := hcell
      have hm := and15 x hx.1 hx.2
      have t1 := tens_at (x / 16) (by omega) (by omega)
      have t2 := tens_at (x % 16) (by omega) (by omega)
      generalize hexD (x / 16).toNat = p at *
      generalize hexD (x % 16).toNat = q at *
      have HS := Lib.hid hsn
      have hlk := hexL_len (l.take k)
      rw [List.length_take, Nat.min_eq_left (by omega)] at hlk
      have HLK := Lib.hid hlk
      clear hsn hlk
      go_wp2
      have ho2 := ho.drew
      have hb2 := hb.drew
      have hba : Below wr.drew.heap.size wr.drew (wr.drew.alloc (.cells #[.int .u8 p, .int .u8 q] 5 (0, 0))) := (Below.refl _ _).alloc (Nat.le_refl _) _
      have hnew := heap_alloc_new wr.drew (.cells #[.int .u8 p, .int .u8 q] 5 (0, 0))
      obtain ⟨w3, hrun, ho3, hg3⟩ := run_append_fits (P := Tryd.prog) (wr.drew.alloc (.cells #[.int .u8 p, .int .u8 q] 5 (0, 0))) w.heap.size 63 63 5 i8 1 Tryd.underlying63 hi8 hs8 w.heap.size (2 * k) (2 * l.length) (nums .u8 (hexL (l.take k))) (own_move ho2 (fun g hg => hba.block g (own_lt ho2 g hg))) ⟨wr.drew.heap.size, 0, none⟩ 2 2 [.int .u8 p, .int .u8 q] rfl
        (fun j u hu => by
          rw [show (Addr.add ⟨wr.drew.heap.size, 0, none⟩ j) = ⟨wr.drew.heap.size, j, none⟩ by unfold Addr.add; split <;> simp_all, blk_cell hnew, ← hu]
          simp) (fun u hu => by
          simp only [List.mem_cons, List.mem_nil_iff, or_false] at hu
          rcases hu with rfl | rfl <;> rfl) (by omega)
      have hb3 : Below w.heap.size w w3 := (hb2.alloc hb2.size _).grown hg3 (Nat.le_trans hb2.size hba.size) (by simp)
      have HR := Lib.hid hrun
      have HO3 := Lib.hid ho3
      clear hrun ho3 hg3 hnew hba ho2 ho hb hb2
      refine start_ (n := 10) (S := fun w' => True) (ds := []) #[false, false, false, false, false, false, false, false, false, false] (by kernel_rfl) rfl rfl trivial (fun hHeld => ?_)
      refine pure_ (i := 0) (N := some 16) (v := ?_) (a' := ?_) #[true, false, false, false, false, false, false, false, false, false] rfl rfl (by kernel_rfl) (fun _ _ _ h => h) (Or.inl ⟨by rfl, ?_⟩) ?_ ?_
      rotate_left
      · intro w'
        go_simp
        with_reducible rfl
      rotate_left
      · simp only [Act.put, List.setIfInBounds_toArray, List.set_cons_zero, List.set_cons_succ, i64_w, i32_w]
        rfl
      refine pure_ (i := 1) (N := some 17) (v := ?_) (a' := ?_) #[true, true, false, false, false, false, false, false, false, false] rfl rfl (by kernel_rfl) (fun _ _ _ h => h) (Or.inl ⟨by rfl, ?_⟩) ?_ ?_
      rotate_left
      · intro w'
        go_simp
        with_reducible rfl
      rotate_left
      · simp only [Act.put, List.setIfInBounds_toArray, List.set_cons_zero, List.set_cons_succ, i64_w, i32_w]
        rfl
      refine pure_ (i := 2) (N := some 18) (v := ?_) (a' := ?_) #[true, true, true, false, false, false, false, false, false, false] rfl rfl (by kernel_rfl) (fun _ _ _ h => h) (Or.inl ⟨by rfl, ?_⟩) ?_ ?_
      rotate_left
      · intro w'
        go_simp
        with_reducible rfl
      rotate_left
      · simp only [Act.put, List.setIfInBounds_toArray, List.set_cons_zero, List.set_cons_succ, i64_w, i32_w]
        rfl
      refine pure_ (i := 4) (N := some 20) (v := ?_) (a' := ?_) #[true, true, true, false, true, false, false, false, false, false] rfl rfl (by kernel_rfl) (fun _ _ _ h => h) (Or.inl ⟨by rfl, ?_⟩) ?_ ?_
      rotate_left
      · intro w'
        go_simp
        with_reducible rfl
      rotate_left
      · simp only [Act.put, List.setIfInBounds_toArray, List.set_cons_zero, List.set_cons_succ, i64_w, i32_w]
        rfl
      refine pure_ (i := 5) (N := some 21) (v := ?_) (a' := ?_) #[true, true, true, false, true, true, false, false, false, false] rfl rfl (by kernel_rfl) (fun _ _ _ h => h) (Or.inl ⟨by rfl, ?_⟩) ?_ ?_
      rotate_left
      · intro w'
        go_simp
        with_reducible rfl
      rotate_left
      · simp only [Act.put, List.setIfInBounds_toArray, List.set_cons_zero, List.set_cons_succ, i64_w, i32_w]
        rfl
      refine take_ (i := 3) (N := some 19) (v := ?_) (a' := ?_) #[true, true, true, true, true, true, false, false, false, false] rfl rfl (by kernel_rfl) (fun _ _ _ h => h) (Or.inl ⟨by rfl, ?_⟩) hHeld ?_ ?_
      rotate_left
      · intro w' _
        go_simp
        with_reducible rfl
      rotate_left
      · simp only [Act.put, List.setIfInBounds_toArray, List.set_cons_zero, List.set_cons_succ, i64_w, i32_w]
        rfl
      refine take_ (i := 6) (N := some 22) (v := ?_) (a' := ?_) #[true, true, true, true, true, true, true, false, false, false] rfl rfl (by kernel_rfl) (fun _ _ _ h => h) (Or.inl ⟨by rfl, ?_⟩) hHeld ?_ ?_
      rotate_left
      · intro w' _
        go_simp
        with_reducible rfl
      rotate_left
      · simp only [Act.put, List.setIfInBounds_toArray, List.set_cons_zero, List.set_cons_succ, i64_w, i32_w]
        rfl
      refine one_ (i := 7) (N := some 23) #[true, true, true, true, true, true, true, true, false, false] rfl rfl (by kernel_rfl) (by decide) (fun K hK => ?_)
      refine value_ (w1 := ?_) (v := ?_) (by rfl) rfl ?_ ?_
      rotate_left 2
      · go_simp
        constructor
        · rfl
        · rfl
      refine hK.out _ _ trivial (fun hHeld => ?_)
      clear hK K
      refine norm_ (a' := ?_) ?_ ?_
      rotate_left
      · show Act.put _ (some 23) _ = _
        simp only [Act.put, List.setIfInBounds_toArray, List.set_cons_zero, List.set_cons_succ, i64_w, i32_w]
        rfl
      refine one_ (i := 8) (N := some 24) #[true, true, true, true, true, true, true, true, true, false] rfl rfl (by kernel_rfl) (by decide) (fun K hK => ?_)
      refine value_ (w1 := w3) (v := .slice (some ⟨w.heap.size, 0, none⟩) (2 * k + 2) (2 * l.length)) (by rfl) rfl ?_ ?_
      · exact append_run_value _ _ _ rfl _ _ rfl rfl HR.out
      refine hK.out _ _ trivial (fun hHeld => ?_)
      clear hK K
      refine norm_ (a' := ?_) ?_ ?_
      rotate_left
      · show Act.put _ (some 24) _ = _
        simp only [Act.put, List.setIfInBounds_toArray, List.set_cons_zero, List.set_cons_succ, i64_w, i32_w]
        rfl
      refine pure_ (i := 9) (N := some 3) (v := ?_) (a' := ?_) #[true, true, true, true, true, true, true, true, true, true] rfl rfl (by kernel_rfl) (fun _ _ _ h => h) (Or.inl ⟨by rfl, ?_⟩) ?_ ?_
      rotate_left
      · intro w'
        go_simp
        with_reducible rfl
      rotate_left
      · simp only [Act.put, List.setIfInBounds_toArray, List.set_cons_zero, List.set_cons_succ, i64_w, i32_w]
        rfl
      refine done_ (by kernel_rfl) ?_
      go_wp2
      go_roundw
      case rel =>
        refine ⟨k + 1, rfl, by omega, by rw [show 2 * (k + 1) = 2 * k + 2 by omega], ?_, hb3⟩
        rw [HS.out, show 2 * (k + 1) = 2 * k + 2 by omega]
        have := HO3.out
        simpa [nums] using this
      case measure => simp [intOf]; omega
    · have hkl : k = l.length := by omega
      subst hkl
      rw [List.take_length] at ho
      clear hlt hk
      have hcv : (convert 63 9 (.slice (some ⟨w.heap.size, 0, none⟩) (2 * l.length) (2 * l.length))).run Tryd.prog wr = .ok (.string (strOfNums (hexL l))) wr := by
        refine string_of_reads Tryd.underlying63 Tryd.underlying5 Tryd.underlying9 ⟨hexL_len l, by omega, fun _ => ⟨_, rfl, fun j hj => ?_⟩⟩
        have hlj : j < (hexL l).length := by rw [hexL_len]; omega
        refine ho.cells (g := w.heap.size) rfl j _ ?_
        simp only [nums, List.getElem?_map, List.getD_eq_getElem?_getD]
        rw [List.getElem?_eq_getElem hlj]
        rfl
      clear ho
      go_wp2
      go_ret
      exact ⟨rfl, hb⟩
end Go.Proofs.YtolpefnedpgaaaaDoor.X

namespace Go.Proofs.YtolpefnedpgaaaaDoor.X
open Go.RowKit Go.Proofs.YtolpefnedpgaaaaDoorW.PrintWords Go.Proofs.YtolpefnedpgaaaaDoorW.PrintLast Go.Proofs.YtolpefnedpgaaaaDoorW.PrintMore
set_option linter.unusedVariables false
set_option linter.unusedSimpArgs false
def Fp.text (s : Fp) (b : ByteArray) : Fp := (s.bytes (numL b.size)).bytes (bytesOf b)
def small33 (x : S33) : Prop := x.f0.size ≤ 4096 ∧ x.f1.size ≤ 4096 ∧ x.f2.size ≤ 4096
instance (x : S33) : Decidable (small33 x) := by unfold small33; infer_instance
def sumStep (k : Nat) (s : Fp) (x : S33) : Option Fp :=
  if small33 x then (attribute_Type.f k x.f1).bind fun p => some ((((s.text x.f0).text x.f1).bytes [if p.1 = 3 then 2 else 1]).text x.f2) else none
def sumAll (k : Nat) (s : Fp) : List S33 → Option Fp
  | [] => some s
  | x :: l => (sumStep k s x).bind fun s => sumAll k s l
def attribute_Sum.f (k : Nat) (l : List S33) : Option ByteArray :=
  if l.length = 0 then some ⟨#[]⟩ else if l.length < 20 then (sumAll k fp0 (sortA l)).bind fun s => some (strOfNums (hexL s.sum)) else none
theorem Fp.text_ok {s : Fp} (h : s.Ok) (b : ByteArray) : (s.text b).Ok := Fp.bytes_ok (Fp.bytes_ok h _) _
theorem Fp.text_n (s : Fp) (b : ByteArray) : (s.text b).n = s.n + 4 + b.size := by unfold Fp.text; rw [Fp.bytes_n, Fp.bytes_n, bytesOf_length]; rfl
theorem R_upd {e b B : Nat} {w w' : World} {ok : Nat → Prop} {v : Value} {xs : List S33} (h : Kd.R k33 e w b ok v xs) (hu : Upd B w w') (hB : B < b) : Kd.R k33 e w' b ok v xs :=
  Kd.R_mono (Kd.R_move (Kd.R_bound h) (fun k hk => hu.block k hk.2.2.1 (by have := hk.2.1; omega))) (fun _ hk => hk.1)
/-- What holds in a round. -/
structure SumW (w : World) (wr : World) (st : Fp) (v : Value) (xs : List S33) : Prop where
  ok : st.Ok
  P : wr.heap[w.heap.size]? = some (.cells st.cells 97 (0, 0))
  R : Kd.R k33 33 wr (w.heap.size + 1) (fun _ => True) v xs
  T : FpTables wr
  B : Below w.heap.size w wr
theorem SumW.upd {w wr wr' : World} {st st' : Fp} {v : Value} {xs : List S33} (h : SumW w wr st v xs) (hu : Upd w.heap.size wr wr') (hok : st'.Ok) (hP : wr'.heap[w.heap.size]? = some (.cells st'.cells 97 (0, 0))) (h1 : 1 < w.heap.size) (h2 : 2 < w.heap.size) : SumW w wr' st' v xs :=
  ⟨hok, hP, R_upd h.R hu (by omega), h.T.upd hu (by omega) (by omega), h.B.trans (hu.below (Nat.le_refl _) h.B.size)⟩
theorem SumW.below {w wr wr' : World} {st : Fp} {v : Value} {xs : List S33} (h : SumW w wr st v xs) (hb : Below wr.heap.size wr wr') (h1 : 1 < w.heap.size) (h2 : 2 < w.heap.size) : SumW w wr' st v xs :=
  h.upd (Upd.of_below hb) h.ok ((hb.block _ (Array.getElem?_eq_some_iff.mp h.P).1).trans h.P) h1 h2
theorem SumW.text {w wr : World} {st : Fp} {v : Value} {xs : List S33} (h : SumW w wr st v xs) (b : ByteArray) (hb : b.size ≤ 4096) (hn : st.n ≤ 900000) (h1 : 1 < w.heap.size) (h2 : 2 < w.heap.size) :
    Calls Tryd.prog 47 #[.pointer (some ⟨w.heap.size, 0, none⟩), .string b] wr fun e w' => e = .returned (.int .i64 0) ∧ SumW w w' (st.text b) v xs ∧ Upd w.heap.size wr w' := by
  refine (text_calls w.heap.size st b wr h.ok (by omega) (by omega) h.T (by omega) (by omega) h.P).mono ?_
  rintro e w' ⟨rfl, hP, hu⟩
  exact ⟨rfl, h.upd hu (Fp.text_ok h.ok b) hP h1 h2, hu⟩
theorem SumW.mark {w wr : World} {st : Fp} {v : Value} {xs : List S33} (h : SumW w wr st v xs) (m : Int) (hn : st.n ≤ 900000) (h1 : 1 < w.heap.size) (h2 : 2 < w.heap.size) :
    Calls Tryd.prog 48 #[.pointer (some ⟨w.heap.size, 0, none⟩), .slice (some ⟨wr.heap.size, 0, none⟩) 1 1] (wr.alloc (.cells #[.int .u8 m] 5 (0, 0))) fun e w' => e = .returned (.int .i64 0) ∧ SumW w w' (st.bytes [m]) v xs ∧ Upd w.heap.size wr w' := by
  have hlt : w.heap.size < wr.heap.size := (Array.getElem?_eq_some_iff.mp h.P).1
  have hb : Below wr.heap.size wr (wr.alloc (.cells (nums .u8 [m]).toArray 5 (0, 0))) := (Below.refl _ _).alloc (Nat.le_refl _) _
  have hu := Upd.of_below (B := w.heap.size) hb
  refine (write_calls w.heap.size st (some ⟨wr.heap.size, 0, none⟩) [m] 1 _ h.ok (by simp; omega) (h.T.upd hu (by omega) (by omega)) (by omega) (by omega) ((hb.block _ hlt).trans h.P) (bytesAt_new w.heap.size wr [m] 5 hlt)).mono ?_
  rintro e w' ⟨rfl, hC, hu'⟩
  have hh := hu.trans hu'
  exact ⟨rfl, h.upd hh (Fp.bytes_ok h.ok _) hC h1 h2, hh⟩
set_option maxHeartbeats 4000000 in
set_option maxRecDepth 100000 in
theorem attribute_Sum.calls (k : Nat) (A0 : Option Addr) (c0 : Nat) (l0 : List S33) (r : ByteArray) (w : World) (hGFp : GlobFp w) (hr0 : Kd.C k33 w A0 l0.length l0) (hc0 : l0.length ≤ c0) (h : attribute_Sum.f k l0 = some r) :
    Calls Tryd.prog 21 #[.slice A0 l0.length c0] w fun e w' => e = .returned (.string r) ∧ Below w.heap.size w w' := by
  unfold attribute_Sum.f at h
  have h1 : 1 < w.heap.size := (Array.getElem?_eq_some_iff.mp hGFp.1).1
  have h2 : 2 < w.heap.size := (Array.getElem?_eq_some_iff.mp hGFp.2).1
  split at h
  · rename_i hz
    obtain rfl := Option.some.inj h
    have hq : ((l0.length : Int) == 0) = true := by rw [hz]; rfl
    go_enter Tryd.func21, Tryd.ntmps21
    go_wp2
    go_ret
    exact ⟨rfl, Below.refl _ _⟩
  · rename_i hz
    have hq : ((l0.length : Int) == 0) = false := by rw [beq_eq_false_iff_ne]; omega
    split at h
    · rename_i hl
      obtain ⟨fin, hfin, hrr⟩ := Option.bind_eq_some_iff.1 h
      obtain rfl := Option.some.inj hrr
      have HF := Lib.hid hfin
      clear h hfin
      have hb0 : Below w.heap.size w (w.alloc (.cells fp0.cells 97 (0, 0))) := (Below.refl _ _).alloc (Nat.le_refl _) _
      have HS := Lib.hid (attribute_Sort.calls A0 c0 l0 (sortA l0) (w.alloc (.cells fp0.cells 97 (0, 0))) (Kd.C_below hr0 hb0) hc0 (by unfold attribute_Sort.f; rw [if_pos hl]))
      have hP0 := heap_alloc_new w (.cells fp0.cells 97 (0, 0))
      have hz0 : (w.alloc (.cells fp0.cells 97 (0, 0))).heap.size = w.heap.size + 1 := World.size_alloc _ _
      have HP0 := Lib.hid hP0
      have HZ0 := Lib.hid hz0
      clear hP0 hz0 hr0
      go_enter Tryd.func21, Tryd.ntmps21
      go_wp2_with (first | (go_at_call 46; refine (new_calls _).mono ?_; rintro e w1 ⟨rfl, rfl⟩) | (go_at_call 19; refine HS.out.mono ?_; rintro e w2 ⟨v, rfl, hR, hb⟩; obtain ⟨A1, c1, hv, _, _⟩ := Kd.R_reads hR; subst hv))
      have hsl : (sortA l0).length = l0.length := sortedTo_len _ _
      have hI : SumW w w2 fp0 (.slice A1 (sortA l0).length c1) (sortA l0) :=
        ⟨fp0_ok, (hb.block _ (by rw [HZ0.out]; omega)).trans HP0.out, by have := hR; rw [HZ0.out] at this; exact this, (hGFp.below hb0).below hb, hb0.trans (hb.mono (by rw [HZ0.out]; omega))⟩
      clear HS HP0 HZ0 hb0 hb hR
      obtain ⟨xs, hxs⟩ : ∃ xs, sortA l0 = xs := ⟨_, rfl⟩
      rw [hxs] at hI hsl HF
      simp only [hxs]
      have hx20 : xs.length < 20 := by omega
      have HXS := Lib.hid hxs
      have HSL := Lib.hid hsl
      clear hxs hsl hz hl hq
      go_loopw [17] (fun i wr => ∃ (j : Nat) (st : Fp), i = .int .i64 (j : Nat) ∧ j ≤ xs.length ∧ SumW w wr st (.slice A1 xs.length c1) xs ∧ st.n ≤ 20000 * j ∧ sumAll k st (xs.drop j) = some fin)
        (fun i _ => (xs.length - intOf i).toNat)
      case atStart => exact ⟨0, fp0, rfl, by omega, hI, by simp [fp0], HF.out⟩
      case round =>
        obtain ⟨j, st, rfl, hj, hI, hn, hall⟩ := hrel
        by_cases hlt : j < xs.length
        · have hd : decide ((j : Int) < xs.length) = true := by simp; omega
          obtain ⟨x, hx⟩ : ∃ x, rd_T33 xs (j : Int) = x := ⟨_, rfl⟩
          have hdrop : xs.drop j = x :: xs.drop (j + 1) := by
            rw [List.drop_eq_getElem_cons hlt, ← hx]
            congr 1
            simp [rd_T33, List.getD_eq_getElem?_getD, List.getElem?_eq_getElem hlt]
          rw [hdrop, sumAll] at hall
          obtain ⟨st', hst, hrest⟩ := Option.bind_eq_some_iff.1 hall
          unfold sumStep at hst
          split at hst
          · rename_i hsm
            obtain ⟨p, hty, hst'⟩ := Option.bind_eq_some_iff.1 hst
            obtain rfl := Option.some.inj hst'
            obtain ⟨p1, p2⟩ := p
            obtain ⟨A2, c2, hv, _, hC⟩ := Kd.R_reads hI.R
            injection hv with hv1 hv2 hv3
            subst hv1 hv3
            obtain ⟨ad, rfl, q0, q1, q2⟩ := at_T33 hC (j : Int) (by omega) (by omega)
            rw [hx] at q0 q1 q2
            simp only [Int.toNat_natCast] at q0 q1 q2
            have HTY := Lib.hid hty
            have HRE := Lib.hid hrest
            have HXX := Lib.hid hx
            have HSM := Lib.hid hsm
            clear hty hrest hst hall hdrop hx hC hsm
            obtain ⟨N, hNe⟩ : ∃ N, wr.heap.size = N := ⟨_, rfl⟩
            have hIa := hI.below (wr' := wr.alloc (.cells #[.string x.f0, .string x.f1, .string x.f2] 33 (0, 0))) ((Below.refl _ _).alloc (Nat.le_refl _) _) h1 h2
            have hNa := heap_alloc_new wr (.cells #[.string x.f0, .string x.f1, .string x.f2] 33 (0, 0))
            have hza : (wr.alloc (.cells #[.string x.f0, .string x.f1, .string x.f2] 33 (0, 0))).heap.size = wr.heap.size + 1 := World.size_alloc _ _
            have hne : N ≠ w.heap.size := by
              have := (Array.getElem?_eq_some_iff.mp hI.P).1
              omega
            have hsmm := HSM.out
            obtain ⟨s0, s1, s2⟩ := hsmm
            go_wp2_with fail
            refine (attribute_Type.calls k x.f1 p1 p2 _ HTY.out).mono ?_
            rintro e w3 ⟨rfl, hb3⟩
            have hI3 := hIa.below hb3 h1 h2
            have hN3 : w3.heap[N]? = some (.cells #[.string x.f0, .string x.f1, .string x.f2] 33 (0, 0)) := by rw [← hNe]; exact (hb3.block _ (by omega)).trans hNa
            have hlt3 : N < w3.heap.size := (Array.getElem?_eq_some_iff.mp hN3).1
            have b0 : w3.cell? ⟨N, 0, none⟩ = some (.string x.f0) := by rw [blk_cell hN3]; rfl
            have HNE := Lib.hid hNe
            clear hNe hza hNa hIa q0 q1 q2 hb3 hI
            by_cases hp : p1 = 3
            · have hp' : (p1 == 3) = true := by rw [hp]; rfl
              go_wp2_with fail
              refine (hI3.text x.f0 HSM.out.1 (by omega) h1 h2).mono ?_
              rintro e w4 ⟨rfl, hI4, hu4⟩
              have hN4 := (hu4.block N hlt3 hne).trans hN3
              have hlt4 : N < w4.heap.size := Nat.lt_of_lt_of_le hlt3 hu4.size
              have b1 : w4.cell? ⟨N, 1, none⟩ = some (.string x.f1) := by rw [blk_cell hN4]; rfl
              have hn4 := Fp.text_n st x.f0
              go_wp2_with fail
              refine (hI4.text x.f1 HSM.out.2.1 (by omega) h1 h2).mono ?_
              rintro e w5 ⟨rfl, hI5, hu5⟩
              have hN5 := (hu5.block N hlt4 hne).trans hN4
              have hlt5 : N < w5.heap.size := Nat.lt_of_lt_of_le hlt4 hu5.size
              have hn5 := Fp.text_n (st.text x.f0) x.f1
              go_wp2_with fail
              refine (hI5.mark 2 (by omega) h1 h2).mono ?_
              rintro e w6 ⟨rfl, hI6, hu6⟩
              have hN6 := (hu6.block N hlt5 hne).trans hN5
              have b2 : w6.cell? ⟨N, 2, none⟩ = some (.string x.f2) := by rw [blk_cell hN6]; rfl
              have hn6 := Fp.bytes_n ((st.text x.f0).text x.f1) [2]
              simp only [List.length_singleton] at hn6
              go_wp2_with fail
              refine (hI6.text x.f2 HSM.out.2.2 (by omega) h1 h2).mono ?_
              rintro e w7 ⟨rfl, hI7, hu7⟩
              have hn7 := Fp.text_n (((st.text x.f0).text x.f1).bytes [2]) x.f2
              have h7 : ((((st.text x.f0).text x.f1).bytes [2]).text x.f2).n ≤ 20000 * (j + 1) := by omega
              have hre := HRE.out
              simp only [hp, if_true, if_false] at hre
              have H7 := Lib.hid h7
              have HRR := Lib.hid hre
              clear hn4 hn5 hn6 hn7 h7 hre
              go_wp2
              go_roundw
              case rel => exact ⟨j + 1, _, rfl, by omega, hI7, H7.out, HRR.out⟩
              case measure => simp [intOf]; omega
            · have hp' : (p1 == 3) = false := by rw [beq_eq_false_iff_ne]; exact hp
              go_wp2_with fail
              refine (hI3.text x.f0 HSM.out.1 (by omega) h1 h2).mono ?_
              rintro e w4 ⟨rfl, hI4, hu4⟩
              have hN4 := (hu4.block N hlt3 hne).trans hN3
              have hlt4 : N < w4.heap.size := Nat.lt_of_lt_of_le hlt3 hu4.size
              have b1 : w4.cell? ⟨N, 1, none⟩ = some (.string x.f1) := by rw [blk_cell hN4]; rfl
              have hn4 := Fp.text_n st x.f0
              go_wp2_with fail
              refine (hI4.text x.f1 HSM.out.2.1 (by omega) h1 h2).mono ?_
              rintro e w5 ⟨rfl, hI5, hu5⟩
              have hN5 := (hu5.block N hlt4 hne).trans hN4
              have hlt5 : N < w5.heap.size := Nat.lt_of_lt_of_le hlt4 hu5.size
              have hn5 := Fp.text_n (st.text x.f0) x.f1
              go_wp2_with fail
              refine (hI5.mark 1 (by omega) h1 h2).mono ?_
              rintro e w6 ⟨rfl, hI6, hu6⟩
              have hN6 := (hu6.block N hlt5 hne).trans hN5
              have b2 : w6.cell? ⟨N, 2, none⟩ = some (.string x.f2) := by rw [blk_cell hN6]; rfl
              have hn6 := Fp.bytes_n ((st.text x.f0).text x.f1) [1]
              simp only [List.length_singleton] at hn6
              go_wp2_with fail
              refine (hI6.text x.f2 HSM.out.2.2 (by omega) h1 h2).mono ?_
              rintro e w7 ⟨rfl, hI7, hu7⟩
              have hn7 := Fp.text_n (((st.text x.f0).text x.f1).bytes [1]) x.f2
              have h7 : ((((st.text x.f0).text x.f1).bytes [1]).text x.f2).n ≤ 20000 * (j + 1) := by omega
              have hre := HRE.out
              simp only [hp, if_true, if_false] at hre
              have H7 := Lib.hid h7
              have HRR := Lib.hid hre
              clear hn4 hn5 hn6 hn7 h7 hre
              go_wp2
              go_roundw
              case rel => exact ⟨j + 1, _, rfl, by omega, hI7, H7.out, HRR.out⟩
              case measure => simp [intOf]; omega
          · exact absurd hst (by simp)
        · have hjx : j = xs.length := by omega
          rw [hjx, List.drop_length, sumAll] at hall
          obtain rfl := Option.some.inj hall
          have hS := sum_calls w.heap.size st wr hI.ok (by omega) hI.T (Nat.lt_of_lt_of_le h1 hI.B.size) (Nat.lt_of_lt_of_le h2 hI.B.size) hI.P
          have hl16 : st.sum.length = 16 := by
            obtain ⟨a, b, c, d, e⟩ := four_of (show st.fin.ws.length = 4 from (Fp.bytes_ok (Fp.bytes_ok (Fp.byte_ok hI.ok _) _) _).1)
            unfold Fp.sum
            rw [e]
            rfl
          have hb8 : ∀ x ∈ st.sum, 0 ≤ x ∧ x < 256 := by
            intro x hx
            simp only [Fp.sum, outL, List.mem_flatMap, List.mem_cons, List.mem_nil_iff, or_false] at hx
            obtain ⟨y, _, rfl | rfl | rfl | rfl⟩ := hx <;> omega
          have HS := Lib.hid hS
          have hbI := hI.B
          clear hS hI hall HF
          go_upto_region 16 with (fail)
          refine wp_region_lit ?_
          refine wpList_step (fun K hK => ?_)
          go_simp
          refine hK _ _ ?_
          clear hK K
          refine goesL_ (some 47) rfl rfl Tryd.func49 (by kernel_rfl) rfl #[.pointer (some ⟨w.heap.size, 0, none⟩)] rfl (by simp only [List.map_toArray, List.map_cons, List.map_nil]; rfl) ?_
          refine HS.out.mono ?_
          rintro e w3 ⟨rfl, hb3⟩
          refine ⟨_, rfl, ?_⟩
          obtain ⟨N, hNe⟩ : ∃ N, w3.heap.size = N := ⟨_, rfl⟩
          have hZ := heap_alloc_new w3 (.cells (nums .u8 (List.replicate 16 0)).toArray 64 (0, 0))
          rw [hNe] at hZ
          have hbz : Below w3.heap.size w3 (w3.alloc (.cells (nums .u8 (List.replicate 16 0)).toArray 64 (0, 0))) := (Below.refl _ _).alloc (Nat.le_refl _) _
          obtain ⟨ie, hie, hsz⟩ := arrInfo
          have hn16 : (nums .u8 st.sum).length = 16 := by simp [nums, hl16]
          have hst := Lib.rl_storeVar_cells (P := Tryd.prog) 64 ie hie N 0 (nums .u8 st.sum) (by rw [hn16, hsz]) (fun v hv => by
                simp only [nums, List.mem_map] at hv
                obtain ⟨_, _, rfl⟩ := hv
                rfl) (w3.alloc (.cells (nums .u8 (List.replicate 16 0)).toArray 64 (0, 0))) (fun k hk => by rw [Nat.zero_add, blk_cell hZ]; simp [nums]; omega) (fun k hk => blk_frozen hZ _)
          have hfin := blk_setCells N 64 (nums .u8 st.sum) 0 _ (nums .u8 (List.replicate 16 0)) (by rw [hn16]; rfl) hZ
          rw [List.take_zero, List.nil_append] at hfin
          have hu4 : Upd N w3 ((w3.alloc (.cells (nums .u8 (List.replicate 16 0)).toArray 64 (0, 0))).setCells N 0 (nums .u8 st.sum)) := upd_setCells _ _ _ (Upd.of_below hbz)
          have hNw : w.heap.size ≤ N := by rw [← hNe]; exact Nat.le_trans hbI.size hb3.size
          have hbf : Below w.heap.size w ((w3.alloc (.cells (nums .u8 (List.replicate 16 0)).toArray 64 (0, 0))).setCells N 0 (nums .u8 st.sum)) := (hbI.trans (hb3.mono hbI.size)).trans (hu4.below hNw (by rw [hNe]; exact hNw))
          have HFI := Lib.hid hfin
          have HBF := Lib.hid hbf
          clear hfin hbf hu4 hbz hZ
          refine wpList_step (fun K hK => ?_)
          go_simp
          refine hK _ _ ?_
          clear hK K
          refine wpList_store_at rfl _ _ _ rfl _ rfl _ rfl hst ?_
          refine wpList_nil ?_
          simp only [Act.put]
          generalize (w3.alloc (.cells (nums .u8 (List.replicate 16 0)).toArray 64 (0, 0))).setCells N 0 (nums .u8 st.sum) = w5 at *
          clear hst
          have hH := hex_calls (some ⟨N, 0, none⟩) 16 st.sum w5 ⟨rfl, by omega, fun _ => ⟨_, rfl, fun j p hp => ⟨[.int .u8 p], rfl, rfl, fun i u hu => by
            rcases i with _ | i
            · simp at hu
              subst hu
              have hjl : j < st.sum.length := (List.getElem?_eq_some_iff.mp hp).1
              have := out_cell HFI.out hl16 j (by omega)
              rw [List.getD_eq_getElem?_getD, hp] at this
              have e : (Addr.add ⟨N, 0, none⟩ (j * 1 + 0)) = ⟨N, j, none⟩ := by unfold Addr.add; split <;> simp_all
              show w5.cell? (Addr.add ⟨N, 0, none⟩ (j * 1 + 0)) = _
              rw [e]
              exact this
            · simp at hu⟩⟩⟩ (by omega) (by omega) hb8
          rw [hl16] at hH
          have HH := Lib.hid hH
          clear hH hb8
          have hlt5 : w.heap.size ≤ w5.heap.size := HBF.out.size
          go_wp2_with fail
          refine HH.out.mono ?_
          rintro e w6 ⟨rfl, hb6⟩
          go_wp2
          go_ret
          exact ⟨rfl, HBF.out.trans (hb6.mono hlt5)⟩
    · exact absurd h (by simp)
end Go.Proofs.YtolpefnedpgaaaaDoor.X

namespace Go.Proofs.YtolpefnedpgaaaaDoor.X
open Go.RowKit Go.Proofs.YtolpefnedpgaaaaDoorW.PrintWords Go.Proofs.YtolpefnedpgaaaaDoorW.PrintLast Go.Proofs.YtolpefnedpgaaaaDoorW.PrintMore
attribute [local go_sem] max2_int min2_int max_two min_two max_three min_three max_four min_four   -- for this text's walks alone
set_option linter.unusedVariables false
set_option linter.unusedSimpArgs false

def racewaylaw24_works.f (k : Nat)  : Option (Bool) := (attribute_Type.f k (⟨#[78, 117, 109, 98, 101, 114, 46, 105, 110, 116]⟩ : ByteArray)).bind fun bt147 => ((attribute_Name.f k (⟨#[97, 46, 98]⟩ : ByteArray)).bind fun t149 => (if t149 = true then ((attribute_Name.f k (⟨#[97, 46, 46, 98]⟩ : ByteArray)).bind fun t150 => (if t150 = true then (some false) else ((attribute_Name.f k (⟨#[65, 87, 83, 46, 120]⟩ : ByteArray)).bind fun t151 => (if t151 = true then (some false) else (if bt147.1 = 2 then (if bt147.2 = true then ((attribute_Number.f k (⟨#[45, 49, 46, 53, 101, 51]⟩ : ByteArray)).bind fun t152 => (if t152 = true then ((attribute_Sum.f k (([(⟨(⟨#[97]⟩ : ByteArray), (⟨#[83, 116, 114, 105, 110, 103]⟩ : ByteArray), (⟨#[120]⟩ : ByteArray)⟩ : S33)] : List (S33)))).bind fun t156 => (some ((t156.size : Int) == 32))) else (some false))) else (some false)) else (some false)))))) else (some false)))
set_option maxHeartbeats 8000000 in
set_option maxRecDepth 100000 in
theorem racewaylaw24_works.calls (k : Nat)  (r : Bool) (w : World) (hGFp : GlobFp w) (hGMax : GlobMax w) (h : racewaylaw24_works.f k  = some r) :
    Calls Tryd.prog 16 #[] w fun e w' => e = .returned (.bool r) ∧ Below w.heap.size w w' := by
  have hu33 := Tryd.underlying33
  have HGFp := Aside0.mk hGFp
  clear hGFp
  have HGMax := Aside0.mk hGMax
  clear hGMax
  have HB := Aside0.mk (Below.refl w.heap.size w)
  have H : ((attribute_Type.f k (⟨#[78, 117, 109, 98, 101, 114, 46, 105, 110, 116]⟩ : ByteArray)).bind fun bt147 => ((attribute_Name.f k (⟨#[97, 46, 98]⟩ : ByteArray)).bind fun t149 => (if t149 = true then ((attribute_Name.f k (⟨#[97, 46, 46, 98]⟩ : ByteArray)).bind fun t150 => (if t150 = true then (some false) else ((attribute_Name.f k (⟨#[65, 87, 83, 46, 120]⟩ : ByteArray)).bind fun t151 => (if t151 = true then (some false) else (if bt147.1 = 2 then (if bt147.2 = true then ((attribute_Number.f k (⟨#[45, 49, 46, 53, 101, 51]⟩ : ByteArray)).bind fun t152 => (if t152 = true then ((attribute_Sum.f k (([(⟨(⟨#[97]⟩ : ByteArray), (⟨#[83, 116, 114, 105, 110, 103]⟩ : ByteArray), (⟨#[120]⟩ : ByteArray)⟩ : S33)] : List (S33)))).bind fun t156 => (some ((t156.size : Int) == 32))) else (some false))) else (some false)) else (some false)))))) else (some false)))) = some r := h
  clear h
  replace H := Option.bind_eq_some_iff.mp H
  obtain ⟨⟨t147, t148⟩, A10, H⟩ := H
  replace H : ((attribute_Name.f k (⟨#[97, 46, 98]⟩ : ByteArray)).bind fun t149 => (if t149 = true then ((attribute_Name.f k (⟨#[97, 46, 46, 98]⟩ : ByteArray)).bind fun t150 => (if t150 = true then (some false) else ((attribute_Name.f k (⟨#[65, 87, 83, 46, 120]⟩ : ByteArray)).bind fun t151 => (if t151 = true then (some false) else (if t147 = 2 then (if t148 = true then ((attribute_Number.f k (⟨#[45, 49, 46, 53, 101, 51]⟩ : ByteArray)).bind fun t152 => (if t152 = true then ((attribute_Sum.f k (([(⟨(⟨#[97]⟩ : ByteArray), (⟨#[83, 116, 114, 105, 110, 103]⟩ : ByteArray), (⟨#[120]⟩ : ByteArray)⟩ : S33)] : List (S33)))).bind fun t156 => (some ((t156.size : Int) == 32))) else (some false))) else (some false)) else (some false)))))) else (some false))) = some r := H
  have A1 := Aside0.mk A10
  clear A10
  replace H := Option.bind_eq_some_iff.mp H
  obtain ⟨t149, A20, H⟩ := H
  replace H : (if t149 = true then ((attribute_Name.f k (⟨#[97, 46, 46, 98]⟩ : ByteArray)).bind fun t150 => (if t150 = true then (some false) else ((attribute_Name.f k (⟨#[65, 87, 83, 46, 120]⟩ : ByteArray)).bind fun t151 => (if t151 = true then (some false) else (if t147 = 2 then (if t148 = true then ((attribute_Number.f k (⟨#[45, 49, 46, 53, 101, 51]⟩ : ByteArray)).bind fun t152 => (if t152 = true then ((attribute_Sum.f k (([(⟨(⟨#[97]⟩ : ByteArray), (⟨#[83, 116, 114, 105, 110, 103]⟩ : ByteArray), (⟨#[120]⟩ : ByteArray)⟩ : S33)] : List (S33)))).bind fun t156 => (some ((t156.size : Int) == 32))) else (some false))) else (some false)) else (some false)))))) else (some false)) = some r := H
  have A2 := Aside0.mk A20
  clear A20
  by_cases c3 : t149 = true
  · subst c3
    have H1 : ((attribute_Name.f k (⟨#[97, 46, 46, 98]⟩ : ByteArray)).bind fun t150 => (if t150 = true then (some false) else ((attribute_Name.f k (⟨#[65, 87, 83, 46, 120]⟩ : ByteArray)).bind fun t151 => (if t151 = true then (some false) else (if t147 = 2 then (if t148 = true then ((attribute_Number.f k (⟨#[45, 49, 46, 53, 101, 51]⟩ : ByteArray)).bind fun t152 => (if t152 = true then ((attribute_Sum.f k (([(⟨(⟨#[97]⟩ : ByteArray), (⟨#[83, 116, 114, 105, 110, 103]⟩ : ByteArray), (⟨#[120]⟩ : ByteArray)⟩ : S33)] : List (S33)))).bind fun t156 => (some ((t156.size : Int) == 32))) else (some false))) else (some false)) else (some false)))))) = some r := by rw [if_pos rfl] at H; exact H
    clear H
    have H := H1
    clear H1
    replace H := Option.bind_eq_some_iff.mp H
    obtain ⟨t150, A40, H⟩ := H
    replace H : (if t150 = true then (some false) else ((attribute_Name.f k (⟨#[65, 87, 83, 46, 120]⟩ : ByteArray)).bind fun t151 => (if t151 = true then (some false) else (if t147 = 2 then (if t148 = true then ((attribute_Number.f k (⟨#[45, 49, 46, 53, 101, 51]⟩ : ByteArray)).bind fun t152 => (if t152 = true then ((attribute_Sum.f k (([(⟨(⟨#[97]⟩ : ByteArray), (⟨#[83, 116, 114, 105, 110, 103]⟩ : ByteArray), (⟨#[120]⟩ : ByteArray)⟩ : S33)] : List (S33)))).bind fun t156 => (some ((t156.size : Int) == 32))) else (some false))) else (some false)) else (some false))))) = some r := H
    have A4 := Aside0.mk A40
    clear A40
    by_cases c5 : t150 = true
    · subst c5
      have H1 : (some false) = some r := by rw [if_pos rfl] at H; exact H
      clear H
      have H := H1
      clear H1
      obtain rfl := Option.some.inj H
      go_enter Tryd.func16, Tryd.ntmps16
      go_wp2_with (first | ((with_reducible refine gate_callee (f := 10) rfl ?_); refine goesL_ (some 4) rfl rfl Tryd.func10 (by kernel_rfl) rfl #[.string (⟨#[78, 117, 109, 98, 101, 114, 46, 105, 110, 116]⟩ : ByteArray)] rfl (by (try simp only [List.map_toArray, List.map_cons, List.map_nil]); first | done | rfl | (simp only [List.length_drop, List.length_take]; rfl)) ?_; (with_reducible refine (attribute_Type.calls k (⟨#[78, 117, 109, 98, 101, 114, 46, 105, 110, 116]⟩ : ByteArray) t147 t148 _ A1.out).mono ?_); rintro e w6 ⟨rfl, hb⟩; refine ⟨_, rfl, ?_⟩; have n0_ := Aside0.mk (below_step (by repeat (first | (with_reducible first | exact HB.out | apply below_alloc | apply pw_below_drewN | apply below_drew1) | exact HB.out)) hb); clear HB; have HB := n0_; clear n0_; (try clear hb); (try clear hb2); (try clear hk); (try clear hi)) | ((with_reducible refine gate_callee (f := 12) rfl ?_); refine goesL_ (some 7) rfl rfl Tryd.func12 (by kernel_rfl) rfl #[.string (⟨#[97, 46, 98]⟩ : ByteArray)] rfl (by (try simp only [List.map_toArray, List.map_cons, List.map_nil]); first | done | rfl | (simp only [List.length_drop, List.length_take]; rfl)) ?_; (with_reducible refine (attribute_Name.calls k (⟨#[97, 46, 98]⟩ : ByteArray) true _ ?side1 A2.out).mono ?_); (case side1 => first | exact HGMax.out | exact GlobMax.below HGMax.out (by repeat (first | (with_reducible first | exact HB.out | apply below_alloc | apply pw_below_drewN | apply below_drew1) | exact HB.out)) | exact GlobMax.drawn HGMax.out (by repeat (first | exact Drawn0.refl _ | apply Drawn0.step))); rintro e w' ⟨rfl, ⟨nd, rfl⟩⟩; refine ⟨_, rfl, ?_⟩) | (go_at_call 12; (with_reducible refine (attribute_Name.calls k (⟨#[97, 46, 46, 98]⟩ : ByteArray) true _ ?side1 A4.out).mono ?_); (case side1 => first | exact HGMax.out | exact GlobMax.below HGMax.out (by repeat (first | (with_reducible first | exact HB.out | apply below_alloc | apply pw_below_drewN | apply below_drew1) | exact HB.out)) | exact GlobMax.drawn HGMax.out (by repeat (first | exact Drawn0.refl _ | apply Drawn0.step))); rintro e w' ⟨rfl, ⟨nd, rfl⟩⟩))
      go_ret
      exact ⟨by first | rfl | (simp [errW_none, errW_some] <;> rfl) | (simp [*, errW_none, errW_some] <;> rfl), by repeat (first | (with_reducible first | exact HB.out | apply below_alloc | apply pw_below_drewN | apply below_drew1) | exact HB.out)⟩
    · replace c5 := Bool.eq_false_iff.mpr c5
      subst c5
      have H1 : ((attribute_Name.f k (⟨#[65, 87, 83, 46, 120]⟩ : ByteArray)).bind fun t151 => (if t151 = true then (some false) else (if t147 = 2 then (if t148 = true then ((attribute_Number.f k (⟨#[45, 49, 46, 53, 101, 51]⟩ : ByteArray)).bind fun t152 => (if t152 = true then ((attribute_Sum.f k (([(⟨(⟨#[97]⟩ : ByteArray), (⟨#[83, 116, 114, 105, 110, 103]⟩ : ByteArray), (⟨#[120]⟩ : ByteArray)⟩ : S33)] : List (S33)))).bind fun t156 => (some ((t156.size : Int) == 32))) else (some false))) else (some false)) else (some false)))) = some r := by rw [if_neg (show ¬ (false = true) by decide)] at H; exact H
      clear H
      have H := H1
      clear H1
      replace H := Option.bind_eq_some_iff.mp H
      obtain ⟨t151, A70, H⟩ := H
      replace H : (if t151 = true then (some false) else (if t147 = 2 then (if t148 = true then ((attribute_Number.f k (⟨#[45, 49, 46, 53, 101, 51]⟩ : ByteArray)).bind fun t152 => (if t152 = true then ((attribute_Sum.f k (([(⟨(⟨#[97]⟩ : ByteArray), (⟨#[83, 116, 114, 105, 110, 103]⟩ : ByteArray), (⟨#[120]⟩ : ByteArray)⟩ : S33)] : List (S33)))).bind fun t156 => (some ((t156.size : Int) == 32))) else (some false))) else (some false)) else (some false))) = some r := H
      have A7 := Aside0.mk A70
      clear A70
      by_cases c8 : t151 = true
      · subst c8
        have H1 : (some false) = some r := by rw [if_pos rfl] at H; exact H
        clear H
        have H := H1
        clear H1
        obtain rfl := Option.some.inj H
        go_enter Tryd.func16, Tryd.ntmps16
        go_wp2_with (first | ((with_reducible refine gate_callee (f := 10) rfl ?_); refine goesL_ (some 4) rfl rfl Tryd.func10 (by kernel_rfl) rfl #[.string (⟨#[78, 117, 109, 98, 101, 114, 46, 105, 110, 116]⟩ : ByteArray)] rfl (by (try simp only [List.map_toArray, List.map_cons, List.map_nil]); first | done | rfl | (simp only [List.length_drop, List.length_take]; rfl)) ?_; (with_reducible refine (attribute_Type.calls k (⟨#[78, 117, 109, 98, 101, 114, 46, 105, 110, 116]⟩ : ByteArray) t147 t148 _ A1.out).mono ?_); rintro e w9 ⟨rfl, hb⟩; refine ⟨_, rfl, ?_⟩; have n0_ := Aside0.mk (below_step (by repeat (first | (with_reducible first | exact HB.out | apply below_alloc | apply pw_below_drewN | apply below_drew1) | exact HB.out)) hb); clear HB; have HB := n0_; clear n0_; (try clear hb); (try clear hb2); (try clear hk); (try clear hi)) | ((with_reducible refine gate_callee (f := 12) rfl ?_); refine goesL_ (some 7) rfl rfl Tryd.func12 (by kernel_rfl) rfl #[.string (⟨#[97, 46, 98]⟩ : ByteArray)] rfl (by (try simp only [List.map_toArray, List.map_cons, List.map_nil]); first | done | rfl | (simp only [List.length_drop, List.length_take]; rfl)) ?_; (with_reducible refine (attribute_Name.calls k (⟨#[97, 46, 98]⟩ : ByteArray) true _ ?side1 A2.out).mono ?_); (case side1 => first | exact HGMax.out | exact GlobMax.below HGMax.out (by repeat (first | (with_reducible first | exact HB.out | apply below_alloc | apply pw_below_drewN | apply below_drew1) | exact HB.out)) | exact GlobMax.drawn HGMax.out (by repeat (first | exact Drawn0.refl _ | apply Drawn0.step))); rintro e w' ⟨rfl, ⟨nd, rfl⟩⟩; refine ⟨_, rfl, ?_⟩) | (go_at_call 12; (with_reducible refine (attribute_Name.calls k (⟨#[97, 46, 46, 98]⟩ : ByteArray) false _ ?side1 A4.out).mono ?_); (case side1 => first | exact HGMax.out | exact GlobMax.below HGMax.out (by repeat (first | (with_reducible first | exact HB.out | apply below_alloc | apply pw_below_drewN | apply below_drew1) | exact HB.out)) | exact GlobMax.drawn HGMax.out (by repeat (first | exact Drawn0.refl _ | apply Drawn0.step))); rintro e w' ⟨rfl, ⟨nd, rfl⟩⟩) | (go_at_call 12; (with_reducible refine (attribute_Name.calls k (⟨#[65, 87, 83, 46, 120]⟩ : ByteArray) true _ ?side1 A7.out).mono ?_); (case side1 => first | exact HGMax.out | exact GlobMax.below HGMax.out (by repeat (first | (with_reducible first | exact HB.out | apply below_alloc | apply pw_below_drewN | apply below_drew1) | exact HB.out)) | exact GlobMax.drawn HGMax.out (by repeat (first | exact Drawn0.refl _ | apply Drawn0.step))); rintro e w' ⟨rfl, ⟨nd, rfl⟩⟩))
        go_ret
        exact ⟨by first | rfl | (simp [errW_none, errW_some] <;> rfl) | (simp [*, errW_none, errW_some] <;> rfl), by repeat (first | (with_reducible first | exact HB.out | apply below_alloc | apply pw_below_drewN | apply below_drew1) | exact HB.out)⟩
      · replace c8 := Bool.eq_false_iff.mpr c8
        subst c8
        have H1 : (if t147 = 2 then (if t148 = true then ((attribute_Number.f k (⟨#[45, 49, 46, 53, 101, 51]⟩ : ByteArray)).bind fun t152 => (if t152 = true then ((attribute_Sum.f k (([(⟨(⟨#[97]⟩ : ByteArray), (⟨#[83, 116, 114, 105, 110, 103]⟩ : ByteArray), (⟨#[120]⟩ : ByteArray)⟩ : S33)] : List (S33)))).bind fun t156 => (some ((t156.size : Int) == 32))) else (some false))) else (some false)) else (some false)) = some r := by rw [if_neg (show ¬ (false = true) by decide)] at H; exact H
        clear H
        have H := H1
        clear H1
        by_cases c10 : t147 = 2
        · rw [if_pos c10] at H
          have c10b0 : (t147 == 2) = true := beq_iff_eq.mpr c10
          have c10b1 : (t147 != 2) = false := bne_eq_false_iff_eq.mpr c10
          clear c10
          by_cases c11 : t148 = true
          · subst c11
            have H1 : ((attribute_Number.f k (⟨#[45, 49, 46, 53, 101, 51]⟩ : ByteArray)).bind fun t152 => (if t152 = true then ((attribute_Sum.f k (([(⟨(⟨#[97]⟩ : ByteArray), (⟨#[83, 116, 114, 105, 110, 103]⟩ : ByteArray), (⟨#[120]⟩ : ByteArray)⟩ : S33)] : List (S33)))).bind fun t156 => (some ((t156.size : Int) == 32))) else (some false))) = some r := by rw [if_pos rfl] at H; exact H
            clear H
            have H := H1
            clear H1
            replace H := Option.bind_eq_some_iff.mp H
            obtain ⟨t152, A120, H⟩ := H
            replace H : (if t152 = true then ((attribute_Sum.f k (([(⟨(⟨#[97]⟩ : ByteArray), (⟨#[83, 116, 114, 105, 110, 103]⟩ : ByteArray), (⟨#[120]⟩ : ByteArray)⟩ : S33)] : List (S33)))).bind fun t156 => (some ((t156.size : Int) == 32))) else (some false)) = some r := H
            have A12 := Aside0.mk A120
            clear A120
            by_cases c13 : t152 = true
            · subst c13
              have H1 : ((attribute_Sum.f k (([(⟨(⟨#[97]⟩ : ByteArray), (⟨#[83, 116, 114, 105, 110, 103]⟩ : ByteArray), (⟨#[120]⟩ : ByteArray)⟩ : S33)] : List (S33)))).bind fun t156 => (some ((t156.size : Int) == 32))) = some r := by rw [if_pos rfl] at H; exact H
              clear H
              have H := H1
              clear H1
              obtain ⟨y153, hy153⟩ : ∃ y_ : List (S33), y_ = (([(⟨(⟨#[97]⟩ : ByteArray), (⟨#[83, 116, 114, 105, 110, 103]⟩ : ByteArray), (⟨#[120]⟩ : ByteArray)⟩ : S33)] : List (S33))) := ⟨_, rfl⟩
              replace H : ((attribute_Sum.f k y153).bind fun t156 => (some ((t156.size : Int) == 32))) = some r := by first | (rw [hy153]; with_reducible exact H) | (have H2_ := (Option.bind_some _ _).symm.trans H; rw [hy153]; with_reducible exact H2_) | (have H2_ := (Option.bind_some _ _).symm.trans H; with_reducible exact H2_) | with_reducible exact H | (rw [hy153]; exact H) | exact H
              have Ny153 := Aside0.mk hy153
              clear hy153
              replace H := Option.bind_eq_some_iff.mp H
              obtain ⟨t156, A140, H⟩ := H
              replace H : (some ((t156.size : Int) == 32)) = some r := H
              have A14 := Aside0.mk A140
              clear A140
              obtain rfl := Option.some.inj H
              go_enter Tryd.func16, Tryd.ntmps16
              go_wp2_with (first | ((with_reducible refine gate_callee (f := 10) rfl ?_); refine goesL_ (some 4) rfl rfl Tryd.func10 (by kernel_rfl) rfl #[.string (⟨#[78, 117, 109, 98, 101, 114, 46, 105, 110, 116]⟩ : ByteArray)] rfl (by (try simp only [List.map_toArray, List.map_cons, List.map_nil]); first | done | rfl | (simp only [List.length_drop, List.length_take]; rfl)) ?_; (with_reducible refine (attribute_Type.calls k (⟨#[78, 117, 109, 98, 101, 114, 46, 105, 110, 116]⟩ : ByteArray) t147 true _ A1.out).mono ?_); rintro e w15 ⟨rfl, hb⟩; refine ⟨_, rfl, ?_⟩; have n0_ := Aside0.mk (below_step (by repeat (first | (with_reducible first | exact HB.out | apply below_alloc | apply pw_below_drewN | apply below_drew1) | exact HB.out)) hb); clear HB; have HB := n0_; clear n0_; (try clear hb); (try clear hb2); (try clear hk); (try clear hi)) | ((with_reducible refine gate_callee (f := 12) rfl ?_); refine goesL_ (some 7) rfl rfl Tryd.func12 (by kernel_rfl) rfl #[.string (⟨#[97, 46, 98]⟩ : ByteArray)] rfl (by (try simp only [List.map_toArray, List.map_cons, List.map_nil]); first | done | rfl | (simp only [List.length_drop, List.length_take]; rfl)) ?_; (with_reducible refine (attribute_Name.calls k (⟨#[97, 46, 98]⟩ : ByteArray) true _ ?side1 A2.out).mono ?_); (case side1 => first | exact HGMax.out | exact GlobMax.below HGMax.out (by repeat (first | (with_reducible first | exact HB.out | apply below_alloc | apply pw_below_drewN | apply below_drew1) | exact HB.out)) | exact GlobMax.drawn HGMax.out (by repeat (first | exact Drawn0.refl _ | apply Drawn0.step))); rintro e w' ⟨rfl, ⟨nd, rfl⟩⟩; refine ⟨_, rfl, ?_⟩) | (go_at_call 12; (with_reducible refine (attribute_Name.calls k (⟨#[97, 46, 46, 98]⟩ : ByteArray) false _ ?side1 A4.out).mono ?_); (case side1 => first | exact HGMax.out | exact GlobMax.below HGMax.out (by repeat (first | (with_reducible first | exact HB.out | apply below_alloc | apply pw_below_drewN | apply below_drew1) | exact HB.out)) | exact GlobMax.drawn HGMax.out (by repeat (first | exact Drawn0.refl _ | apply Drawn0.step))); rintro e w' ⟨rfl, ⟨nd, rfl⟩⟩) | (go_at_call 12; (with_reducible refine (attribute_Name.calls k (⟨#[65, 87, 83, 46, 120]⟩ : ByteArray) false _ ?side1 A7.out).mono ?_); (case side1 => first | exact HGMax.out | exact GlobMax.below HGMax.out (by repeat (first | (with_reducible first | exact HB.out | apply below_alloc | apply pw_below_drewN | apply below_drew1) | exact HB.out)) | exact GlobMax.drawn HGMax.out (by repeat (first | exact Drawn0.refl _ | apply Drawn0.step))); rintro e w' ⟨rfl, ⟨nd, rfl⟩⟩) | (go_at_call 14; (with_reducible refine (attribute_Number.calls k (⟨#[45, 49, 46, 53, 101, 51]⟩ : ByteArray) true _ ?side1 A12.out).mono ?_); (case side1 => first | exact HGMax.out | exact GlobMax.below HGMax.out (by repeat (first | (with_reducible first | exact HB.out | apply below_alloc | apply pw_below_drewN | apply below_drew1) | exact HB.out)) | exact GlobMax.drawn HGMax.out (by repeat (first | exact Drawn0.refl _ | apply Drawn0.step))); rintro e w16 ⟨rfl, hb⟩; have n0_ := Aside0.mk (below_step (by repeat (first | (with_reducible first | exact HB.out | apply below_alloc | apply pw_below_drewN | apply below_drew1) | exact HB.out)) hb); clear HB; have HB := n0_; clear n0_; (try clear hb); (try clear hb2); (try clear hk); (try clear hi)) | ((with_reducible refine gate_dst (N := 28) rfl ?_); (try (refine gate_guard (by rfl) ?_; dsimp only)); refine Kd.R_lit k33 _ 33 ?hg (N := 28) ?hd (xs := ([(⟨(⟨#[97]⟩ : ByteArray), (⟨#[83, 116, 114, 105, 110, 103]⟩ : ByteArray), (⟨#[120]⟩ : ByteArray)⟩ : S33)] : List (S33))) (inner := [.string (⟨#[97]⟩ : ByteArray), .string (⟨#[83, 116, 114, 105, 110, 103]⟩ : ByteArray), .string (⟨#[120]⟩ : ByteArray)]) (ok := fun _ => True) (okp := fun _ => True) ?hr ?hp (fun _ hk => hk) trivial (Below.refl _ _) (Nat.le_refl _) (by simp) ?_; (case hd => rfl); (case hg => rfl); (case hr => first | (go_simp; done) | (go_simp; rfl)); (case hp => exact (Reps.c3 (show Kd.M k33 _ _ _ (⟨(⟨#[97]⟩ : ByteArray), (⟨#[83, 116, 114, 105, 110, 103]⟩ : ByteArray), (⟨#[120]⟩ : ByteArray)⟩ : S33) [.string (⟨#[97]⟩ : ByteArray), .string (⟨#[83, 116, 114, 105, 110, 103]⟩ : ByteArray), .string (⟨#[120]⟩ : ByteArray)] from (k33_mkM _ _ _ (⟨(⟨#[97]⟩ : ByteArray), (⟨#[83, 116, 114, 105, 110, 103]⟩ : ByteArray), (⟨#[120]⟩ : ByteArray)⟩ : S33) )) (Reps.none _ _))); intro v154 w17 ho18 hb hg_ hnew_; clear hg_ hnew_; (first | rw [← Ny153.out] at ho18 | (simp only [Int.reduceToNat] at ho18; rw [← Ny153.out] at ho18)); have n0_ := Aside0.mk (Kd.R_lower ho18 (below_size (by repeat (first | (with_reducible first | exact HB.out | apply below_alloc | apply pw_below_drewN | apply below_drew1) | exact HB.out)))); have n1_ := Aside0.mk (below_step (by repeat (first | (with_reducible first | exact HB.out | apply below_alloc | apply pw_below_drewN | apply below_drew1) | exact HB.out)) hb); clear HB; have HO155 := n0_; have HB := n1_; clear n0_ n1_; clear hb ho18; obtain ⟨Ao19, co19, eo19⟩ := Kd.R_slice HO155.out; subst eo19) | (go_at_call 21; (with_reducible refine (attribute_Sum.calls k _ _ y153 t156 _ ?side3 ?side1 ?side2 A14.out).mono ?_); (case side1 => repeat (first | exact (Kd.R_reads' HO155.out).2.2 | (with_reducible refine Kd.C_alloc ?_ _) | (with_reducible refine Kd.C_drewN ?_ _) | (with_reducible refine Kd.C_drew ?_))); (case side2 => exact (Kd.R_reads' HO155.out).2.1); (case side3 => first | exact HGFp.out | exact GlobFp.below HGFp.out (by repeat (first | (with_reducible first | exact HB.out | apply below_alloc | apply pw_below_drewN | apply below_drew1) | exact HB.out)) | exact GlobFp.drawn HGFp.out (by repeat (first | exact Drawn0.refl _ | apply Drawn0.step))); rintro e w20 ⟨rfl, hb⟩; have n0_ := Aside0.mk (Kd.R_below (by (with_reducible repeat (first | apply Kd.R_alloc | apply Kd.R_drewN | apply Kd.R_drew)); exact HO155.out) hb); have n1_ := Aside0.mk (below_step (by repeat (first | (with_reducible first | exact HB.out | apply below_alloc | apply pw_below_drewN | apply below_drew1) | exact HB.out)) hb); clear HO155; clear HB; have HO155 := n0_; have HB := n1_; clear n0_ n1_; (try clear hb); (try clear hb2); (try clear hk); (try clear hi)))
              go_ret
              exact ⟨by first | rfl | (simp [errW_none, errW_some] <;> rfl) | (simp [*, errW_none, errW_some] <;> rfl), by repeat (first | (with_reducible first | exact HB.out | apply below_alloc | apply pw_below_drewN | apply below_drew1) | exact HB.out)⟩
            · replace c13 := Bool.eq_false_iff.mpr c13
              subst c13
              have H1 : (some false) = some r := by rw [if_neg (show ¬ (false = true) by decide)] at H; exact H
              clear H
              have H := H1
              clear H1
              obtain rfl := Option.some.inj H
              go_enter Tryd.func16, Tryd.ntmps16
              go_wp2_with (first | ((with_reducible refine gate_callee (f := 10) rfl ?_); refine goesL_ (some 4) rfl rfl Tryd.func10 (by kernel_rfl) rfl #[.string (⟨#[78, 117, 109, 98, 101, 114, 46, 105, 110, 116]⟩ : ByteArray)] rfl (by (try simp only [List.map_toArray, List.map_cons, List.map_nil]); first | done | rfl | (simp only [List.length_drop, List.length_take]; rfl)) ?_; (with_reducible refine (attribute_Type.calls k (⟨#[78, 117, 109, 98, 101, 114, 46, 105, 110, 116]⟩ : ByteArray) t147 true _ A1.out).mono ?_); rintro e w21 ⟨rfl, hb⟩; refine ⟨_, rfl, ?_⟩; have n0_ := Aside0.mk (below_step (by repeat (first | (with_reducible first | exact HB.out | apply below_alloc | apply pw_below_drewN | apply below_drew1) | exact HB.out)) hb); clear HB; have HB := n0_; clear n0_; (try clear hb); (try clear hb2); (try clear hk); (try clear hi)) | ((with_reducible refine gate_callee (f := 12) rfl ?_); refine goesL_ (some 7) rfl rfl Tryd.func12 (by kernel_rfl) rfl #[.string (⟨#[97, 46, 98]⟩ : ByteArray)] rfl (by (try simp only [List.map_toArray, List.map_cons, List.map_nil]); first | done | rfl | (simp only [List.length_drop, List.length_take]; rfl)) ?_; (with_reducible refine (attribute_Name.calls k (⟨#[97, 46, 98]⟩ : ByteArray) true _ ?side1 A2.out).mono ?_); (case side1 => first | exact HGMax.out | exact GlobMax.below HGMax.out (by repeat (first | (with_reducible first | exact HB.out | apply below_alloc | apply pw_below_drewN | apply below_drew1) | exact HB.out)) | exact GlobMax.drawn HGMax.out (by repeat (first | exact Drawn0.refl _ | apply Drawn0.step))); rintro e w' ⟨rfl, ⟨nd, rfl⟩⟩; refine ⟨_, rfl, ?_⟩) | (go_at_call 12; (with_reducible refine (attribute_Name.calls k (⟨#[97, 46, 46, 98]⟩ : ByteArray) false _ ?side1 A4.out).mono ?_); (case side1 => first | exact HGMax.out | exact GlobMax.below HGMax.out (by repeat (first | (with_reducible first | exact HB.out | apply below_alloc | apply pw_below_drewN | apply below_drew1) | exact HB.out)) | exact GlobMax.drawn HGMax.out (by repeat (first | exact Drawn0.refl _ | apply Drawn0.step))); rintro e w' ⟨rfl, ⟨nd, rfl⟩⟩) | (go_at_call 12; (with_reducible refine (attribute_Name.calls k (⟨#[65, 87, 83, 46, 120]⟩ : ByteArray) false _ ?side1 A7.out).mono ?_); (case side1 => first | exact HGMax.out | exact GlobMax.below HGMax.out (by repeat (first | (with_reducible first | exact HB.out | apply below_alloc | apply pw_below_drewN | apply below_drew1) | exact HB.out)) | exact GlobMax.drawn HGMax.out (by repeat (first | exact Drawn0.refl _ | apply Drawn0.step))); rintro e w' ⟨rfl, ⟨nd, rfl⟩⟩) | (go_at_call 14; (with_reducible refine (attribute_Number.calls k (⟨#[45, 49, 46, 53, 101, 51]⟩ : ByteArray) false _ ?side1 A12.out).mono ?_); (case side1 => first | exact HGMax.out | exact GlobMax.below HGMax.out (by repeat (first | (with_reducible first | exact HB.out | apply below_alloc | apply pw_below_drewN | apply below_drew1) | exact HB.out)) | exact GlobMax.drawn HGMax.out (by repeat (first | exact Drawn0.refl _ | apply Drawn0.step))); rintro e w22 ⟨rfl, hb⟩; have n0_ := Aside0.mk (below_step (by repeat (first | (with_reducible first | exact HB.out | apply below_alloc | apply pw_below_drewN | apply below_drew1) | exact HB.out)) hb); clear HB; have HB := n0_; clear n0_; (try clear hb); (try clear hb2); (try clear hk); (try clear hi)))
              go_ret
              exact ⟨by first | rfl | (simp [errW_none, errW_some] <;> rfl) | (simp [*, errW_none, errW_some] <;> rfl), by repeat (first | (with_reducible first | exact HB.out | apply below_alloc | apply pw_below_drewN | apply below_drew1) | exact HB.out)⟩
          · replace c11 := Bool.eq_false_iff.mpr c11
            subst c11
            have H1 : (some false) = some r := by rw [if_neg (show ¬ (false = true) by decide)] at H; exact H
            clear H
            have H := H1
            clear H1
            obtain rfl := Option.some.inj H
            go_enter Tryd.func16, Tryd.ntmps16
            go_wp2_with (first | ((with_reducible refine gate_callee (f := 10) rfl ?_); refine goesL_ (some 4) rfl rfl Tryd.func10 (by kernel_rfl) rfl #[.string (⟨#[78, 117, 109, 98, 101, 114, 46, 105, 110, 116]⟩ : ByteArray)] rfl (by (try simp only [List.map_toArray, List.map_cons, List.map_nil]); first | done | rfl | (simp only [List.length_drop, List.length_take]; rfl)) ?_; (with_reducible refine (attribute_Type.calls k (⟨#[78, 117, 109, 98, 101, 114, 46, 105, 110, 116]⟩ : ByteArray) t147 false _ A1.out).mono ?_); rintro e w23 ⟨rfl, hb⟩; refine ⟨_, rfl, ?_⟩; have n0_ := Aside0.mk (below_step (by repeat (first | (with_reducible first | exact HB.out | apply below_alloc | apply pw_below_drewN | apply below_drew1) | exact HB.out)) hb); clear HB; have HB := n0_; clear n0_; (try clear hb); (try clear hb2); (try clear hk); (try clear hi)) | ((with_reducible refine gate_callee (f := 12) rfl ?_); refine goesL_ (some 7) rfl rfl Tryd.func12 (by kernel_rfl) rfl #[.string (⟨#[97, 46, 98]⟩ : ByteArray)] rfl (by (try simp only [List.map_toArray, List.map_cons, List.map_nil]); first | done | rfl | (simp only [List.length_drop, List.length_take]; rfl)) ?_; (with_reducible refine (attribute_Name.calls k (⟨#[97, 46, 98]⟩ : ByteArray) true _ ?side1 A2.out).mono ?_); (case side1 => first | exact HGMax.out | exact GlobMax.below HGMax.out (by repeat (first | (with_reducible first | exact HB.out | apply below_alloc | apply pw_below_drewN | apply below_drew1) | exact HB.out)) | exact GlobMax.drawn HGMax.out (by repeat (first | exact Drawn0.refl _ | apply Drawn0.step))); rintro e w' ⟨rfl, ⟨nd, rfl⟩⟩; refine ⟨_, rfl, ?_⟩) | (go_at_call 12; (with_reducible refine (attribute_Name.calls k (⟨#[97, 46, 46, 98]⟩ : ByteArray) false _ ?side1 A4.out).mono ?_); (case side1 => first | exact HGMax.out | exact GlobMax.below HGMax.out (by repeat (first | (with_reducible first | exact HB.out | apply below_alloc | apply pw_below_drewN | apply below_drew1) | exact HB.out)) | exact GlobMax.drawn HGMax.out (by repeat (first | exact Drawn0.refl _ | apply Drawn0.step))); rintro e w' ⟨rfl, ⟨nd, rfl⟩⟩) | (go_at_call 12; (with_reducible refine (attribute_Name.calls k (⟨#[65, 87, 83, 46, 120]⟩ : ByteArray) false _ ?side1 A7.out).mono ?_); (case side1 => first | exact HGMax.out | exact GlobMax.below HGMax.out (by repeat (first | (with_reducible first | exact HB.out | apply below_alloc | apply pw_below_drewN | apply below_drew1) | exact HB.out)) | exact GlobMax.drawn HGMax.out (by repeat (first | exact Drawn0.refl _ | apply Drawn0.step))); rintro e w' ⟨rfl, ⟨nd, rfl⟩⟩))
            go_ret
            exact ⟨by first | rfl | (simp [errW_none, errW_some] <;> rfl) | (simp [*, errW_none, errW_some] <;> rfl), by repeat (first | (with_reducible first | exact HB.out | apply below_alloc | apply pw_below_drewN | apply below_drew1) | exact HB.out)⟩
        · rw [if_neg c10] at H
          have c10b0 : (t147 == 2) = false := beq_eq_false_iff_ne.mpr c10
          have c10b1 : (t147 != 2) = true := bne_iff_ne.mpr c10
          obtain rfl := Option.some.inj H
          go_enter Tryd.func16, Tryd.ntmps16
          go_wp2_with (first | ((with_reducible refine gate_callee (f := 10) rfl ?_); refine goesL_ (some 4) rfl rfl Tryd.func10 (by kernel_rfl) rfl #[.string (⟨#[78, 117, 109, 98, 101, 114, 46, 105, 110, 116]⟩ : ByteArray)] rfl (by (try simp only [List.map_toArray, List.map_cons, List.map_nil]); first | done | rfl | (simp only [List.length_drop, List.length_take]; rfl)) ?_; (with_reducible refine (attribute_Type.calls k (⟨#[78, 117, 109, 98, 101, 114, 46, 105, 110, 116]⟩ : ByteArray) t147 t148 _ A1.out).mono ?_); rintro e w24 ⟨rfl, hb⟩; refine ⟨_, rfl, ?_⟩; have n0_ := Aside0.mk (below_step (by repeat (first | (with_reducible first | exact HB.out | apply below_alloc | apply pw_below_drewN | apply below_drew1) | exact HB.out)) hb); clear HB; have HB := n0_; clear n0_; (try clear hb); (try clear hb2); (try clear hk); (try clear hi)) | ((with_reducible refine gate_callee (f := 12) rfl ?_); refine goesL_ (some 7) rfl rfl Tryd.func12 (by kernel_rfl) rfl #[.string (⟨#[97, 46, 98]⟩ : ByteArray)] rfl (by (try simp only [List.map_toArray, List.map_cons, List.map_nil]); first | done | rfl | (simp only [List.length_drop, List.length_take]; rfl)) ?_; (with_reducible refine (attribute_Name.calls k (⟨#[97, 46, 98]⟩ : ByteArray) true _ ?side1 A2.out).mono ?_); (case side1 => first | exact HGMax.out | exact GlobMax.below HGMax.out (by repeat (first | (with_reducible first | exact HB.out | apply below_alloc | apply pw_below_drewN | apply below_drew1) | exact HB.out)) | exact GlobMax.drawn HGMax.out (by repeat (first | exact Drawn0.refl _ | apply Drawn0.step))); rintro e w' ⟨rfl, ⟨nd, rfl⟩⟩; refine ⟨_, rfl, ?_⟩) | (go_at_call 12; (with_reducible refine (attribute_Name.calls k (⟨#[97, 46, 46, 98]⟩ : ByteArray) false _ ?side1 A4.out).mono ?_); (case side1 => first | exact HGMax.out | exact GlobMax.below HGMax.out (by repeat (first | (with_reducible first | exact HB.out | apply below_alloc | apply pw_below_drewN | apply below_drew1) | exact HB.out)) | exact GlobMax.drawn HGMax.out (by repeat (first | exact Drawn0.refl _ | apply Drawn0.step))); rintro e w' ⟨rfl, ⟨nd, rfl⟩⟩) | (go_at_call 12; (with_reducible refine (attribute_Name.calls k (⟨#[65, 87, 83, 46, 120]⟩ : ByteArray) false _ ?side1 A7.out).mono ?_); (case side1 => first | exact HGMax.out | exact GlobMax.below HGMax.out (by repeat (first | (with_reducible first | exact HB.out | apply below_alloc | apply pw_below_drewN | apply below_drew1) | exact HB.out)) | exact GlobMax.drawn HGMax.out (by repeat (first | exact Drawn0.refl _ | apply Drawn0.step))); rintro e w' ⟨rfl, ⟨nd, rfl⟩⟩))
          go_ret
          exact ⟨by first | rfl | (simp [errW_none, errW_some] <;> rfl) | (simp [*, errW_none, errW_some] <;> rfl), by repeat (first | (with_reducible first | exact HB.out | apply below_alloc | apply pw_below_drewN | apply below_drew1) | exact HB.out)⟩
  · replace c3 := Bool.eq_false_iff.mpr c3
    subst c3
    have H1 : (some false) = some r := by rw [if_neg (show ¬ (false = true) by decide)] at H; exact H
    clear H
    have H := H1
    clear H1
    obtain rfl := Option.some.inj H
    go_enter Tryd.func16, Tryd.ntmps16
    go_wp2_with (first | ((with_reducible refine gate_callee (f := 10) rfl ?_); refine goesL_ (some 4) rfl rfl Tryd.func10 (by kernel_rfl) rfl #[.string (⟨#[78, 117, 109, 98, 101, 114, 46, 105, 110, 116]⟩ : ByteArray)] rfl (by (try simp only [List.map_toArray, List.map_cons, List.map_nil]); first | done | rfl | (simp only [List.length_drop, List.length_take]; rfl)) ?_; (with_reducible refine (attribute_Type.calls k (⟨#[78, 117, 109, 98, 101, 114, 46, 105, 110, 116]⟩ : ByteArray) t147 t148 _ A1.out).mono ?_); rintro e w25 ⟨rfl, hb⟩; refine ⟨_, rfl, ?_⟩; have n0_ := Aside0.mk (below_step (by repeat (first | (with_reducible first | exact HB.out | apply below_alloc | apply pw_below_drewN | apply below_drew1) | exact HB.out)) hb); clear HB; have HB := n0_; clear n0_; (try clear hb); (try clear hb2); (try clear hk); (try clear hi)) | ((with_reducible refine gate_callee (f := 12) rfl ?_); refine goesL_ (some 7) rfl rfl Tryd.func12 (by kernel_rfl) rfl #[.string (⟨#[97, 46, 98]⟩ : ByteArray)] rfl (by (try simp only [List.map_toArray, List.map_cons, List.map_nil]); first | done | rfl | (simp only [List.length_drop, List.length_take]; rfl)) ?_; (with_reducible refine (attribute_Name.calls k (⟨#[97, 46, 98]⟩ : ByteArray) false _ ?side1 A2.out).mono ?_); (case side1 => first | exact HGMax.out | exact GlobMax.below HGMax.out (by repeat (first | (with_reducible first | exact HB.out | apply below_alloc | apply pw_below_drewN | apply below_drew1) | exact HB.out)) | exact GlobMax.drawn HGMax.out (by repeat (first | exact Drawn0.refl _ | apply Drawn0.step))); rintro e w' ⟨rfl, ⟨nd, rfl⟩⟩; refine ⟨_, rfl, ?_⟩))
    go_ret
    exact ⟨by first | rfl | (simp [errW_none, errW_some] <;> rfl) | (simp [*, errW_none, errW_some] <;> rfl), by repeat (first | (with_reducible first | exact HB.out | apply below_alloc | apply pw_below_drewN | apply below_drew1) | exact HB.out)⟩

def racewaylaw24_few.l0 : Nat → List (S33) → List (S33) → Int → Option ((List (S33)))
  | 0, _, _, _ => none
  | k + 1, x0, x3, x4 => if x4 < (x0.length : Int) then (if x4 < 14 then (if 0 ≤ x4 then (if 0 ≤ (mn (((rd_T33 x0 x4).f0).size : Int) 100) then (if (mn (((rd_T33 x0 x4).f0).size : Int) 100) ≤ (((rd_T33 x0 x4).f0).size : Int) then (if 0 ≤ (mn (((rd_T33 x0 x4).f1).size : Int) 100) then (if (mn (((rd_T33 x0 x4).f1).size : Int) 100) ≤ (((rd_T33 x0 x4).f1).size : Int) then (if 0 ≤ (mn (((rd_T33 x0 x4).f2).size : Int) 200) then (if (mn (((rd_T33 x0 x4).f2).size : Int) 200) ≤ (((rd_T33 x0 x4).f2).size : Int) then (if x3.length < 2932031007402 then (racewaylaw24_few.l0 k x0 (x3 ++ [(⟨((rd_T33 x0 x4).f0).extract 0 ((mn (((rd_T33 x0 x4).f0).size : Int) 100) : Int).toNat, ((rd_T33 x0 x4).f1).extract 0 ((mn (((rd_T33 x0 x4).f1).size : Int) 100) : Int).toNat, ((rd_T33 x0 x4).f2).extract 0 ((mn (((rd_T33 x0 x4).f2).size : Int) 200) : Int).toNat⟩ : S33)]) (wrap64 (x4 + 1))) else (none)) else (none)) else (none)) else (none)) else (none)) else (none)) else (none)) else (none)) else (some x3)) else (some x3)
def racewaylaw24_few.f (k : Nat) (l0 : List (S33)) : Option ((List (S33))) := racewaylaw24_few.l0 k l0 ([] : List (S33)) 0
def racewaylaw24_few.T6 : Bool × List (List Nat × List Nat) := (true, [([], []), ([0], [0]), ([], []), ([2], [2]), ([3], [3]), ([4], [4]), ([1, 5], [1, 5]), ([], []), ([7], [7]), ([], []), ([9], [9]), ([10], [10]), ([11], [11]), ([8, 12], [8, 12]), ([], []), ([14], [14]), ([], []), ([16], [16]), ([17], [17]), ([18], [18]), ([15, 19], [15, 19]), ([0, 1, 2, 3, 4, 5, 6, 7, 8, 9, 10, 14, 15, 16, 17], []), ([21, 6, 0, 1, 2, 3, 4, 5, 6, 7, 8, 9, 10, 14, 15, 16, 17], [6, 21]), ([0, 1, 2, 3, 4, 5, 6, 7, 8, 9, 10, 11, 12, 13, 14, 15, 16, 17, 21, 22], []), ([23, 13, 22, 0, 1, 2, 3, 4, 5, 6, 7, 8, 9, 10, 11, 12, 13, 14, 15, 16, 17, 21, 22], [13, 23]), ([0, 1, 2, 3, 4, 5, 6, 7, 8, 9, 10, 11, 12, 13, 14, 15, 16, 17, 18, 19, 20, 21, 22, 23, 24], []), ([25, 20, 24, 0, 1, 2, 3, 4, 5, 6, 7, 8, 9, 10, 11, 12, 13, 14, 15, 16, 17, 18, 19, 20, 21, 22, 23, 24], [20, 25])])
def racewaylaw24_few.B6 : List Nat := [0, 1, 0, 4, 12, 28, 63, 0, 128, 0, 512, 1536, 3584, 8064, 0, 16384, 0, 65536, 196608, 458752, 1032192, 247807, 2344959, 6553599, 14942207, 33554431, 67108863]
theorem racewaylaw24_few.tab6 : rtab .any (opsOf Tryd.f17 6) = racewaylaw24_few.T6 := by kernel_rfl
theorem racewaylaw24_few.bits6 : waitsOk racewaylaw24_few.T6.2 racewaylaw24_few.B6 = true := by kernel_rfl
set_option maxHeartbeats 8000000 in
set_option maxRecDepth 100000 in
theorem racewaylaw24_few.calls (k : Nat) (A0 : Option Addr) (c0 : Nat) (l0 : List (S33)) (r : List (S33)) (w : World) (hr0 : Kd.C k33 w A0 l0.length l0) (hc0 : l0.length ≤ c0) (h : racewaylaw24_few.f k l0 = some r) :
    Calls Tryd.prog 17 #[.slice A0 l0.length c0] w fun e w' => ∃ v0_ : Value, e = .returned (v0_) ∧ Kd.R k33 33 w' w.heap.size (fun _ => True) v0_ r ∧ Below w.heap.size w w' := by
  have hu33 := Tryd.underlying33
  have HR0 := Aside0.mk hr0
  have HC0 := Aside0.mk hc0
  clear hr0 hc0
  have HB := Aside0.mk (Below.refl w.heap.size w)
  have H : (racewaylaw24_few.l0 k l0 ([] : List (S33)) 0) = some r := h
  clear h
  have H' := Aside0.mk H
  clear H
  go_enter Tryd.func17, Tryd.ntmps17
  go_wp2
  go_loopg [3, 4] k (fun kq v3 v4 w' => ∃ (x3_1 : List (S33)) (x4_1 : Int), v4 = .int .i64 x4_1 ∧ Aside0 (racewaylaw24_few.l0 kq l0 x3_1 x4_1 = some r) ∧ Aside0 (kq ≤ k) ∧ Aside0 (Kd.R k33 33 w' w.heap.size (fun _ => True) v3 x3_1) ∧ Aside0 (Below w.heap.size w w'))
  case atStart => exact ⟨(([] : List (S33))), (0), (by first | rfl | (simp; done) | (simp; decide +kernel) | (simp [*]; done)), (by first | exact H' | (subst_vars; exact H')), ⟨Nat.le_refl _⟩, ⟨by first | exact Kd.R_nil _ _ _ _ _ | exact Kd.N_nil _ _ _ _ _ | exact Kd.V_nil _ _ _ _ _ | exact Kd.Q_nil _ _ _ _ _ | exact Kd.S_nil _ _ _ _ _⟩, ⟨by repeat (first | (with_reducible first | exact HB.out | apply below_alloc | apply pw_below_drewN | apply below_drew1) | exact HB.out)⟩⟩
  case round =>
    clear H'
    try clear c1
    obtain ⟨x3_1, x4_1, rfl, HA, HK1, HO_3, HB⟩ := hrel
    cases gk with
    | zero => exact absurd HA.out (by simp [racewaylaw24_few.l0])
    | succ k1 =>
      have H := HA.out
      clear HA
      simp only [racewaylaw24_few.l0] at H
      by_cases c2 : x4_1 < (l0.length : Int)
      · rw [if_pos c2] at H
        have c2b0 : decide (x4_1 < (l0.length : Int)) = true := decide_eq_true c2
        clear c2
        by_cases c3 : x4_1 < 14
        · rw [if_pos c3] at H
          have c3b0 : decide (x4_1 < 14) = true := decide_eq_true c3
          clear c3
          by_cases c4 : 0 ≤ x4_1
          · rw [if_pos c4] at H
            have c4b0 : decide (0 ≤ x4_1) = true := decide_eq_true c4
            clear c4
            obtain ⟨ji5, hji5⟩ : ∃ j_ : Int, (mn (((rd_T33 l0 x4_1).f0).size : Int) 100) = j_ := ⟨_, rfl⟩
            replace H : (if 0 ≤ (ji5) then (if (ji5) ≤ (((rd_T33 l0 x4_1).f0).size : Int) then (if 0 ≤ (mn (((rd_T33 l0 x4_1).f1).size : Int) 100) then (if (mn (((rd_T33 l0 x4_1).f1).size : Int) 100) ≤ (((rd_T33 l0 x4_1).f1).size : Int) then (if 0 ≤ (mn (((rd_T33 l0 x4_1).f2).size : Int) 200) then (if (mn (((rd_T33 l0 x4_1).f2).size : Int) 200) ≤ (((rd_T33 l0 x4_1).f2).size : Int) then (if x3_1.length < 2932031007402 then (racewaylaw24_few.l0 k1 l0 (x3_1 ++ [(⟨((rd_T33 l0 x4_1).f0).extract 0 ((ji5) : Int).toNat, ((rd_T33 l0 x4_1).f1).extract 0 ((mn (((rd_T33 l0 x4_1).f1).size : Int) 100) : Int).toNat, ((rd_T33 l0 x4_1).f2).extract 0 ((mn (((rd_T33 l0 x4_1).f2).size : Int) 200) : Int).toNat⟩ : S33)]) (wrap64 (x4_1 + 1))) else (none)) else (none)) else (none)) else (none)) else (none)) else (none)) else (none)) = some r := by first | (rw [hji5] at H; exact H) | (simp only [hji5] at H ⊢; exact H)
            have hji5_ : (if 100 < (((rd_T33 l0 x4_1).f0).size : Int) then 100 else (((rd_T33 l0 x4_1).f0).size : Int)) = ji5 := hji5
            by_cases c6 : 0 ≤ (ji5)
            · rw [if_pos c6] at H
              have c6b0 := eq_true c6
              have c6b1 : decide (0 ≤ (ji5)) = true := decide_eq_true c6
              clear c6
              by_cases c7 : (ji5) ≤ (((rd_T33 l0 x4_1).f0).size : Int)
              · rw [if_pos c7] at H
                have c7b0 := eq_true c7
                have c7b1 : decide ((ji5) ≤ (((rd_T33 l0 x4_1).f0).size : Int)) = true := decide_eq_true c7
                clear c7
                obtain ⟨ji8, hji8⟩ : ∃ j_ : Int, (mn (((rd_T33 l0 x4_1).f1).size : Int) 100) = j_ := ⟨_, rfl⟩
                replace H : (if 0 ≤ (ji8) then (if (ji8) ≤ (((rd_T33 l0 x4_1).f1).size : Int) then (if 0 ≤ (mn (((rd_T33 l0 x4_1).f2).size : Int) 200) then (if (mn (((rd_T33 l0 x4_1).f2).size : Int) 200) ≤ (((rd_T33 l0 x4_1).f2).size : Int) then (if x3_1.length < 2932031007402 then (racewaylaw24_few.l0 k1 l0 (x3_1 ++ [(⟨((rd_T33 l0 x4_1).f0).extract 0 ((ji5) : Int).toNat, ((rd_T33 l0 x4_1).f1).extract 0 ((ji8) : Int).toNat, ((rd_T33 l0 x4_1).f2).extract 0 ((mn (((rd_T33 l0 x4_1).f2).size : Int) 200) : Int).toNat⟩ : S33)]) (wrap64 (x4_1 + 1))) else (none)) else (none)) else (none)) else (none)) else (none)) = some r := by first | (rw [hji8] at H; exact H) | (simp only [hji8] at H ⊢; exact H)
                have hji8_ : (if 100 < (((rd_T33 l0 x4_1).f1).size : Int) then 100 else (((rd_T33 l0 x4_1).f1).size : Int)) = ji8 := hji8
                by_cases c9 : 0 ≤ (ji8)
                · rw [if_pos c9] at H
                  have c9b0 := eq_true c9
                  have c9b1 : decide (0 ≤ (ji8)) = true := decide_eq_true c9
                  clear c9
                  by_cases c10 : (ji8) ≤ (((rd_T33 l0 x4_1).f1).size : Int)
                  · rw [if_pos c10] at H
                    have c10b0 := eq_true c10
                    have c10b1 : decide ((ji8) ≤ (((rd_T33 l0 x4_1).f1).size : Int)) = true := decide_eq_true c10
                    clear c10
                    obtain ⟨ji11, hji11⟩ : ∃ j_ : Int, (mn (((rd_T33 l0 x4_1).f2).size : Int) 200) = j_ := ⟨_, rfl⟩
                    replace H : (if 0 ≤ (ji11) then (if (ji11) ≤ (((rd_T33 l0 x4_1).f2).size : Int) then (if x3_1.length < 2932031007402 then (racewaylaw24_few.l0 k1 l0 (x3_1 ++ [(⟨((rd_T33 l0 x4_1).f0).extract 0 ((ji5) : Int).toNat, ((rd_T33 l0 x4_1).f1).extract 0 ((ji8) : Int).toNat, ((rd_T33 l0 x4_1).f2).extract 0 ((ji11) : Int).toNat⟩ : S33)]) (wrap64 (x4_1 + 1))) else (none)) else (none)) else (none)) = some r := by first | (rw [hji11] at H; exact H) | (simp only [hji11] at H ⊢; exact H)
                    have hji11_ : (if 200 < (((rd_T33 l0 x4_1).f2).size : Int) then 200 else (((rd_T33 l0 x4_1).f2).size : Int)) = ji11 := hji11
                    by_cases c12 : 0 ≤ (ji11)
                    · rw [if_pos c12] at H
                      have c12b0 := eq_true c12
                      have c12b1 : decide (0 ≤ (ji11)) = true := decide_eq_true c12
                      clear c12
                      by_cases c13 : (ji11) ≤ (((rd_T33 l0 x4_1).f2).size : Int)
                      · rw [if_pos c13] at H
                        have c13b0 := eq_true c13
                        have c13b1 : decide ((ji11) ≤ (((rd_T33 l0 x4_1).f2).size : Int)) = true := decide_eq_true c13
                        clear c13
                        by_cases c14 : x3_1.length < 2932031007402
                        · rw [if_pos c14] at H
                          have LMc14 := Aside0.mk c14
                          clear c14
                          obtain ⟨y168, hy168⟩ : ∃ y_ : List (S33), y_ = (x3_1 ++ [(⟨((rd_T33 l0 x4_1).f0).extract 0 ((ji5) : Int).toNat, ((rd_T33 l0 x4_1).f1).extract 0 ((ji8) : Int).toNat, ((rd_T33 l0 x4_1).f2).extract 0 ((ji11) : Int).toNat⟩ : S33)]) := ⟨_, rfl⟩
                          replace H : (racewaylaw24_few.l0 k1 l0 y168 (wrap64 (x4_1 + 1))) = some r := by first | (rw [hy168]; with_reducible exact H) | (have H2_ := (Option.bind_some _ _).symm.trans H; rw [hy168]; with_reducible exact H2_) | (have H2_ := (Option.bind_some _ _).symm.trans H; with_reducible exact H2_) | with_reducible exact H | (rw [hy168]; exact H) | exact H
                          have Ny168 := Aside0.mk hy168
                          clear hy168
                          have H' := Aside0.mk H
                          clear H
                          have p166 : 0 ≤ (x4_1 : Int) := of_decide_eq_true (by first | (with_reducible assumption) | assumption)
                          have q166 : x4_1 < (l0.length : Int) := of_decide_eq_true (by first | (with_reducible assumption) | assumption)
                          obtain ⟨ad166, e166, hx166_0, hx166_1, hx166_2⟩ := at_T33 HR0.out x4_1 p166 q166
                          cases e166
                          replace hx166_0 := (HB.out.cell (World.block_lt_of_cell? w _ hx166_0)).trans hx166_0
                          replace hx166_1 := (HB.out.cell (World.block_lt_of_cell? w _ hx166_1)).trans hx166_1
                          replace hx166_2 := (HB.out.cell (World.block_lt_of_cell? w _ hx166_2)).trans hx166_2
                          replace p166 := eq_true p166
                          replace q166 := eq_true q166
                          try go_wp2_with (first | ((with_reducible refine gate_dst (N := 5) rfl ?_); refine box_event ?hg (N := 5) ?hd (cs := #[.string (⟨#[]⟩ : ByteArray), .string (⟨#[]⟩ : ByteArray), .string (⟨#[]⟩ : ByteArray)]) (t := 33) ?hr ?_; (case hd => rfl); (case hg => rfl); (case hr => first | (go_simp; done) | (go_simp; rfl)); intro gb167 hg w15 hbox hb; have n0_ := Aside0.mk (Kd.R_below (Kd.R_elderB (by (with_reducible repeat (first | apply Kd.R_alloc | apply Kd.R_drewN | apply Kd.R_drew)); exact HO_3.out) gb167 (Nat.le_of_eq hg.symm)) hb); have n1_ := Aside0.mk (below_step (by repeat (first | (with_reducible first | exact HB.out | apply below_alloc | apply pw_below_drewN | apply below_drew1) | exact HB.out)) hb); have n2_ := Aside0.mk (hbox); have n3_ := Aside0.mk ((by rw [hg]; exact (below_size (by repeat (first | (with_reducible first | exact HB.out | apply below_alloc | apply pw_below_drewN | apply below_drew1) | exact HB.out))) : w.heap.size ≤ gb167)); have n4_ := Aside0.mk ((by rw [hg]; exact (below_size (by repeat (first | (with_reducible first | exact HB.out | apply below_alloc | apply pw_below_drewN | apply below_drew1) | exact HB.out))) : w.heap.size ≤ gb167)); clear HO_3; clear HB; have HO_3 := n0_; have HB := n1_; have BK167 := n2_; have GW167 := n3_; have GE167 := n4_; clear n0_ n1_ n2_ n3_ n4_; clear hb hbox hg; have hcz16_0 : w15.cell? ⟨gb167, 0, none⟩ = some (.string (⟨#[]⟩ : ByteArray)) := (blk_cell BK167.out 0).trans rfl; have hcz16_1 : w15.cell? ⟨gb167, 1, none⟩ = some (.string (⟨#[]⟩ : ByteArray)) := (blk_cell BK167.out 1).trans rfl; have hcz16_2 : w15.cell? ⟨gb167, 2, none⟩ = some (.string (⟨#[]⟩ : ByteArray)) := (blk_cell BK167.out 2).trans rfl; have hfz16_0 := blk_frozen BK167.out 0; have hfz16_1 := blk_frozen BK167.out 1; have hfz16_2 := blk_frozen BK167.out 2))
                          have n0_ : Aside0 (Kd.R k33 33 (((w15.setCell ⟨gb167, 0, none⟩ (.string ((rd_T33 l0 x4_1).f0))).setCell ⟨gb167, 1, none⟩ (.string ((rd_T33 l0 x4_1).f1))).setCell ⟨gb167, 2, none⟩ (.string ((rd_T33 l0 x4_1).f2))) w.heap.size (fun k_ => k_ ≠ gb167) u3 x3_1) := ⟨by (with_reducible repeat (first | apply Kd.R_alloc | apply Kd.R_drewN | apply Kd.R_drew)); exact Kd.R_mono (Kd.R_far (p := ⟨gb167, 2, none⟩) (Kd.R_far (p := ⟨gb167, 1, none⟩) (Kd.R_far (p := ⟨gb167, 0, none⟩) (Kd.R_mono HO_3.out (fun k_ hk => (⟨hk, hk.2⟩ : _ ∧ k_ ≠ gb167))) (fun _ hk => hk.2) (.string ((rd_T33 l0 x4_1).f0))) (fun _ hk => hk.2) (.string ((rd_T33 l0 x4_1).f1))) (fun _ hk => hk.2) (.string ((rd_T33 l0 x4_1).f2))) (fun _ hk => hk.1.2)⟩
                          have n1_ : Aside0 ((((w15.setCell ⟨gb167, 0, none⟩ (.string ((rd_T33 l0 x4_1).f0))).setCell ⟨gb167, 1, none⟩ (.string ((rd_T33 l0 x4_1).f1))).setCell ⟨gb167, 2, none⟩ (.string ((rd_T33 l0 x4_1).f2))).heap[gb167]? = some (.cells #[.string ((rd_T33 l0 x4_1).f0), .string ((rd_T33 l0 x4_1).f1), .string ((rd_T33 l0 x4_1).f2)] 33 (0, 0))) := ⟨by (with_reducible repeat (first | refine blk_drewN ?_ _ | refine blk_drew ?_ | refine blk_alloc ?_ _)); refine blk_put (cs := #[.string ((rd_T33 l0 x4_1).f0), .string ((rd_T33 l0 x4_1).f1), .string (⟨#[]⟩ : ByteArray)]) ?_ 2 _ rfl; (with_reducible repeat (first | refine blk_drewN ?_ _ | refine blk_drew ?_ | refine blk_alloc ?_ _)); refine blk_put (cs := #[.string ((rd_T33 l0 x4_1).f0), .string (⟨#[]⟩ : ByteArray), .string (⟨#[]⟩ : ByteArray)]) ?_ 1 _ rfl; (with_reducible repeat (first | refine blk_drewN ?_ _ | refine blk_drew ?_ | refine blk_alloc ?_ _)); refine blk_put (cs := #[.string (⟨#[]⟩ : ByteArray), .string (⟨#[]⟩ : ByteArray), .string (⟨#[]⟩ : ByteArray)]) ?_ 0 _ rfl; (with_reducible repeat (first | refine blk_drewN ?_ _ | refine blk_drew ?_ | refine blk_alloc ?_ _)); exact BK167.out⟩
                          have n2_ : Aside0 (Below w.heap.size w (((w15.setCell ⟨gb167, 0, none⟩ (.string ((rd_T33 l0 x4_1).f0))).setCell ⟨gb167, 1, none⟩ (.string ((rd_T33 l0 x4_1).f1))).setCell ⟨gb167, 2, none⟩ (.string ((rd_T33 l0 x4_1).f2)))) := ⟨by repeat (first | (with_reducible first | exact HB.out | apply below_alloc | apply pw_below_drewN | apply below_drew1 | refine below_set ?_ GE167.out) | exact HB.out)⟩
                          (try clear HO_3)
                          (try clear BK167)
                          (try clear HB)
                          generalize (((w15.setCell ⟨gb167, 0, none⟩ (.string ((rd_T33 l0 x4_1).f0))).setCell ⟨gb167, 1, none⟩ (.string ((rd_T33 l0 x4_1).f1))).setCell ⟨gb167, 2, none⟩ (.string ((rd_T33 l0 x4_1).f2))) = w17 at n0_ n1_ n2_ ⊢
                          have HO_3 := n0_
                          have BK167 := n1_
                          have HB := n2_
                          clear n0_ n1_ n2_
                          have n0_ := Aside0.mk (Kd.R_drew HO_3.out)
                          have n1_ := Aside0.mk (blk_drew BK167.out)
                          have n2_ := Aside0.mk (below_drew1 HB.out)
                          clear HO_3
                          clear BK167
                          clear HB
                          have HO_3 := n0_
                          have BK167 := n1_
                          have HB := n2_
                          clear n0_ n1_ n2_
                          refine start_ (n := 27) (S := fun w' => w'.cell? ⟨gb167, 0, none⟩ = some (.string ((rd_T33 l0 x4_1).f0)) ∧ w'.cell? ⟨gb167, 1, none⟩ = some (.string ((rd_T33 l0 x4_1).f1)) ∧ w'.cell? ⟨gb167, 2, none⟩ = some (.string ((rd_T33 l0 x4_1).f2))) (ds := [22, 24, 26]) #[false, false, false, false, false, false, false, false, false, false, false, false, false, false, false, false, false, false, false, false, false, false, false, false, false, false, false] (by kernel_rfl) rfl rfl ⟨(blk_cell BK167.out 0).trans rfl, (blk_cell BK167.out 1).trans rfl, (blk_cell BK167.out 2).trans rfl⟩ (fun hHeld => ?_); refine with_tabW racewaylaw24_few.tab6 racewaylaw24_few.bits6 (fun HT_ HW_ => ?_)
                          generalize w17.drew = w18 at HO_3 BK167 HB hHeld ⊢
                          refine pure_ (i := 0) (N := some 20) (v := ?_) (a' := ?_) #[true, false, false, false, false, false, false, false, false, false, false, false, false, false, false, false, false, false, false, false, false, false, false, false, false, false, false] rfl rfl (any_of HT_.out (by kernel_rfl)) (fun _ _ _ h => h) (Or.inl ⟨by rfl, ?_⟩) ?_ ?_
                          rotate_left
                          · intro w'
                            go_simp
                            with_reducible rfl
                          rotate_left
                          · simp only [Act.put, List.setIfInBounds_toArray, List.set_cons_zero, List.set_cons_succ, i64_w, i32_w]
                            rfl
                          refine pure_ (i := 2) (N := some 22) (v := ?_) (a' := ?_) #[true, false, true, false, false, false, false, false, false, false, false, false, false, false, false, false, false, false, false, false, false, false, false, false, false, false, false] rfl rfl (any_of HT_.out (by kernel_rfl)) (fun _ _ _ h => h) (Or.inl ⟨by rfl, ?_⟩) ?_ ?_
                          rotate_left
                          · intro w'
                            go_simp
                            with_reducible rfl
                          rotate_left
                          · simp only [Act.put, List.setIfInBounds_toArray, List.set_cons_zero, List.set_cons_succ, i64_w, i32_w]
                            rfl
                          refine pure_ (i := 7) (N := some 27) (v := ?_) (a' := ?_) #[true, false, true, false, false, false, false, true, false, false, false, false, false, false, false, false, false, false, false, false, false, false, false, false, false, false, false] rfl rfl (any_of HT_.out (by kernel_rfl)) (fun _ _ _ h => h) (Or.inl ⟨by rfl, ?_⟩) ?_ ?_
                          rotate_left
                          · intro w'
                            go_simp
                            with_reducible rfl
                          rotate_left
                          · simp only [Act.put, List.setIfInBounds_toArray, List.set_cons_zero, List.set_cons_succ, i64_w, i32_w]
                            rfl
                          refine pure_ (i := 9) (N := some 29) (v := ?_) (a' := ?_) #[true, false, true, false, false, false, false, true, false, true, false, false, false, false, false, false, false, false, false, false, false, false, false, false, false, false, false] rfl rfl (any_of HT_.out (by kernel_rfl)) (fun _ _ _ h => h) (Or.inl ⟨by rfl, ?_⟩) ?_ ?_
                          rotate_left
                          · intro w'
                            go_simp
                            with_reducible rfl
                          rotate_left
                          · simp only [Act.put, List.setIfInBounds_toArray, List.set_cons_zero, List.set_cons_succ, i64_w, i32_w]
                            rfl
                          refine pure_ (i := 14) (N := some 34) (v := ?_) (a' := ?_) #[true, false, true, false, false, false, false, true, false, true, false, false, false, false, true, false, false, false, false, false, false, false, false, false, false, false, false] rfl rfl (any_of HT_.out (by kernel_rfl)) (fun _ _ _ h => h) (Or.inl ⟨by rfl, ?_⟩) ?_ ?_
                          rotate_left
                          · intro w'
                            go_simp
                            with_reducible rfl
                          rotate_left
                          · simp only [Act.put, List.setIfInBounds_toArray, List.set_cons_zero, List.set_cons_succ, i64_w, i32_w]
                            rfl
                          refine pure_ (i := 16) (N := some 36) (v := ?_) (a' := ?_) #[true, false, true, false, false, false, false, true, false, true, false, false, false, false, true, false, true, false, false, false, false, false, false, false, false, false, false] rfl rfl (any_of HT_.out (by kernel_rfl)) (fun _ _ _ h => h) (Or.inl ⟨by rfl, ?_⟩) ?_ ?_
                          rotate_left
                          · intro w'
                            go_simp
                            with_reducible rfl
                          rotate_left
                          · simp only [Act.put, List.setIfInBounds_toArray, List.set_cons_zero, List.set_cons_succ, i64_w, i32_w]
                            rfl
                          refine take_ (i := 1) (N := some 21) (v := ?_) (a' := ?_) #[true, true, true, false, false, false, false, true, false, true, false, false, false, false, true, false, true, false, false, false, false, false, false, false, false, false, false] rfl rfl (take_ofW HT_.out HW_.out (by kernel_rfl)) (fun _ _ _ h => h) (Or.inl ⟨by rfl, ?_⟩) hHeld ?_ ?_
                          rotate_left
                          · rintro w' ⟨s0, s1, s2⟩
                            go_simp
                            with_reducible rfl
                          rotate_left
                          · simp only [Act.put, List.setIfInBounds_toArray, List.set_cons_zero, List.set_cons_succ, i64_w, i32_w]
                            rfl
                          refine take_ (i := 3) (N := some 23) (v := ?_) (a' := ?_) #[true, true, true, true, false, false, false, true, false, true, false, false, false, false, true, false, true, false, false, false, false, false, false, false, false, false, false] rfl rfl (take_ofW HT_.out HW_.out (by kernel_rfl)) (fun _ _ _ h => h) (Or.inl ⟨by rfl, ?_⟩) hHeld ?_ ?_
                          rotate_left
                          · rintro w' ⟨s0, s1, s2⟩
                            go_simp
                            with_reducible rfl
                          rotate_left
                          · simp only [Act.put, List.setIfInBounds_toArray, List.set_cons_zero, List.set_cons_succ, i64_w, i32_w]
                            rfl
                          refine pure_ (i := 4) (N := some 24) (v := ?_) (a' := ?_) #[true, true, true, true, true, false, false, true, false, true, false, false, false, false, true, false, true, false, false, false, false, false, false, false, false, false, false] rfl rfl (any_of HT_.out (by kernel_rfl)) (fun _ _ _ h => h) (Or.inl ⟨by rfl, ?_⟩) ?_ ?_
                          rotate_left
                          · intro w'
                            go_simp
                            with_reducible rfl
                          rotate_left
                          · simp only [Act.put, List.setIfInBounds_toArray, List.set_cons_zero, List.set_cons_succ, i64_w, i32_w]
                            rfl
                          refine pure_ (i := 5) (N := some 25) (v := ?_) (a' := ?_) #[true, true, true, true, true, true, false, true, false, true, false, false, false, false, true, false, true, false, false, false, false, false, false, false, false, false, false] rfl rfl (any_of HT_.out (by kernel_rfl)) (fun _ _ _ h => h) (Or.inl ⟨by rfl, ?_⟩) ?_ ?_
                          rotate_left
                          · intro w'
                            go_simp
                            with_reducible rfl
                          rotate_left
                          · simp only [Act.put, List.setIfInBounds_toArray, List.set_cons_zero, List.set_cons_succ, i64_w, i32_w]
                            rfl
                          refine pure_ (i := 6) (N := some 26) (v := ?_) (a' := ?_) #[true, true, true, true, true, true, true, true, false, true, false, false, false, false, true, false, true, false, false, false, false, false, false, false, false, false, false] rfl rfl (any_of HT_.out (by kernel_rfl)) (fun _ _ _ h => h) (Or.inl ⟨by rfl, ?_⟩) ?_ ?_
                          rotate_left
                          · intro w'
                            go_simp
                            with_reducible rfl
                          rotate_left
                          · simp only [Act.put, List.setIfInBounds_toArray, List.set_cons_zero, List.set_cons_succ, i64_w, i32_w]
                            rfl
                          refine take_ (i := 8) (N := some 28) (v := ?_) (a' := ?_) #[true, true, true, true, true, true, true, true, true, true, false, false, false, false, true, false, true, false, false, false, false, false, false, false, false, false, false] rfl rfl (take_ofW HT_.out HW_.out (by kernel_rfl)) (fun _ _ _ h => h) (Or.inl ⟨by rfl, ?_⟩) hHeld ?_ ?_
                          rotate_left
                          · rintro w' ⟨s0, s1, s2⟩
                            go_simp
                            with_reducible rfl
                          rotate_left
                          · simp only [Act.put, List.setIfInBounds_toArray, List.set_cons_zero, List.set_cons_succ, i64_w, i32_w]
                            rfl
                          refine take_ (i := 10) (N := some 30) (v := ?_) (a' := ?_) #[true, true, true, true, true, true, true, true, true, true, true, false, false, false, true, false, true, false, false, false, false, false, false, false, false, false, false] rfl rfl (take_ofW HT_.out HW_.out (by kernel_rfl)) (fun _ _ _ h => h) (Or.inl ⟨by rfl, ?_⟩) hHeld ?_ ?_
                          rotate_left
                          · rintro w' ⟨s0, s1, s2⟩
                            go_simp
                            with_reducible rfl
                          rotate_left
                          · simp only [Act.put, List.setIfInBounds_toArray, List.set_cons_zero, List.set_cons_succ, i64_w, i32_w]
                            rfl
                          refine pure_ (i := 11) (N := some 31) (v := ?_) (a' := ?_) #[true, true, true, true, true, true, true, true, true, true, true, true, false, false, true, false, true, false, false, false, false, false, false, false, false, false, false] rfl rfl (any_of HT_.out (by kernel_rfl)) (fun _ _ _ h => h) (Or.inl ⟨by rfl, ?_⟩) ?_ ?_
                          rotate_left
                          · intro w'
                            go_simp
                            with_reducible rfl
                          rotate_left
                          · simp only [Act.put, List.setIfInBounds_toArray, List.set_cons_zero, List.set_cons_succ, i64_w, i32_w]
                            rfl
                          refine pure_ (i := 12) (N := some 32) (v := ?_) (a' := ?_) #[true, true, true, true, true, true, true, true, true, true, true, true, true, false, true, false, true, false, false, false, false, false, false, false, false, false, false] rfl rfl (any_of HT_.out (by kernel_rfl)) (fun _ _ _ h => h) (Or.inl ⟨by rfl, ?_⟩) ?_ ?_
                          rotate_left
                          · intro w'
                            go_simp
                            with_reducible rfl
                          rotate_left
                          · simp only [Act.put, List.setIfInBounds_toArray, List.set_cons_zero, List.set_cons_succ, i64_w, i32_w]
                            rfl
                          refine pure_ (i := 13) (N := some 33) (v := ?_) (a' := ?_) #[true, true, true, true, true, true, true, true, true, true, true, true, true, true, true, false, true, false, false, false, false, false, false, false, false, false, false] rfl rfl (any_of HT_.out (by kernel_rfl)) (fun _ _ _ h => h) (Or.inl ⟨by rfl, ?_⟩) ?_ ?_
                          rotate_left
                          · intro w'
                            go_simp
                            with_reducible rfl
                          rotate_left
                          · simp only [Act.put, List.setIfInBounds_toArray, List.set_cons_zero, List.set_cons_succ, i64_w, i32_w]
                            rfl
                          refine take_ (i := 15) (N := some 35) (v := ?_) (a' := ?_) #[true, true, true, true, true, true, true, true, true, true, true, true, true, true, true, true, true, false, false, false, false, false, false, false, false, false, false] rfl rfl (take_ofW HT_.out HW_.out (by kernel_rfl)) (fun _ _ _ h => h) (Or.inl ⟨by rfl, ?_⟩) hHeld ?_ ?_
                          rotate_left
                          · rintro w' ⟨s0, s1, s2⟩
                            go_simp
                            with_reducible rfl
                          rotate_left
                          · simp only [Act.put, List.setIfInBounds_toArray, List.set_cons_zero, List.set_cons_succ, i64_w, i32_w]
                            rfl
                          refine take_ (i := 17) (N := some 37) (v := ?_) (a' := ?_) #[true, true, true, true, true, true, true, true, true, true, true, true, true, true, true, true, true, true, false, false, false, false, false, false, false, false, false] rfl rfl (take_ofW HT_.out HW_.out (by kernel_rfl)) (fun _ _ _ h => h) (Or.inl ⟨by rfl, ?_⟩) hHeld ?_ ?_
                          rotate_left
                          · rintro w' ⟨s0, s1, s2⟩
                            go_simp
                            with_reducible rfl
                          rotate_left
                          · simp only [Act.put, List.setIfInBounds_toArray, List.set_cons_zero, List.set_cons_succ, i64_w, i32_w]
                            rfl
                          refine pure_ (i := 18) (N := some 38) (v := ?_) (a' := ?_) #[true, true, true, true, true, true, true, true, true, true, true, true, true, true, true, true, true, true, true, false, false, false, false, false, false, false, false] rfl rfl (any_of HT_.out (by kernel_rfl)) (fun _ _ _ h => h) (Or.inl ⟨by rfl, ?_⟩) ?_ ?_
                          rotate_left
                          · intro w'
                            go_simp
                            with_reducible rfl
                          rotate_left
                          · simp only [Act.put, List.setIfInBounds_toArray, List.set_cons_zero, List.set_cons_succ, i64_w, i32_w]
                            rfl
                          refine pure_ (i := 19) (N := some 39) (v := ?_) (a' := ?_) #[true, true, true, true, true, true, true, true, true, true, true, true, true, true, true, true, true, true, true, true, false, false, false, false, false, false, false] rfl rfl (any_of HT_.out (by kernel_rfl)) (fun _ _ _ h => h) (Or.inl ⟨by rfl, ?_⟩) ?_ ?_
                          rotate_left
                          · intro w'
                            go_simp
                            with_reducible rfl
                          rotate_left
                          · simp only [Act.put, List.setIfInBounds_toArray, List.set_cons_zero, List.set_cons_succ, i64_w, i32_w]
                            rfl
                          refine pure_ (i := 20) (N := some 40) (v := ?_) (a' := ?_) #[true, true, true, true, true, true, true, true, true, true, true, true, true, true, true, true, true, true, true, true, true, false, false, false, false, false, false] rfl rfl (any_of HT_.out (by kernel_rfl)) (fun _ _ _ h => h) (Or.inl ⟨by rfl, ?_⟩) ?_ ?_
                          rotate_left
                          · intro w'
                            go_simp
                            with_reducible rfl
                          rotate_left
                          · simp only [Act.put, List.setIfInBounds_toArray, List.set_cons_zero, List.set_cons_succ, i64_w, i32_w]
                            rfl
                          refine pure_ (i := 21) (N := some 41) (v := ?_) (a' := ?_) #[true, true, true, true, true, true, true, true, true, true, true, true, true, true, true, true, true, true, true, true, true, true, false, false, false, false, false] rfl rfl (any_of HT_.out (by kernel_rfl)) (fun _ _ _ h => h) (Or.inl ⟨by rfl, ?_⟩) ?_ ?_
                          rotate_left
                          · intro w'
                            go_simp
                            with_reducible rfl
                          rotate_left
                          · simp only [Act.put, List.setIfInBounds_toArray, List.set_cons_zero, List.set_cons_succ, i64_w, i32_w]
                            rfl
                          refine last_ (i := 22) (N := none) #[true, true, true, true, true, true, true, true, true, true, true, true, true, true, true, true, true, true, true, true, true, true, true, false, false, false, false] rfl rfl (one_of HT_.out (by kernel_rfl)) (by decide) (fun K hK => ?_)
                          have hs19 : w18.cell? ⟨gb167, 0, none⟩ = some (.string ((rd_T33 l0 x4_1).f0)) := (blk_cell BK167.out 0).trans rfl
                          have hfs19 := blk_frozen BK167.out 0
                          refine skip_ (w1 := ?_) (by rfl) rfl ?_ ?_
                          rotate_left
                          · go_simp
                            rfl
                          refine hK.out _ _ ?_
                          clear hK K
                          refine pure_ (i := 23) (N := some 42) (v := ?_) (a' := ?_) #[true, true, true, true, true, true, true, true, true, true, true, true, true, true, true, true, true, true, true, true, true, true, true, true, false, false, false] rfl rfl (any_of HT_.out (by kernel_rfl)) (fun _ _ _ h => h) (Or.inl ⟨by rfl, ?_⟩) ?_ ?_
                          rotate_left
                          · intro w'
                            go_simp
                            with_reducible rfl
                          rotate_left
                          · simp only [Act.put, List.setIfInBounds_toArray, List.set_cons_zero, List.set_cons_succ, i64_w, i32_w]
                            rfl
                          refine last_ (i := 24) (N := none) #[true, true, true, true, true, true, true, true, true, true, true, true, true, true, true, true, true, true, true, true, true, true, true, true, true, false, false] rfl rfl (one_of HT_.out (by kernel_rfl)) (by decide) (fun K hK => ?_)
                          have hs20 : w18.cell? ⟨gb167, 1, none⟩ = some (.string ((rd_T33 l0 x4_1).f1)) := (blk_cell BK167.out 1).trans rfl
                          have hfs20 := blk_frozen BK167.out 1
                          refine skip_ (w1 := ?_) (by rfl) rfl ?_ ?_
                          rotate_left
                          · go_simp
                            rfl
                          refine hK.out _ _ ?_
                          clear hK K
                          refine pure_ (i := 25) (N := some 43) (v := ?_) (a' := ?_) #[true, true, true, true, true, true, true, true, true, true, true, true, true, true, true, true, true, true, true, true, true, true, true, true, true, true, false] rfl rfl (any_of HT_.out (by kernel_rfl)) (fun _ _ _ h => h) (Or.inl ⟨by rfl, ?_⟩) ?_ ?_
                          rotate_left
                          · intro w'
                            go_simp
                            with_reducible rfl
                          rotate_left
                          · simp only [Act.put, List.setIfInBounds_toArray, List.set_cons_zero, List.set_cons_succ, i64_w, i32_w]
                            rfl
                          refine last_ (i := 26) (N := none) #[true, true, true, true, true, true, true, true, true, true, true, true, true, true, true, true, true, true, true, true, true, true, true, true, true, true, true] rfl rfl (one_of HT_.out (by kernel_rfl)) (by decide) (fun K hK => ?_)
                          have hs21 : w18.cell? ⟨gb167, 2, none⟩ = some (.string ((rd_T33 l0 x4_1).f2)) := (blk_cell BK167.out 2).trans rfl
                          have hfs21 := blk_frozen BK167.out 2
                          refine skip_ (w1 := ?_) (by rfl) rfl ?_ ?_
                          rotate_left
                          · go_simp
                            rfl
                          refine hK.out _ _ ?_
                          clear hK K
                          refine done_ (done_of HT_.out (by kernel_rfl)) ?_
                          have hcz22_0 : w18.cell? ⟨gb167, 0, none⟩ = some (.string ((rd_T33 l0 x4_1).f0)) := (blk_cell BK167.out 0).trans rfl
                          have hcz22_1 : w18.cell? ⟨gb167, 1, none⟩ = some (.string ((rd_T33 l0 x4_1).f1)) := (blk_cell BK167.out 1).trans rfl
                          have hcz22_2 : w18.cell? ⟨gb167, 2, none⟩ = some (.string ((rd_T33 l0 x4_1).f2)) := (blk_cell BK167.out 2).trans rfl
                          have hfz22_0 := blk_frozen BK167.out 0
                          have hfz22_1 := blk_frozen BK167.out 1
                          have hfz22_2 := blk_frozen BK167.out 2
                          try go_wp2_with (first | ((with_reducible refine gate_builtin (b := .append) (xs := #[.tmp 44, .tmp 46]) rfl ?_); at_builtin; refine Kd.R_append k33 (w0 := w) w.heap.size rfl (.tmp 44) (.tmp 46) 26 33 (.agg #[(.string ⟨#[]⟩), (.string ⟨#[]⟩), (.string ⟨#[]⟩)]) 48 rfl Tryd.underlying26 info33 rfl (by decide) (by omega) u3 x3_1 (⟨((rd_T33 l0 x4_1).f0).extract 0 ((ji5) : Int).toNat, ((rd_T33 l0 x4_1).f1).extract 0 ((ji8) : Int).toNat, ((rd_T33 l0 x4_1).f2).extract 0 ((ji11) : Int).toNat⟩ : S33) [.string (((rd_T33 l0 x4_1).f0).extract 0 ((ji5) : Int).toNat), .string (((rd_T33 l0 x4_1).f1).extract 0 ((ji8) : Int).toNat), .string (((rd_T33 l0 x4_1).f2).extract 0 ((ji11) : Int).toNat)] (fun k_ => k_ ≠ gb167) (fun _ => False) rfl (by first | (go_simp; done) | (go_simp; rfl)) ?aP (fun _ hk => hk.elim) ?aF ?aO ?aB ?aS ?aL ?_; (case aP => exact k33_mkM _ _ _ (⟨((rd_T33 l0 x4_1).f0).extract 0 ((ji5) : Int).toNat, ((rd_T33 l0 x4_1).f1).extract 0 ((ji8) : Int).toNat, ((rd_T33 l0 x4_1).f2).extract 0 ((ji11) : Int).toNat⟩ : S33)); (case aB => exact (by repeat (first | (with_reducible first | exact HB.out | apply below_alloc | apply pw_below_drewN | apply below_drew1 | refine below_set ?_ GE167.out) | exact HB.out))); (case aF => exact (fun k_ hk => Kd.freshB (g := gb167) (o := .cells #[.string (((rd_T33 l0 x4_1).f0).extract 0 ((ji5) : Int).toNat), .string (((rd_T33 l0 x4_1).f1).extract 0 ((ji8) : Int).toNat), .string (((rd_T33 l0 x4_1).f2).extract 0 ((ji11) : Int).toNat)] 33 (0, 0)) (by (with_reducible repeat (first | refine blk_drewN ?_ _ | refine blk_drew ?_ | refine blk_alloc ?_ _)); refine blk_put (cs := #[.string (((rd_T33 l0 x4_1).f0).extract 0 ((ji5) : Int).toNat), .string (((rd_T33 l0 x4_1).f1).extract 0 ((ji8) : Int).toNat), .string ((rd_T33 l0 x4_1).f2)]) ?_ 2 _ rfl; (with_reducible repeat (first | refine blk_drewN ?_ _ | refine blk_drew ?_ | refine blk_alloc ?_ _)); refine blk_put (cs := #[.string (((rd_T33 l0 x4_1).f0).extract 0 ((ji5) : Int).toNat), .string ((rd_T33 l0 x4_1).f1), .string ((rd_T33 l0 x4_1).f2)]) ?_ 1 _ rfl; (with_reducible repeat (first | refine blk_drewN ?_ _ | refine blk_drew ?_ | refine blk_alloc ?_ _)); refine blk_put (cs := #[.string ((rd_T33 l0 x4_1).f0), .string ((rd_T33 l0 x4_1).f1), .string ((rd_T33 l0 x4_1).f2)]) ?_ 0 _ rfl; (with_reducible repeat (first | refine blk_drewN ?_ _ | refine blk_drew ?_ | refine blk_alloc ?_ _)); exact BK167.out) k_ hk)); (case aO => exact (by (with_reducible repeat (first | apply Kd.R_alloc | apply Kd.R_drewN | apply Kd.R_drew)); exact Kd.R_mono (Kd.R_far (p := ⟨gb167, 2, none⟩) (Kd.R_far (p := ⟨gb167, 1, none⟩) (Kd.R_far (p := ⟨gb167, 0, none⟩) (Kd.R_mono HO_3.out (fun k_ hk => (⟨hk, hk⟩ : _ ∧ k_ ≠ gb167))) (fun _ hk => hk.2) (.string (((rd_T33 l0 x4_1).f0).extract 0 ((ji5) : Int).toNat))) (fun _ hk => hk.2) (.string (((rd_T33 l0 x4_1).f1).extract 0 ((ji8) : Int).toNat))) (fun _ hk => hk.2) (.string (((rd_T33 l0 x4_1).f2).extract 0 ((ji11) : Int).toNat))) (fun _ hk => hk.1))); (case aS => exact (below_size (by repeat (first | (with_reducible first | exact HB.out | apply below_alloc | apply pw_below_drewN | apply below_drew1 | refine below_set ?_ GE167.out) | exact HB.out)))); (case aL => have := LMc14.out; omega); intro v169 w23 ho hb hg hat; rw [← Ny168.out] at ho; have n0_ := Aside0.mk (blk_grown (g := gb167) (o := .cells #[.string (((rd_T33 l0 x4_1).f0).extract 0 ((ji5) : Int).toNat), .string (((rd_T33 l0 x4_1).f1).extract 0 ((ji8) : Int).toNat), .string (((rd_T33 l0 x4_1).f2).extract 0 ((ji11) : Int).toNat)] 33 (0, 0)) (by (with_reducible repeat (first | refine blk_drewN ?_ _ | refine blk_drew ?_ | refine blk_alloc ?_ _)); refine blk_put (cs := #[.string (((rd_T33 l0 x4_1).f0).extract 0 ((ji5) : Int).toNat), .string (((rd_T33 l0 x4_1).f1).extract 0 ((ji8) : Int).toNat), .string ((rd_T33 l0 x4_1).f2)]) ?_ 2 _ rfl; (with_reducible repeat (first | refine blk_drewN ?_ _ | refine blk_drew ?_ | refine blk_alloc ?_ _)); refine blk_put (cs := #[.string (((rd_T33 l0 x4_1).f0).extract 0 ((ji5) : Int).toNat), .string ((rd_T33 l0 x4_1).f1), .string ((rd_T33 l0 x4_1).f2)]) ?_ 1 _ rfl; (with_reducible repeat (first | refine blk_drewN ?_ _ | refine blk_drew ?_ | refine blk_alloc ?_ _)); refine blk_put (cs := #[.string ((rd_T33 l0 x4_1).f0), .string ((rd_T33 l0 x4_1).f1), .string ((rd_T33 l0 x4_1).f2)]) ?_ 0 _ rfl; (with_reducible repeat (first | refine blk_drewN ?_ _ | refine blk_drew ?_ | refine blk_alloc ?_ _)); exact BK167.out) hg (Kd.R_away HO_3.out (fun _ hk => hk))); have n1_ := Aside0.mk (hb); have n2_ := Aside0.mk (ho); clear BK167; clear HB; clear HO_3; have BK167 := n0_; have HB := n1_; have HO170 := n2_; clear n0_ n1_ n2_; clear ho hb hg hat))
                          go_roundg k1
                          case measure => have := HK1.out; omega
                          case rel => exact ⟨(y168), (wrap64 (x4_1 + 1)), (by first | rfl | (simp; done) | (simp; decide +kernel) | (simp [*]; done)), (by first | exact H' | (subst_vars; exact H')), ⟨by have := HK1.out; omega⟩, ⟨by (with_reducible repeat (first | apply Kd.R_alloc | apply Kd.R_drewN | apply Kd.R_drew)); exact Kd.R_mono HO170.out (fun _ hk => trivial)⟩, ⟨by repeat (first | (with_reducible first | exact HB.out | apply below_alloc | apply pw_below_drewN | apply below_drew1 | refine below_set ?_ GE167.out) | exact HB.out)⟩⟩
                        · rw [if_neg c14] at H
                          exact absurd H (by simp)
                      · rw [if_neg c13] at H
                        exact absurd H (by simp)
                    · rw [if_neg c12] at H
                      exact absurd H (by simp)
                  · rw [if_neg c10] at H
                    exact absurd H (by simp)
                · rw [if_neg c9] at H
                  exact absurd H (by simp)
              · rw [if_neg c7] at H
                exact absurd H (by simp)
            · rw [if_neg c6] at H
              exact absurd H (by simp)
          · rw [if_neg c4] at H
            exact absurd H (by simp)
        · rw [if_neg c3] at H
          have c3b0 : decide (x4_1 < 14) = false := decide_eq_false c3
          clear c3
          obtain rfl := Option.some.inj H
          go_wp2
          go_ret
          exact ⟨_, by first | rfl | (simp [errW_none, errW_some] <;> rfl) | (simp [*, errW_none, errW_some] <;> rfl), by (with_reducible repeat (first | apply Kd.R_alloc | apply Kd.R_drewN | apply Kd.R_drew)); exact HO_3.out, by repeat (first | (with_reducible first | exact HB.out | apply below_alloc | apply pw_below_drewN | apply below_drew1) | exact HB.out)⟩
      · rw [if_neg c2] at H
        have c2b0 : decide (x4_1 < (l0.length : Int)) = false := decide_eq_false c2
        clear c2
        obtain rfl := Option.some.inj H
        go_wp2
        go_ret
        exact ⟨_, by first | rfl | (simp [errW_none, errW_some] <;> rfl) | (simp [*, errW_none, errW_some] <;> rfl), by (with_reducible repeat (first | apply Kd.R_alloc | apply Kd.R_drewN | apply Kd.R_drew)); exact HO_3.out, by repeat (first | (with_reducible first | exact HB.out | apply below_alloc | apply pw_below_drewN | apply below_drew1) | exact HB.out)⟩

end Go.Proofs.YtolpefnedpgaaaaDoor.X

namespace Go.Proofs.YtolpefnedpgaaaaDoor.X
open Go.RowKit Go.Proofs.YtolpefnedpgaaaaDoorW.PrintWords Go.Proofs.YtolpefnedpgaaaaDoorW.PrintMore
set_option linter.unusedVariables false
set_option linter.unusedSimpArgs false
def cutS (x : S33) : S33 :=
  ⟨x.f0.extract 0 ((mn (x.f0.size : Int) 100) : Int).toNat, x.f1.extract 0 ((mn (x.f1.size : Int) 100) : Int).toNat, x.f2.extract 0 ((mn (x.f2.size : Int) 200) : Int).toNat⟩
def fewB (l : List S33) : List S33 := (l.take 14).map cutS
theorem cutB_le (s : ByteArray) (n : Nat) : (s.extract 0 ((mn (s.size : Int) (n : Int)) : Int).toNat).size ≤ n := by
  have := cutB_size s n
  unfold cutB at this
  omega
theorem cutS_size (x : S33) : (cutS x).f0.size ≤ 100 ∧ (cutS x).f1.size ≤ 100 ∧ (cutS x).f2.size ≤ 200 := ⟨cutB_le _ 100, cutB_le _ 100, cutB_le _ 200⟩
theorem fewB_length (l : List S33) : (fewB l).length = min 14 l.length := by simp [fewB]
def small (L : List S33) : Prop := L.length ≤ 14 ∧ ∀ x ∈ L, x.f0.size ≤ 100 ∧ x.f1.size ≤ 100 ∧ x.f2.size ≤ 200
theorem fewB_small (l : List S33) : small (fewB l) := by
  refine ⟨by rw [fewB_length]; omega, fun x hx => ?_⟩
  unfold fewB at hx
  obtain ⟨y, _, rfl⟩ := List.mem_map.1 hx
  exact cutS_size y
theorem small_at {L : List S33} (h : small L) (i : Nat) (hi : i < L.length) : (L.getD i z33).f0.size ≤ 100 ∧ (L.getD i z33).f1.size ≤ 100 ∧ (L.getD i z33).f2.size ≤ 200 := by
  apply h.2
  simp only [List.getD, List.getElem?_eq_getElem hi, Option.getD_some]
  exact List.getElem_mem hi
theorem rd33 (l : List S33) (i : Nat) : rd_T33 l (i : Int) = l.getD i z33 := by unfold rd_T33; rw [Int.toNat_natCast]
theorem fewB_at (l : List S33) (i : Nat) (h1 : i < l.length) (h2 : i < 14) : (fewB l).take (i + 1) = (fewB l).take i ++ [cutS (l.getD i z33)] := by
  rw [List.take_succ_eq_append_getElem (by rw [fewB_length]; omega)]
  congr 2
  unfold fewB
  simp [List.getD, h1]
theorem few_l0 (l : List S33) : ∀ (d k i : Nat), i + d = min 14 l.length → d < k → racewaylaw24_few.l0 k l ((fewB l).take i) (i : Int) = some (fewB l) := by
  intro d
  induction d with
  | zero =>
    intro k i h hk
    obtain ⟨k, rfl⟩ : ∃ m, k = m + 1 := ⟨k - 1, by omega⟩
    simp only [racewaylaw24_few.l0]
    rw [List.take_of_length_le (by rw [fewB_length]; omega)]
    by_cases h1 : (i : Int) < (l.length : Int)
    · rw [if_pos h1, if_neg (by omega)]
    · rw [if_neg h1]
  | succ d ih =>
    intro k i h hk
    obtain ⟨k, rfl⟩ : ∃ m, k = m + 1 := ⟨k - 1, by omega⟩
    simp only [racewaylaw24_few.l0]
    have hm : ∀ (s : ByteArray) (n : Nat), 0 ≤ mn (s.size : Int) (n : Int) ∧ mn (s.size : Int) (n : Int) ≤ (s.size : Int) := by
      intro s n
      refine ⟨?_, mn_le_left _ _⟩
      rcases mn_cases (s.size : Int) (n : Int) with h | h <;> rw [h] <;> omega
    have ha := fun s => hm s 100
    have hb := fun s => hm s 200
    rw [show ((100 : Nat) : Int) = 100 from rfl] at ha
    rw [show ((200 : Nat) : Int) = 200 from rfl] at hb
    rw [if_pos (by omega), if_pos (by omega), if_pos (by omega), rd33, if_pos (ha _).1, if_pos (ha _).2, if_pos (ha _).1, if_pos (ha _).2, if_pos (hb _).1, if_pos (hb _).2, if_pos (by rw [List.length_take, fewB_length]; omega)]
    have e := fewB_at l i (by omega) (by omega)
    unfold cutS at e
    rw [← e, w64 (by omega) (by omega), show ((i : Int) + 1) = ((i + 1 : Nat) : Int) by omega]
    exact ih k (i + 1) (by omega) (by omega)
theorem few_eq (l : List S33) (k : Nat) (hk : 20 < k) : racewaylaw24_few.f k l = some (fewB l) := by
  unfold racewaylaw24_few.f
  have := few_l0 l (min 14 l.length) k 0 (by omega) (by omega)
  rw [List.take_zero] at this
  exact this
end Go.Proofs.YtolpefnedpgaaaaDoor.X

namespace Go.Proofs.YtolpefnedpgaaaaDoor.X
open Go.RowKit Go.Proofs.YtolpefnedpgaaaaDoorW.PrintWords Go.Proofs.YtolpefnedpgaaaaDoorW.PrintLast Go.Proofs.YtolpefnedpgaaaaDoorW.PrintMore
set_option linter.unusedVariables false
set_option linter.unusedSimpArgs false
def named (nm : ByteArray) (x : S33) : Bool := x.f0.toList == nm.toList
theorem any_take_succ (p : S33 → Bool) (l : List S33) (k : Nat) (h : k < l.length) : (l.take (k + 1)).any p = ((l.take k).any p || p (l.getD k z33)) := by
  rw [List.take_succ_eq_append_getElem h, List.any_append]
  simp [List.getD, h]
theorem any_take_true (p : S33 → Bool) (l : List S33) (k n : Nat) (h : k < l.length) (hkn : k < n) (hp : p (l.getD k z33) = true) : (l.take n).any p = true := by
  rw [List.any_eq_true]
  refine ⟨l.getD k z33, ?_, hp⟩
  simp only [List.getD, List.getElem?_eq_getElem h, Option.getD_some]
  rw [List.mem_take_iff_getElem]
  exact ⟨k, by omega, rfl⟩
set_option maxHeartbeats 1000000 in
set_option maxRecDepth 100000 in
theorem why1_calls (x : S33) (B : Nat) (nm : ByteArray) (w : World) (hb : w.cell? ⟨B, 0, none⟩ = some (.string nm)) :
    Calls Tryd.prog 84 #[.agg (vA x).toArray, .pointer (some ⟨B, 0, none⟩)] w fun e w' => e = .returned (.bool (named nm x)) ∧ Below w.heap.size w w' := by
  have hlt := World.block_lt_of_cell? w _ hb
  have hb1 : ∀ o, (w.alloc o).cell? ⟨B, 0, none⟩ = some (.string nm) := fun o => (((Below.refl _ _).alloc (Nat.le_refl _) o).cell hlt).trans hb
  unfold vA
  go_enter Tryd.func84, Tryd.ntmps84
  go_wp2
  go_ret
  exact ⟨rfl, ((Below.refl _ _).alloc (Nat.le_refl _) _)⟩
set_option maxHeartbeats 2000000 in
set_option maxRecDepth 100000 in
theorem idxA_calls (A : Option Addr) (n c : Nat) (l : List S33) (B : Nat) (nm : ByteArray) (w : World) (hr : Kd.C k33 w A l.length l) (hn : n ≤ l.length) (hl : l.length ≤ 1000) (hb : w.cell? ⟨B, 0, none⟩ = some (.string nm)) :
    Calls Tryd.prog 103 #[.slice A n c, .func (.func 84) #[] #[.pointer (some ⟨B, 0, none⟩)]] w fun e w' => (∃ i : Int, e = .returned (.int .i64 i) ∧ decide (0 ≤ i) = (l.take n).any (named nm)) ∧ Below w.heap.size w w' := by
  have hlt := World.block_lt_of_cell? w _ hb
  have eg : ∀ args w, (callFunc 84 args).run Tryd.prog w = .ok (.enter 84 args) w := fun args w => enters_ Tryd.func84 (by kernel_rfl) (by kernel_rfl) args w
  have HR := Lib.hid hr
  have HB := Lib.hid hb
  clear hr hb
  go_enter Tryd.func103, Tryd.ntmps103
  go_wp2
  go_loopw [5, 8] (fun _ i wr => ∃ k : Nat, i = .int .i64 k ∧ k ≤ n ∧ Hid ((l.take k).any (named nm) = false) ∧ Below w.heap.size w wr) (fun _ i _ => (n - intOf i).toNat)
  case atStart => exact ⟨0, rfl, Nat.zero_le _, Lib.hid rfl, Below.refl _ _⟩
  case round =>
    obtain ⟨k, rfl, hk, hany, hbel⟩ := hrel
    by_cases hkn : k < n
    · have hd : decide ((k : Int) < (n : Int)) = true := decide_eq_true (by omega)
      obtain ⟨ad, e, x0, x1, x2⟩ := at_T33 HR.out (k : Int) (by omega) (by omega)
      subst e
      simp only [Int.toNat_natCast] at x0 x1 x2
      have hx : Hid (l.getD k z33 = rd_T33 l (k : Int)) := Lib.hid rfl
      generalize rd_T33 l (k : Int) = x at x0 x1 x2 hx
      replace x0 := (hbel.cell (World.block_lt_of_cell? w _ x0)).trans x0
      replace x1 := (hbel.cell (World.block_lt_of_cell? w _ x1)).trans x1
      replace x2 := (hbel.cell (World.block_lt_of_cell? w _ x2)).trans x2
      have hbr := (hbel.cell hlt).trans HB.out
      have HBR := Lib.hid hbr
      clear hbr
      cases hq : named nm x with
      | true =>
        go_wp2_with (go_at_fn 84; refine (why1_calls x B nm _ HBR.out).mono ?_; rw [hq]; rintro e w1 ⟨rfl, hb1⟩)
        go_ret
        exact ⟨⟨(k : Int), rfl, by rw [any_take_true (named nm) l k n (by omega) hkn (by rw [hx.out]; exact hq)]; simp⟩, below_step hbel hb1⟩
      | false =>
        go_wp2_with (go_at_fn 84; refine (why1_calls x B nm _ HBR.out).mono ?_; rw [hq]; rintro e w1 ⟨rfl, hb1⟩)
        go_roundw
        case rel => exact ⟨k + 1, by go_num, by omega, Lib.hid (by rw [any_take_succ _ _ _ (by omega), hany.out, hx.out, hq]; rfl), below_step hbel hb1⟩
        case measure => simp [intOf]; omega
    · have hd : decide ((k : Int) < (n : Int)) = false := decide_eq_false (by omega)
      have hkk : k = n := by omega
      go_wp2
      go_ret
      exact ⟨⟨-1, rfl, by rw [← hkk, hany.out]; rfl⟩, hbel⟩
set_option maxHeartbeats 1000000 in
set_option maxRecDepth 100000 in
theorem containsA_calls (A : Option Addr) (n c : Nat) (l : List S33) (B : Nat) (nm : ByteArray) (w : World) (hr : Kd.C k33 w A l.length l) (hn : n ≤ l.length) (hl : l.length ≤ 1000) (hb : w.cell? ⟨B, 0, none⟩ = some (.string nm)) :
    Calls Tryd.prog 83 #[.slice A n c, .func (.func 84) #[] #[.pointer (some ⟨B, 0, none⟩)]] w fun e w' => e = .returned (.bool ((l.take n).any (named nm))) ∧ Below w.heap.size w w' := by
  have HR := Lib.hid hr
  have HB := Lib.hid hb
  clear hr hb
  go_enter Tryd.func83, Tryd.ntmps83
  go_wp2_with (go_at_call 103; refine (idxA_calls A n c l B nm _ HR.out hn hl HB.out).mono ?_; rintro e w1 ⟨⟨i, rfl, hi⟩, hb1⟩)
  go_ret
  exact ⟨by rw [← hi]; rfl, hb1⟩
/-- Why an attribute may not be. -/
def whyAt (k : Nat) (x : S33) (dup : Bool) : Option Int :=
  (attribute_Type.f k x.f1).bind fun p => (attribute_Name.f k x.f0).bind fun b =>
    if b = false then some 2 else if dup = true then some 2 else if p.2 = false then some 5 else if (x.f2.size : Int) < 1 then some 3 else if 128 < (x.f2.size : Int) then some 3 else
      if p.1 = 2 then (attribute_Number.f k x.f2).bind fun n => if n = true then some 0 else some 18 else some 0
def attribute_why.f (k : Nat) (l : List S33) (i : Int) : Option Int :=
  if 0 ≤ i ∧ i < l.length ∧ l.length ≤ 1000 then whyAt k (rd_T33 l i) ((l.take i.toNat).any (named (rd_T33 l i).f0)) else none
/-- What holds in the walk: B is the attribute's own block. -/
structure WhyW (w wr : World) (B : Nat) (A : Option Addr) (l : List S33) (x : S33) : Prop where
  P : wr.heap[B]? = some (.cells (vA x).toArray 33 (0, 0))
  C : Kd.C k33 wr A l.length l
  G : GlobMax wr
  L : Below w.heap.size w wr
theorem WhyW.below {w wr wr' : World} {B : Nat} {A : Option Addr} {l : List S33} {x : S33} (h : WhyW w wr B A l x) (hb : Below wr.heap.size wr wr') : WhyW w wr' B A l x :=
  ⟨(hb.block _ (Array.getElem?_eq_some_iff.mp h.P).1).trans h.P, Kd.C_below h.C hb, h.G.below hb, below_step h.L hb⟩
theorem WhyW.drawn {w wr wr' : World} {B : Nat} {A : Option Addr} {l : List S33} {x : S33} (h : WhyW w wr B A l x) (hd : Drawn0 wr wr') : WhyW w wr' B A l x := h.below hd.below
theorem WhyW.cells {w wr : World} {B : Nat} {A : Option Addr} {l : List S33} {x : S33} (h : WhyW w wr B A l x) : wr.cell? ⟨B, 0, none⟩ = some (.string x.f0) ∧ wr.cell? ⟨B, 1, none⟩ = some (.string x.f1) ∧ wr.cell? ⟨B, 2, none⟩ = some (.string x.f2) :=
  ⟨(blk_cell h.P 0).trans rfl, (blk_cell h.P 1).trans rfl, (blk_cell h.P 2).trans rfl⟩
set_option maxHeartbeats 4000000 in
set_option maxRecDepth 100000 in
theorem attribute_why.calls (k : Nat) (A0 : Option Addr) (c0 : Nat) (l0 : List S33) (a1 : Int) (r : Int) (w : World) (hGMax : GlobMax w) (hr0 : Kd.C k33 w A0 l0.length l0) (hc0 : l0.length ≤ c0) (h : attribute_why.f k l0 a1 = some r) :
    Calls Tryd.prog 54 #[.slice A0 l0.length c0, .int .i64 a1] w fun e w' => e = .returned (.int .i64 r) ∧ Below w.heap.size w w' := by
  unfold attribute_why.f at h
  split at h
  · rename_i hh
    obtain ⟨j, rfl⟩ := Int.eq_ofNat_of_zero_le hh.1
    obtain ⟨_, hj1, hl⟩ := hh
    have hj : j < l0.length := by omega
    obtain ⟨ad, e, x0, x1, x2⟩ := at_T33 hr0 (j : Int) (by omega) (by omega)
    subst e
    simp only [Int.toNat_natCast] at x0 x1 x2 h
    generalize rd_T33 l0 (j : Int) = x at x0 x1 x2 h
    unfold whyAt at h
    obtain ⟨⟨p1, p2⟩, hT, h⟩ := Option.bind_eq_some_iff.1 h
    obtain ⟨b, hN, h⟩ := Option.bind_eq_some_iff.1 h
    simp only at h
    have HH := Lib.hid h
    clear h
    have HT := Lib.hid hT
    have HN := Lib.hid hN
    clear hT hN
    have HG := Lib.hid hGMax
    have HR := Lib.hid hr0
    clear hGMax hr0
    have hq0 : decide ((j : Int) < (l0.length : Int)) = true := decide_eq_true (by omega)
    go_enter Tryd.func54, Tryd.ntmps54
    go_upto_region 1 with (fail)
    refine wp_region_lit ?_
    refine wpList_step (fun K hK => ?_)
    go_simp
    refine hK _ _ ?_
    clear hK K
    refine wpList_step (fun K hK => ?_)
    go_simp
    refine hK _ _ ?_
    clear hK K
    refine wpList_step (fun K hK => ?_)
    go_simp
    refine hK _ _ ?_
    clear hK K
    refine wpList_step (fun K hK => ?_)
    go_simp
    refine hK _ _ ?_
    clear hK K
    refine wpList_step (fun K hK => ?_)
    go_simp
    refine hK _ _ ?_
    clear hK K
    have hnew : (w.alloc (.cells (cellsA [z33] ++ []).toArray 33 (0, 0))).heap[w.heap.size]? = some (.cells (cellsA [z33] ++ []).toArray 33 (0, 0)) := heap_alloc_new w _
    have hbel : Below w.heap.size w (w.alloc (.cells (cellsA [z33] ++ []).toArray 33 (0, 0))) := (Below.refl _ _).alloc (Nat.le_refl _) _
    refine wpList_store_at rfl _ _ _ rfl ⟨w.heap.size, 3 * 0, none⟩ rfl _ rfl (store_A hnew 0 x (by simp)) ?_
    have hset := set_A hnew 0 x (by simp)
    have W0 : WhyW w ((w.alloc (.cells (cellsA [z33] ++ []).toArray 33 (0, 0))).setCells w.heap.size (3 * 0) (vA x)) w.heap.size (some ad) l0 x := by
      have hb2 : Below w.heap.size w ((w.alloc (.cells (cellsA [z33] ++ []).toArray 33 (0, 0))).setCells w.heap.size (3 * 0) (vA x)) := ((hbel.setCell (Nat.le_refl _) _).setCell (Nat.le_refl _) _).setCell (Nat.le_refl _) _
      exact ⟨hset.trans rfl, Kd.C_below HR.out hb2, HG.out.below hb2, hb2⟩
    generalize (w.alloc (.cells (cellsA [z33] ++ []).toArray 33 (0, 0))).setCells w.heap.size (3 * 0) (vA x) = w1 at W0
    clear hset hnew hbel x0 x1 x2 HG HR
    have HW0 := Lib.hid W0
    obtain ⟨y0, y1, y2⟩ := W0.cells
    clear W0
    refine wpList_nil ?_
    go_upto_region 3 with (go_at_call 10; refine (attribute_Type.calls k _ _ _ _ HT.out).mono ?_; rintro e w2 ⟨rfl, hb2⟩)
    have HW2 := Lib.hid (HW0.out.below hb2)
    clear hb2 y0 y1 y2 HW0
    obtain ⟨y0, y1, y2⟩ := HW2.out.cells
    have hk1 : decide ((j : Int) ≤ (c0 : Int)) = true := decide_eq_true (by omega)
    have hk2 : j ≤ c0 := by omega
    cases b with
    | false =>
      obtain rfl : 2 = r := by have := HH.out; simpa using this
      go_wp2_with (go_at_call 12; refine (attribute_Name.calls k _ _ _ HW2.out.G HN.out).mono ?_; rintro e w3 ⟨rfl, hd3⟩)
      go_ret
      exact ⟨rfl, (HW2.out.drawn hd3).L⟩
    | true =>
      have H2 := HH.out
      rw [if_neg (by simp)] at H2
      clear HH
      cases hdup : (l0.take j).any (named x.f0) with
      | true =>
        rw [hdup, if_pos rfl] at H2
        obtain rfl := Option.some.inj H2
        go_wp2_with (first
          | (go_at_call 12; refine (attribute_Name.calls k _ _ _ HW2.out.G HN.out).mono ?_; rintro e w3 ⟨rfl, hd3⟩; have HW3 := Lib.hid (HW2.out.drawn hd3); obtain ⟨u0, u1, u2⟩ := HW3.out.cells)
          | (go_at_call 83; refine (containsA_calls _ j _ l0 _ _ _ HW3.out.C (by omega) hl u0).mono ?_; rw [hdup]; rintro e w4 ⟨rfl, hb4⟩))
        go_ret
        exact ⟨rfl, (HW3.out.below hb4).L⟩
      | false =>
        rw [hdup, if_neg (by simp)] at H2
        go_upto_region 6 with (first
          | (go_at_call 12; refine (attribute_Name.calls k _ _ _ HW2.out.G HN.out).mono ?_; rintro e w3 ⟨rfl, hd3⟩; have HW3 := Lib.hid (HW2.out.drawn hd3); obtain ⟨u0, u1, u2⟩ := HW3.out.cells)
          | (go_at_call 83; refine (containsA_calls _ j _ l0 _ _ _ HW3.out.C (by omega) hl u0).mono ?_; rw [hdup]; rintro e w4 ⟨rfl, hb4⟩))
        have HW4 := Lib.hid (HW3.out.below hb4)
        clear hb4 u0 u1 u2 HW3 hd3 y0 y1 y2 HW2
        obtain ⟨y0, y1, y2⟩ := HW4.out.cells
        cases p2 with
        | false =>
          obtain rfl : 5 = r := by simpa using H2
          go_wp2
          go_ret
          exact ⟨rfl, HW4.out.L⟩
        | true =>
          rw [if_neg (by simp)] at H2
          by_cases z1 : (x.f2.size : Int) < 1
          · rw [if_pos z1] at H2
            obtain rfl := Option.some.inj H2
            have z1b : decide ((x.f2.size : Int) < 1) = true := decide_eq_true z1
            go_wp2
            go_ret
            exact ⟨rfl, HW4.out.L⟩
          · rw [if_neg z1] at H2
            have z1b : decide ((x.f2.size : Int) < 1) = false := decide_eq_false z1
            by_cases z2 : 128 < (x.f2.size : Int)
            · rw [if_pos z2] at H2
              obtain rfl := Option.some.inj H2
              have z2b : decide (128 < (x.f2.size : Int)) = true := decide_eq_true z2
              go_wp2
              go_ret
              exact ⟨rfl, HW4.out.L⟩
            · rw [if_neg z2] at H2
              have z2b : decide (128 < (x.f2.size : Int)) = false := decide_eq_false z2
              by_cases z3 : p1 = 2
              · rw [if_pos z3] at H2
                obtain ⟨n, hn, H3⟩ := Option.bind_eq_some_iff.1 H2
                have HNn := Lib.hid hn
                clear hn H2
                have z3b : (p1 == 2) = true := by rw [z3]; rfl
                cases n with
                | true =>
                  obtain rfl : 0 = r := by simpa using H3
                  go_wp2_with (go_at_call 14; refine (attribute_Number.calls k _ _ _ HW4.out.G HNn.out).mono ?_; rintro e w5 ⟨rfl, hb5⟩)
                  go_ret
                  exact ⟨rfl, (HW4.out.below hb5).L⟩
                | false =>
                  obtain rfl : 18 = r := by simpa using H3
                  go_wp2_with (go_at_call 14; refine (attribute_Number.calls k _ _ _ HW4.out.G HNn.out).mono ?_; rintro e w5 ⟨rfl, hb5⟩)
                  go_ret
                  exact ⟨rfl, (HW4.out.below hb5).L⟩
              · rw [if_neg z3] at H2
                obtain rfl := Option.some.inj H2
                have z3b : (p1 == 2) = false := by simpa using z3
                go_wp2
                go_ret
                exact ⟨rfl, HW4.out.L⟩
  · exact absurd h (by simp)
end Go.Proofs.YtolpefnedpgaaaaDoor.X

namespace Go.Proofs.YtolpefnedpgaaaaDoor.X
open Go.RowKit Go.Proofs.YtolpefnedpgaaaaDoorW.PrintWords Go.Proofs.YtolpefnedpgaaaaDoorW.PrintLast Go.Proofs.YtolpefnedpgaaaaDoorW.PrintMore
set_option linter.unusedVariables false
set_option linter.unusedSimpArgs false
end Go.Proofs.YtolpefnedpgaaaaDoor.X

namespace Go.Proofs.YtolpefnedpgaaaaDoor.X
open Go.RowKit Go.Proofs.YtolpefnedpgaaaaDoorW.PrintWords Go.Proofs.YtolpefnedpgaaaaDoorW.PrintLast Go.Proofs.YtolpefnedpgaaaaDoorW.PrintMore
attribute [local go_sem] max2_int min2_int max_two min_two max_three min_three max_four min_four   -- for this text's walks alone
set_option linter.unusedVariables false
set_option linter.unusedSimpArgs false

def attribute_Check.l0 : Nat → List (S33) → Int → Int → Option (Int × Int)
  | 0, _, _, _ => none
  | k + 1, x0, x10, x11 => if x11 < x10 then ((attribute_why.f k x0 x11).bind fun t230 => (if t230 = 0 then (attribute_Check.l0 k x0 x10 (wrap64 (x11 + 1))) else (some (x11, t230)))) else (some (0, 0))
def attribute_Check.f (k : Nat) (l0 : List (S33)) : Option (Int × Int) := if (l0.length : Int) > 10 then (some (0, 7)) else (attribute_Check.l0 k l0 (l0.length : Int) 0)
set_option maxHeartbeats 8000000 in
set_option maxRecDepth 100000 in
theorem attribute_Check.calls (k : Nat) (A0 : Option Addr) (c0 : Nat) (l0 : List (S33)) (r1 : Int) (r2 : Int) (w : World) (hGMax : GlobMax w) (hr0 : Kd.C k33 w A0 l0.length l0) (hc0 : l0.length ≤ c0) (h : attribute_Check.f k l0 = some (r1, r2)) :
    Calls Tryd.prog 23 #[.slice A0 l0.length c0] w fun e w' => e = .returned (.tuple #[.int .i64 r1, .int .i64 r2]) ∧ Below w.heap.size w w' := by
  have HGMax := Aside0.mk hGMax
  clear hGMax
  have HR0 := Aside0.mk hr0
  have HC0 := Aside0.mk hc0
  clear hr0 hc0
  have HB := Aside0.mk (Below.refl w.heap.size w)
  have H : (if (l0.length : Int) > 10 then (some (0, 7)) else (attribute_Check.l0 k l0 (l0.length : Int) 0)) = some (r1, r2) := h
  clear h
  by_cases c2 : (l0.length : Int) > 10
  · rw [if_pos c2] at H
    have c2b0 : decide (10 < (l0.length : Int)) = true := decide_eq_true c2
    have c2b1 : decide (10 < l0.length) = true := decide_eq_true (by omega)
    clear c2
    simp only [Option.some.injEq, Prod.mk.injEq] at H
    obtain ⟨rfl, rfl⟩ := H
    go_enter Tryd.func23, Tryd.ntmps23
    go_wp2
    go_ret2
    exact ⟨by first | rfl | (simp [errW_none, errW_some] <;> rfl) | (simp [*, errW_none, errW_some] <;> rfl), by repeat (first | (with_reducible first | exact HB.out | apply below_alloc | apply pw_below_drewN | apply below_drew1) | exact HB.out)⟩
  · rw [if_neg c2] at H
    have c2b0 : decide (10 < (l0.length : Int)) = false := decide_eq_false c2
    have c2b1 : decide (10 < l0.length) = false := decide_eq_false (by omega)
    clear c2
    have H' := Aside0.mk H
    clear H
    go_enter Tryd.func23, Tryd.ntmps23
    go_wp2
    go_loopg [11] k (fun kq v11 w' => ∃ (x11_1 : Int), v11 = .int .i64 x11_1 ∧ Aside0 (attribute_Check.l0 kq l0 (l0.length : Int) x11_1 = some (r1, r2)) ∧ Aside0 (kq ≤ k) ∧ Aside0 (Below w.heap.size w w'))
    case atStart => exact ⟨(0), (by first | rfl | (simp; done) | (simp; decide +kernel) | (simp [*]; done)), (by first | exact H' | (subst_vars; exact H')), ⟨Nat.le_refl _⟩, ⟨by repeat (first | (with_reducible first | exact HB.out | apply below_alloc | apply pw_below_drewN | apply below_drew1) | exact HB.out)⟩⟩
    case round =>
      clear H'
      try clear c2
      try clear c2b0
      try clear c2b1
      try clear p2
      obtain ⟨x11_1, rfl, HA, HK1, HB⟩ := hrel
      cases gk with
      | zero => exact absurd HA.out (by simp [attribute_Check.l0])
      | succ k1 =>
        have H := HA.out
        clear HA
        simp only [attribute_Check.l0] at H
        by_cases c3 : x11_1 < (l0.length : Int)
        · rw [if_pos c3] at H
          have c3b0 : decide (x11_1 < (l0.length : Int)) = true := decide_eq_true c3
          clear c3
          replace H := Option.bind_eq_some_iff.mp H
          obtain ⟨t230, A40, H⟩ := H
          replace H : (if t230 = 0 then (attribute_Check.l0 k1 l0 (l0.length : Int) (wrap64 (x11_1 + 1))) else (some (x11_1, t230))) = some (r1, r2) := H
          have A4 := Aside0.mk A40
          clear A40
          by_cases c5 : t230 = 0
          · rw [if_pos c5] at H
            have c5b0 : (t230 == 0) = true := beq_iff_eq.mpr c5
            have c5b1 : (t230 != 0) = false := bne_eq_false_iff_eq.mpr c5
            clear c5
            have H' := Aside0.mk H
            clear H
            go_wp2_with (first | ((with_reducible refine gate_callee (f := 54) rfl ?_); refine goesL_ (some 16) rfl rfl Tryd.func54 (by kernel_rfl) rfl #[.slice A0 l0.length c0, .int .i64 x11_1] rfl (by (try simp only [List.map_toArray, List.map_cons, List.map_nil]); first | done | rfl | (simp only [List.length_drop, List.length_take]; rfl)) ?_; (with_reducible refine (attribute_why.calls k1 _ _ l0 x11_1 t230 _ ?side3 ?side1 ?side2 A4.out).mono ?_); (case side1 => repeat (first | exact (Kd.C_below HR0.out HB.out) | (with_reducible refine Kd.C_alloc ?_ _) | (with_reducible refine Kd.C_drewN ?_ _) | (with_reducible refine Kd.C_drew ?_))); (case side2 => exact HC0.out); (case side3 => first | exact HGMax.out | exact GlobMax.below HGMax.out (by repeat (first | (with_reducible first | exact HB.out | apply below_alloc | apply pw_below_drewN | apply below_drew1) | exact HB.out)) | exact GlobMax.drawn HGMax.out (by repeat (first | exact Drawn0.refl _ | apply Drawn0.step))); rintro e w6 ⟨rfl, hb⟩; refine ⟨_, rfl, ?_⟩; have n0_ := Aside0.mk (below_step (by repeat (first | (with_reducible first | exact HB.out | apply below_alloc | apply pw_below_drewN | apply below_drew1) | exact HB.out)) hb); clear HB; have HB := n0_; clear n0_; (try clear hb); (try clear hb2); (try clear hk); (try clear hi)))
            go_roundg k1
            case measure => have := HK1.out; omega
            case rel => exact ⟨(wrap64 (x11_1 + 1)), (by first | rfl | (simp; done) | (simp; decide +kernel) | (simp [*]; done)), (by first | exact H' | (subst_vars; exact H')), ⟨by have := HK1.out; omega⟩, ⟨by repeat (first | (with_reducible first | exact HB.out | apply below_alloc | apply pw_below_drewN | apply below_drew1) | exact HB.out)⟩⟩
          · rw [if_neg c5] at H
            have c5b0 : (t230 == 0) = false := beq_eq_false_iff_ne.mpr c5
            have c5b1 : (t230 != 0) = true := bne_iff_ne.mpr c5
            simp only [Option.some.injEq, Prod.mk.injEq] at H
            obtain ⟨rfl, rfl⟩ := H
            go_wp2_with (first | ((with_reducible refine gate_callee (f := 54) rfl ?_); refine goesL_ (some 16) rfl rfl Tryd.func54 (by kernel_rfl) rfl #[.slice A0 l0.length c0, .int .i64 x11_1] rfl (by (try simp only [List.map_toArray, List.map_cons, List.map_nil]); first | done | rfl | (simp only [List.length_drop, List.length_take]; rfl)) ?_; (with_reducible refine (attribute_why.calls k1 _ _ l0 x11_1 t230 _ ?side3 ?side1 ?side2 A4.out).mono ?_); (case side1 => repeat (first | exact (Kd.C_below HR0.out HB.out) | (with_reducible refine Kd.C_alloc ?_ _) | (with_reducible refine Kd.C_drewN ?_ _) | (with_reducible refine Kd.C_drew ?_))); (case side2 => exact HC0.out); (case side3 => first | exact HGMax.out | exact GlobMax.below HGMax.out (by repeat (first | (with_reducible first | exact HB.out | apply below_alloc | apply pw_below_drewN | apply below_drew1) | exact HB.out)) | exact GlobMax.drawn HGMax.out (by repeat (first | exact Drawn0.refl _ | apply Drawn0.step))); rintro e w7 ⟨rfl, hb⟩; refine ⟨_, rfl, ?_⟩; have n0_ := Aside0.mk (below_step (by repeat (first | (with_reducible first | exact HB.out | apply below_alloc | apply pw_below_drewN | apply below_drew1) | exact HB.out)) hb); clear HB; have HB := n0_; clear n0_; (try clear hb); (try clear hb2); (try clear hk); (try clear hi)))
            go_ret2
            exact ⟨by first | rfl | (simp [errW_none, errW_some] <;> rfl) | (simp [*, errW_none, errW_some] <;> rfl), by repeat (first | (with_reducible first | exact HB.out | apply below_alloc | apply pw_below_drewN | apply below_drew1) | exact HB.out)⟩
        · rw [if_neg c3] at H
          have c3b0 : decide (x11_1 < (l0.length : Int)) = false := decide_eq_false c3
          clear c3
          simp only [Option.some.injEq, Prod.mk.injEq] at H
          obtain ⟨rfl, rfl⟩ := H
          go_wp2
          go_ret2
          exact ⟨by first | rfl | (simp [errW_none, errW_some] <;> rfl) | (simp [*, errW_none, errW_some] <;> rfl), by repeat (first | (with_reducible first | exact HB.out | apply below_alloc | apply pw_below_drewN | apply below_drew1) | exact HB.out)⟩

end Go.Proofs.YtolpefnedpgaaaaDoor.X

namespace Go.Proofs.YtolpefnedpgaaaaDoor.X
open Go.RowKit Go.Proofs.YtolpefnedpgaaaaDoorW.PrintWords Go.Proofs.YtolpefnedpgaaaaDoorW.PrintLast Go.Proofs.YtolpefnedpgaaaaDoorW.PrintMore
attribute [local go_sem] max2_int min2_int max_two min_two max_three min_three max_four min_four   -- for this text's walks alone
set_option linter.unusedVariables false
set_option linter.unusedSimpArgs false

end Go.Proofs.YtolpefnedpgaaaaDoor.X

namespace Go.Proofs.YtolpefnedpgaaaaDoor.X
open Go.RowKit Go.Proofs.YtolpefnedpgaaaaDoorW.PrintWords Go.Proofs.YtolpefnedpgaaaaDoorW.PrintLast Go.Proofs.YtolpefnedpgaaaaDoorW.PrintMore
attribute [local go_sem] max2_int min2_int max_two min_two max_three min_three max_four min_four   -- for this text's walks alone
set_option linter.unusedVariables false
set_option linter.unusedSimpArgs false

end Go.Proofs.YtolpefnedpgaaaaDoor.X

namespace Go.Proofs.YtolpefnedpgaaaaDoor.X
open Go.RowKit Go.Proofs.YtolpefnedpgaaaaDoorW.PrintWords Go.Proofs.YtolpefnedpgaaaaDoorW.PrintMore
set_option linter.unusedVariables false
set_option linter.unusedSimpArgs false
def whyB (L : List S33) (i : Nat) : Int :=
  if nameB (L.getD i z33).f0 = false then 2 else if (L.take i).any (named (L.getD i z33).f0) = true then 2 else if (typeF (L.getD i z33).f1 kindsL 3 0).2 = false then 5
  else if ((L.getD i z33).f2.size : Int) < 1 then 3 else if 128 < ((L.getD i z33).f2.size : Int) then 3
  else if (typeF (L.getD i z33).f1 kindsL 3 0).1 = 2 then (if numR (L.getD i z33).f2.data.toList = true then 0 else 18) else 0
theorem why_eq (L : List S33) (hL : small L) (i : Nat) (hi : i < L.length) (k : Nat) (hk : 2100 < k) : attribute_why.f k L (i : Int) = some (whyB L i) := by
  have hs := small_at hL i hi
  have h14 := hL.1
  unfold attribute_why.f whyAt whyB
  rw [if_pos ⟨by omega, by omega, by omega⟩, rd33, Int.toNat_natCast]
  generalize L.getD i z33 = x at hs ⊢
  rw [Type_eq x.f1 (by omega) k (by omega), Name_eq x.f0 (by omega) k (by omega), Number_eq x.f2 (by omega) k (by omega), numA_eq]
  simp only [Option.bind_some]
  repeat (split <;> rename_i h <;> first | rfl | (rw [if_pos h]) | (rw [if_neg h]) | skip)
  all_goals (first | rfl | (split <;> rfl) | skip)
def chkD (L : List S33) : Nat → Nat → Int × Int
  | 0, _ => (0, 0)
  | d + 1, i => if whyB L i = 0 then chkD L d (i + 1) else ((i : Int), whyB L i)
def chkB (L : List S33) : Int × Int := if L.length > 10 then (0, 7) else chkD L L.length 0
theorem check_l0 (L : List S33) (hL : small L) : ∀ (d k i : Nat), i + d = L.length → d + 2200 < k → attribute_Check.l0 k L (L.length : Int) (i : Int) = some (chkD L d i) := by
  have h14 := hL.1
  intro d
  induction d with
  | zero =>
    intro k i h hk
    obtain ⟨k, rfl⟩ : ∃ m, k = m + 1 := ⟨k - 1, by omega⟩
    simp only [attribute_Check.l0, chkD]
    rw [if_neg (by omega)]
  | succ d ih =>
    intro k i h hk
    obtain ⟨k, rfl⟩ : ∃ m, k = m + 1 := ⟨k - 1, by omega⟩
    simp only [attribute_Check.l0, chkD]
    rw [if_pos (by omega), why_eq L hL i (by omega) k (by omega), w64 (by omega) (by omega), show ((i : Int) + 1) = ((i + 1 : Nat) : Int) by omega, ih k (i + 1) (by omega) (by omega)]
    simp only [Option.bind_some]
    split <;> rfl
theorem Check_eq (L : List S33) (hL : small L) (k : Nat) (hk : 3000 < k) : attribute_Check.f k L = some (chkB L) := by
  have h14 := hL.1
  unfold attribute_Check.f chkB
  by_cases h : L.length > 10
  · rw [if_pos (by omega), if_pos h]
  · rw [if_neg (by omega), if_neg h]
    exact check_l0 L hL L.length k 0 (by omega) (by omega)
end Go.Proofs.YtolpefnedpgaaaaDoor.X

