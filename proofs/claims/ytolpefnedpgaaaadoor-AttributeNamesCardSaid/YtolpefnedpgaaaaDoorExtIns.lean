/-
  slices.insertionSortCmpFunc of attributes by their names.
-/
import Derived.Test.YtolpefnedpgaaaaDoorX0
import Derived.Test.YtolpefnedpgaaaaDoorShelf
import Derived.Test.YtolpefnedpgaaaaDoorExtFp4
namespace Go.Proofs.YtolpefnedpgaaaaDoor.X
open Go.RowKit Go.Proofs.YtolpefnedpgaaaaDoorW.PrintWords Go.Proofs.YtolpefnedpgaaaaDoorW.PrintLast Go.Proofs.YtolpefnedpgaaaaDoorW.PrintMore
set_option linter.unusedVariables false
set_option linter.unusedSimpArgs false
def vA (x : S33) : List Value := [.string x.f0, .string x.f1, .string x.f2]
def cellsA (xs : List S33) : List Value := xs.flatMap vA
theorem cellsA_len (xs : List S33) : (cellsA xs).length = 3 * xs.length := by
  induction xs with
  | nil => rfl
  | cons x l ih => simp only [cellsA, List.flatMap_cons, List.length_append, List.length_cons] at ih ⊢; rw [ih]; simp [vA]; omega
theorem cellsA_at : ∀ (xs : List S33) (t : List Value) (j : Nat) (d : S33), j < xs.length → ∀ k, k < 3 → (cellsA xs ++ t)[3 * j + k]? = (vA (xs.getD j d))[k]?
  | [], _, _, _, h, _, _ => by simp at h
  | x :: l, t, 0, d, h, k, hk => by
    simp only [cellsA, List.flatMap_cons, List.getD_cons_zero, Nat.mul_zero, Nat.zero_add, List.append_assoc]
    rw [List.getElem?_append_left (by simp [vA]; omega)]
  | x :: l, t, j + 1, d, h, k, hk => by
    have ih := cellsA_at l t j d (by simpa using h) k hk
    simp only [cellsA, List.flatMap_cons, List.getD_cons_succ, List.append_assoc] at ih ⊢
    rw [List.getElem?_append_right (by simp [vA]; omega), ← ih]
    congr 1
    simp [vA]
    omega
theorem blk_setCells_mid (g : Nat) (t : TypeId) : ∀ (vs : List Value) (o : Nat) (w : World) (cs : List Value), o + vs.length ≤ cs.length → w.heap[g]? = some (.cells cs.toArray t (0, 0)) → (w.setCells g o vs).heap[g]? = some (.cells (cs.take o ++ vs ++ cs.drop (o + vs.length)).toArray t (0, 0))
  | [], o, w, cs, hl, h => by
    rw [World.setCells, h]
    simp
  | v :: r, o, w, cs, hl, h => by
    rw [World.setCells]
    simp only [List.length_cons] at hl ⊢
    have h1 := blk_set h o v
    rw [show cs.toArray.setIfInBounds o v = (cs.set o v).toArray by simp] at h1
    rw [blk_setCells_mid g t r (o + 1) _ _ (by simp; omega) h1]
    congr 2
    rw [List.take_set, List.take_add_one, List.getElem?_eq_getElem (by omega), List.drop_set_of_lt (by omega)]
    simp only [Option.toList_some]
    rw [List.set_append, if_neg (by simp; omega), List.length_take, Nat.min_eq_left (by omega), Nat.sub_self, List.append_assoc, List.append_assoc, List.append_assoc, show o + 1 + r.length = o + (r.length + 1) by omega]
    rfl
theorem cellsA_set : ∀ (xs : List S33) (t : List Value) (j : Nat) (y : S33), j < xs.length → (cellsA xs ++ t).take (3 * j) ++ vA y ++ (cellsA xs ++ t).drop (3 * j + 3) = cellsA (xs.set j y) ++ t
  | [], _, _, _, h => by simp at h
  | x :: l, t, 0, y, h => by simp [cellsA, vA]
  | x :: l, t, j + 1, y, h => by
    have ih := cellsA_set l t j y (by simpa using h)
    simp only [cellsA, List.flatMap_cons, List.set_cons_succ, List.append_assoc] at ih ⊢
    rw [← ih, show 3 * (j + 1) = 3 * j + 1 + 1 + 1 by omega, show 3 * j + 1 + 1 + 1 + 3 = 3 * j + 3 + 1 + 1 + 1 by omega]
    simp [vA]
theorem set_A {w : World} {g : Nat} {ys : List S33} {t : List Value} (h : w.heap[g]? = some (.cells (cellsA ys ++ t).toArray 33 (0, 0))) (j : Nat) (y : S33) (hj : j < ys.length) :
    (w.setCells g (3 * j) (vA y)).heap[g]? = some (.cells (cellsA (ys.set j y) ++ t).toArray 33 (0, 0)) := by
  have := blk_setCells_mid g _ (vA y) (3 * j) w _ (by rw [List.length_append, cellsA_len]; simp [vA]; omega) h
  rw [this, ← cellsA_set ys t j y hj]
  rfl
theorem infoA : ∃ ie, Tryd.prog.info? 33 = some ie ∧ ie.size = 3 := Option.map_eq_some_iff.1 (show (Tryd.prog.info? 33).map (·.size) = some 3 by kernel_rfl)
theorem store_A {w : World} {g : Nat} {ys : List S33} {t : List Value} (h : w.heap[g]? = some (.cells (cellsA ys ++ t).toArray 33 (0, 0))) (j : Nat) (y : S33) (hj : j < ys.length) :
    (storeVar 33 ⟨g, 3 * j, none⟩ (.agg (vA y).toArray)).run Tryd.prog w = .ok () (w.setCells g (3 * j) (vA y)) := by
  obtain ⟨ie, hie, hsz⟩ := infoA
  refine Lib.rl_storeVar_cells (P := Tryd.prog) 33 ie hie g (3 * j) (vA y) (by rw [hsz]; rfl) (fun v hv => ?_) w (fun k hk => ?_) (fun k hk => blk_frozen h _)
  · simp only [vA, List.mem_cons, List.mem_nil_iff, or_false] at hv
    rcases hv with rfl | rfl | rfl <;> rfl
  · rw [blk_cell h, List.getElem?_toArray, List.getElem?_eq_getElem (by rw [List.length_append, cellsA_len]; simp [vA] at hk; omega)]
    rfl
theorem setA1 {w : World} {g : Nat} {ys : List S33} {t : List Value} (h : w.heap[g]? = some (.cells (cellsA ys ++ t).toArray 33 (0, 0))) (m : Nat) (y : S33) (hj : m + 1 < ys.length) :
    (w.drew.setCells g (3 * m + 3) (vA y)).heap[g]? = some (.cells (cellsA (ys.set (m + 1) y) ++ t).toArray 33 (0, 0)) := by
  have := set_A (w := w.drew) h (m + 1) y hj
  rw [show 3 * (m + 1) = 3 * m + 3 by omega] at this
  exact this
theorem storeA1 {w : World} {g : Nat} {ys : List S33} {t : List Value} (h : w.heap[g]? = some (.cells (cellsA ys ++ t).toArray 33 (0, 0))) (m : Nat) (y : S33) (hj : m + 1 < ys.length) :
    (storeVar 33 ⟨g, 3 * m + 3, none⟩ (.agg (vA y).toArray)).run Tryd.prog w.drew = .ok () (w.drew.setCells g (3 * m + 3) (vA y)) := by
  have := store_A (w := w.drew) h (m + 1) y hj
  rw [show 3 * (m + 1) = 3 * m + 3 by omega] at this
  exact this
theorem store_run_value {P : Program} {a : Act} {o : Oper} {w : World} (t : TypeId) (x y : Operand) (ho : o.op = .store t x y) (ad : Addr) (hx : a.eval x = .pointer (some ad)) (v : Value) (hy : a.eval y = v) {w' : World}
    (hr : (storeVar t ad v).run P w = .ok () w') : (execOp a.eval o).run P w = .ok .skip w' := by
  unfold execOp
  simp only [ho, hx, hy, Instr.storeAt, Instr.sureAddr, Sem.run_bind, Sem.run_pure, Result.andThen_ok, hr]
/-- Do they stand the wrong way round? -/
def cmpA (x y : S33) : Int := Lib.compareBytes x.f0.data.toList y.f0.data.toList
def swapA (xs : List S33) (j : Nat) : List S33 := (xs.set j (xs.getD (j - 1) z33)).set (j - 1) (xs.getD j z33)
/-- One goes down to its place. -/
def sinkA : Nat → List S33 → List S33
  | 0, xs => xs
  | j + 1, xs => if cmpA (xs.getD (j + 1) z33) (xs.getD j z33) < 0 then sinkA j (swapA xs (j + 1)) else xs
def sortedTo (xs : List S33) : Nat → List S33
  | 0 => xs
  | i + 1 => sinkA (i + 1) (sortedTo xs i)
def sortA (xs : List S33) : List S33 := sortedTo xs (xs.length - 1)
theorem swapA_len (xs : List S33) (j : Nat) : (swapA xs j).length = xs.length := by simp [swapA]
theorem sinkA_len : ∀ (j : Nat) (xs : List S33), (sinkA j xs).length = xs.length
  | 0, xs => rfl
  | j + 1, xs => by
    rw [sinkA]
    split
    · rw [sinkA_len j, swapA_len]
    · rfl
theorem sortedTo_len (xs : List S33) : ∀ i, (sortedTo xs i).length = xs.length
  | 0 => rfl
  | i + 1 => by rw [sortedTo, sinkA_len, sortedTo_len xs i]
set_option maxHeartbeats 1000000 in
set_option maxRecDepth 100000 in
theorem cmp_calls (x y : S33) (w : World) : Calls Tryd.prog 44 #[.agg (vA x).toArray, .agg (vA y).toArray] w fun e w' => e = .returned (.int .i64 (cmpA x y)) ∧ Below w.heap.size w w' := by
  unfold vA
  go_enter Tryd.func44, Tryd.ntmps44
  go_wp2_with (go_at_call 45; refine (Tryd.strings_Compare _ _ _).mono ?_; rintro e w1 ⟨rfl, rfl⟩)
  go_ret
  exact ⟨rfl, ((Below.refl _ _).alloc (Nat.le_refl _) _).alloc (by rw [World.size_alloc]; omega) _⟩
section
variable {P : Program} {ops : Array Oper} {Q : Exit → Act → World → Prop}
/-- A call of a function value that captures nothing. -/
theorem gov_ {oi : Oper} {N : Option Tmp} {a : Act} {w : World} {K : Act → World → Prop} {f : FuncId} {fn : Func} {c : Operand} {ar : Array Operand} {ts : Array TypeId} (hf : P.funcs[f]? = some fn) (hname : (fn.name == "runtime.NumGoroutine") = false) (hb : fn.body.isSome = true) (args : Array Value)
    (hw : Region.wanted oi (yielded ops a.tmps) = true) (hN : oi.dst = N) (hop : oi.op = .call { callee := .value c, args := ar, argTypes := ts }) (hcv : a.eval c = .func (.func f) #[] #[]) (hargs : ar.map a.eval = args)
    (h : Calls P f args w fun e w' => ∃ v, e = .returned v ∧ K (a.put N v) w') : if Region.wanted oi (yielded ops a.tmps) = true then Oper.wp P oi a w K Q else K (a.put N undef) w := by
  refine call_ f args hw hN ?_ h
  have he := enters_ hf hname hb args w
  unfold execOp
  simp [hop, resolve, Deferred.ofValue, invoke, hcv, hargs, he]
end
theorem rowA {W : World} {g m : Nat} {ys : List S33} {t : List Value} (h : W.heap[g]? = some (.cells (cellsA ys ++ t).toArray 33 (0, 0))) (hm : m + 1 < ys.length) (x y : S33) (hx : ys.getD (m + 1) z33 = x) (hy : ys.getD m z33 = y) :
    W.cell? ⟨g, 3 * m + 3, none⟩ = some (.string x.f0) ∧ W.cell? ⟨g, 3 * m + 4, none⟩ = some (.string x.f1) ∧ W.cell? ⟨g, 3 * m + 5, none⟩ = some (.string x.f2) ∧ W.cell? ⟨g, 3 * m, none⟩ = some (.string y.f0) ∧ W.cell? ⟨g, 3 * m + 1, none⟩ = some (.string y.f1) ∧ W.cell? ⟨g, 3 * m + 2, none⟩ = some (.string y.f2) := by
  subst hx hy
  have c := fun j k hj hk => (blk_cell h (3 * j + k)).trans ((List.getElem?_toArray ..).trans (cellsA_at ys t j z33 hj k hk))
  exact ⟨c (m + 1) 0 hm (by omega), c (m + 1) 1 hm (by omega), c (m + 1) 2 hm (by omega), c m 0 (by omega) (by omega), c m 1 (by omega) (by omega), c m 2 (by omega) (by omega)⟩
theorem at_attr (g n cap : Nat) (i : Int) (j : Nat) (W : World) (hj : i = j) (hl : j < n) :
    (Instr.indexAt 26 (.slice (some ⟨g, 0, none⟩) n cap) (.int .i64 i)).run Tryd.prog W = .ok (.pointer (some ⟨g, 3 * j, none⟩)) W := by
  have hs : ∀ W, (sizeOf (Tryd.prog.elem 26)).run Tryd.prog W = .ok 3 W := fun W => by kernel_rfl
  rw [run_indexAt_slice W 26 ⟨g, 0, none⟩ n cap .i64 i (by kernel_rfl), hs, if_pos (by omega)]
  subst hj
  simp only [Result.andThen, Int.toNat_natCast]
  unfold Addr.add
  split
  · rename_i hz
    rw [show 3 * j = 0 by omega]
  · simp [Nat.mul_comm]
set_option pp.maxSteps 100000 in
set_option pp.deepTerms true in
set_option maxHeartbeats 4000000 in
set_option maxRecDepth 100000 in
theorem ins_calls (g n cap : Nat) (xs : List S33) (t : List Value) (w : World) (hn : n = xs.length) (h1 : n ≤ 1000) (hg : w.heap[g]? = some (.cells (cellsA xs ++ t).toArray 33 (0, 0))) :
    Calls Tryd.prog 97 #[.slice (some ⟨g, 0, none⟩) n cap, .int .i64 0, .int .i64 n, .func (.func 44) #[] #[]] w fun e w' => e = .returned (.tuple #[]) ∧ w'.heap[g]? = some (.cells (cellsA (sortA xs) ++ t).toArray 33 (0, 0)) ∧ Upd g w w' := by
  go_enter Tryd.func97, Tryd.ntmps97
  have HN := Lib.hid hn
  have HN1 := Lib.hid hn.symm
  clear hn
  have hglt : g < w.heap.size := (Array.getElem?_eq_some_iff.mp hg).1
  go_wp2
  go_loopw [8] (fun i wr => ∃ k, i = .int .i64 (k : Nat) ∧ 1 ≤ k ∧ (k ≤ n ∨ k = 1) ∧ wr.heap[g]? = some (.cells (cellsA (sortedTo xs (k - 1)) ++ t).toArray 33 (0, 0)) ∧ Upd g w wr)
    (fun i _ => (n - intOf i).toNat)
  case atStart => exact ⟨1, rfl, by omega, .inr rfl, hg, Upd.refl _ _⟩
  case round =>
    obtain ⟨k, rfl, hk1, hk, hG, hu⟩ := hrel
    by_cases hlt : k < n
    · have hd : decide ((k : Int) < n) = true := by simp; omega
      go_wp2
      go_loopw [9] (fun j wr => ∃ (m : Nat) (ys : List S33), j = .int .i64 (m : Nat) ∧ m ≤ k ∧ ys.length = n ∧ sinkA m ys = sortedTo xs k ∧ wr.heap[g]? = some (.cells (cellsA ys ++ t).toArray 33 (0, 0)) ∧ Upd g w wr)
        (fun j _ => (intOf j).toNat)
      case atStart =>
        refine ⟨k, sortedTo xs (k - 1), rfl, Nat.le_refl _, by rw [sortedTo_len]; exact HN1.out, ?_, hG, hu⟩
        obtain ⟨q, rfl⟩ : ∃ q, k = q + 1 := ⟨k - 1, by omega⟩
        rfl
      case round =>
        obtain ⟨m, ys, rfl, hmk, hyl, hsink, hG, hu⟩ := hrel
        have HYL := Lib.hid hyl
        have hyl1 : n ≤ ys.length := by omega
        clear hyl
        have HSK := Lib.hid hsink
        clear hsink
        rcases m with _ | m
        · have HGz := Lib.hid hG
          clear hG
          go_wp2
          refine start_ (n := 17) (S := fun w' => True) (ds := []) #[false, false, false, false, false, false, false, false, false, false, false, false, false, false, false, false, false] (by kernel_rfl) rfl rfl trivial (fun hHeld => ?_)
          refine pure_ (i := 0) (N := some 18) (v := ?_) (a' := ?_) #[true, false, false, false, false, false, false, false, false, false, false, false, false, false, false, false, false] rfl rfl (by kernel_rfl) (fun _ _ _ h => h) (Or.inl ⟨by rfl, ?_⟩) ?_ ?_
          rotate_left
          · intro w'
            go_simp
            with_reducible rfl
          rotate_left
          · simp only [Act.put, List.setIfInBounds_toArray, List.set_cons_zero, List.set_cons_succ, i64_w, i32_w]
            rfl
          refine pure_ (i := 1) (N := some 19) (v := ?_) (a' := ?_) #[true, true, false, false, false, false, false, false, false, false, false, false, false, false, false, false, false] rfl rfl (by kernel_rfl) (fun _ _ _ h => h) (Or.inl ⟨by rfl, ?_⟩) ?_ ?_
          rotate_left
          · intro w'
            go_simp
            with_reducible rfl
          rotate_left
          · simp only [Act.put, List.setIfInBounds_toArray, List.set_cons_zero, List.set_cons_succ, i64_w, i32_w]
            rfl
          refine pure_ (i := 2) (N := some 20) (v := ?_) (a' := ?_) #[true, true, true, false, false, false, false, false, false, false, false, false, false, false, false, false, false] rfl rfl (by kernel_rfl) (fun _ _ _ h => h) (Or.inl ⟨by rfl, ?_⟩) ?_ ?_
          rotate_left
          · intro w'
            go_simp
            with_reducible rfl
          rotate_left
          · simp only [Act.put, List.setIfInBounds_toArray, List.set_cons_zero, List.set_cons_succ, i64_w, i32_w]
            rfl
          refine pure_ (i := 3) (N := some 21) (v := ?_) (a' := ?_) #[true, true, true, true, false, false, false, false, false, false, false, false, false, false, false, false, false] rfl rfl (by kernel_rfl) (fun _ _ _ h => h) (Or.inl ⟨by rfl, ?_⟩) ?_ ?_
          rotate_left
          · intro w'
            go_simp
            with_reducible rfl
          rotate_left
          · simp only [Act.put, List.setIfInBounds_toArray, List.set_cons_zero, List.set_cons_succ, i64_w, i32_w]
            rfl
          refine pure_ (i := 4) (N := some 22) (v := undef) (a' := ?_) #[true, true, true, true, true, false, false, false, false, false, false, false, false, false, false, false, false] rfl rfl (by kernel_rfl) (fun _ _ _ h => h) (Or.inr ⟨by rfl, rfl⟩) ?_ ?_
          rotate_left
          · simp only [Act.put, List.setIfInBounds_toArray, List.set_cons_zero, List.set_cons_succ, i64_w, i32_w]
            rfl
          refine pure_ (i := 5) (N := some 23) (v := undef) (a' := ?_) #[true, true, true, true, true, true, false, false, false, false, false, false, false, false, false, false, false] rfl rfl (by kernel_rfl) (fun _ _ _ h => h) (Or.inr ⟨by rfl, rfl⟩) ?_ ?_
          rotate_left
          · simp only [Act.put, List.setIfInBounds_toArray, List.set_cons_zero, List.set_cons_succ, i64_w, i32_w]
            rfl
          refine pure_ (i := 6) (N := some 24) (v := undef) (a' := ?_) #[true, true, true, true, true, true, true, false, false, false, false, false, false, false, false, false, false] rfl rfl (by kernel_rfl) (fun _ _ _ h => h) (Or.inr ⟨by rfl, rfl⟩) ?_ ?_
          rotate_left
          · simp only [Act.put, List.setIfInBounds_toArray, List.set_cons_zero, List.set_cons_succ, i64_w, i32_w]
            rfl
          refine pure_ (i := 7) (N := some 25) (v := undef) (a' := ?_) #[true, true, true, true, true, true, true, true, false, false, false, false, false, false, false, false, false] rfl rfl (by kernel_rfl) (fun _ _ _ h => h) (Or.inr ⟨by rfl, rfl⟩) ?_ ?_
          rotate_left
          · simp only [Act.put, List.setIfInBounds_toArray, List.set_cons_zero, List.set_cons_succ, i64_w, i32_w]
            rfl
          refine pure_ (i := 8) (N := some 26) (v := undef) (a' := ?_) #[true, true, true, true, true, true, true, true, true, false, false, false, false, false, false, false, false] rfl rfl (by kernel_rfl) (fun _ _ _ h => h) (Or.inr ⟨by rfl, rfl⟩) ?_ ?_
          rotate_left
          · simp only [Act.put, List.setIfInBounds_toArray, List.set_cons_zero, List.set_cons_succ, i64_w, i32_w]
            rfl
          refine pure_ (i := 9) (N := some 27) (v := undef) (a' := ?_) #[true, true, true, true, true, true, true, true, true, true, false, false, false, false, false, false, false] rfl rfl (by kernel_rfl) (fun _ _ _ h => h) (Or.inr ⟨by rfl, rfl⟩) ?_ ?_
          rotate_left
          · simp only [Act.put, List.setIfInBounds_toArray, List.set_cons_zero, List.set_cons_succ, i64_w, i32_w]
            rfl
          refine pure_ (i := 10) (N := some 28) (v := undef) (a' := ?_) #[true, true, true, true, true, true, true, true, true, true, true, false, false, false, false, false, false] rfl rfl (by kernel_rfl) (fun _ _ _ h => h) (Or.inr ⟨by rfl, rfl⟩) ?_ ?_
          rotate_left
          · simp only [Act.put, List.setIfInBounds_toArray, List.set_cons_zero, List.set_cons_succ, i64_w, i32_w]
            rfl
          refine pure_ (i := 11) (N := some 29) (v := undef) (a' := ?_) #[true, true, true, true, true, true, true, true, true, true, true, true, false, false, false, false, false] rfl rfl (by kernel_rfl) (fun _ _ _ h => h) (Or.inr ⟨by rfl, rfl⟩) ?_ ?_
          rotate_left
          · simp only [Act.put, List.setIfInBounds_toArray, List.set_cons_zero, List.set_cons_succ, i64_w, i32_w]
            rfl
          refine pure_ (i := 12) (N := some 30) (v := undef) (a' := ?_) #[true, true, true, true, true, true, true, true, true, true, true, true, true, false, false, false, false] rfl rfl (by kernel_rfl) (fun _ _ _ h => h) (Or.inr ⟨by rfl, rfl⟩) ?_ ?_
          rotate_left
          · simp only [Act.put, List.setIfInBounds_toArray, List.set_cons_zero, List.set_cons_succ, i64_w, i32_w]
            rfl
          refine pure_ (i := 13) (N := some 31) (v := undef) (a' := ?_) #[true, true, true, true, true, true, true, true, true, true, true, true, true, true, false, false, false] rfl rfl (by kernel_rfl) (fun _ _ _ h => h) (Or.inr ⟨by rfl, rfl⟩) ?_ ?_
          rotate_left
          · simp only [Act.put, List.setIfInBounds_toArray, List.set_cons_zero, List.set_cons_succ, i64_w, i32_w]
            rfl
          refine pure_ (i := 14) (N := some 32) (v := undef) (a' := ?_) #[true, true, true, true, true, true, true, true, true, true, true, true, true, true, true, false, false] rfl rfl (by kernel_rfl) (fun _ _ _ h => h) (Or.inr ⟨by rfl, rfl⟩) ?_ ?_
          rotate_left
          · simp only [Act.put, List.setIfInBounds_toArray, List.set_cons_zero, List.set_cons_succ, i64_w, i32_w]
            rfl
          refine pure_ (i := 15) (N := some 33) (v := undef) (a' := ?_) #[true, true, true, true, true, true, true, true, true, true, true, true, true, true, true, true, false] rfl rfl (by kernel_rfl) (fun _ _ _ h => h) (Or.inr ⟨by rfl, rfl⟩) ?_ ?_
          rotate_left
          · simp only [Act.put, List.setIfInBounds_toArray, List.set_cons_zero, List.set_cons_succ, i64_w, i32_w]
            rfl
          refine pure_ (i := 16) (N := some 34) (v := ?_) (a' := ?_) #[true, true, true, true, true, true, true, true, true, true, true, true, true, true, true, true, true] rfl rfl (by kernel_rfl) (fun _ _ _ h => h) (Or.inl ⟨by rfl, ?_⟩) ?_ ?_
          rotate_left
          · intro w'
            go_simp
            with_reducible rfl
          rotate_left
          · simp only [Act.put, List.setIfInBounds_toArray, List.set_cons_zero, List.set_cons_succ, i64_w, i32_w]
            rfl
          refine done_ (by kernel_rfl) ?_
          change Exit.then _ _ Exit.normal _ wr.drew
          have huz : Upd g w wr.drew := ⟨hu.os, hu.tape, hu.output, hu.size, hu.block⟩
          have hGz : wr.drew.heap[g]? = some (.cells (cellsA ys ++ t).toArray 33 (0, 0)) := HGz.out
          have HG := Lib.hid hGz
          clear hGz HGz
          generalize wr.drew = w3 at *
          go_wp2
          go_roundw
          case rel =>
            refine ⟨k + 1, rfl, by omega, .inl (by omega), ?_, huz⟩
            rw [show k + 1 - 1 = k by omega, ← HSK.out]
            exact HG.out
          case measure => simp [intOf]; omega
        · have hd0 : decide (0 < ((m + 1 : Nat) : Int)) = true := by simp
          obtain ⟨x, hx⟩ : ∃ x, ys.getD (m + 1) z33 = x := ⟨_, rfl⟩
          obtain ⟨y, hy⟩ : ∃ y, ys.getD m z33 = y := ⟨_, rfl⟩
          have hrow := fun (W : World) (h : W.heap[g]? = some (.cells (cellsA ys ++ t).toArray 33 (0, 0))) => rowA h (by omega) x y hx hy
          have hB0 : wr.drew.heap[g]? = some (.cells (cellsA ys ++ t).toArray 33 (0, 0)) := hG
          obtain ⟨hc0, hc1, hc2, hc3, hc4, hc5⟩ := hrow wr.drew hB0
          have e1 : wrap64 (m : Int) = (m : Int) := by unfold wrap64; omega
          have e2 : IntKind.i64.wrap (m : Int) = (m : Int) := IntWalk.i64_in _ (by omega)
          have la := fun W => at_attr g n cap ((m : Int) + 1) (m + 1) W (by omega) (by omega)
          have lb := fun W => at_attr g n cap (m : Int) m W rfl (by omega)
          rw [show 3 * (m + 1) = 3 * m + 3 by omega] at la
          have HX := Lib.hid hx
          have HY := Lib.hid hy
          clear hx hy
          go_wp2
          refine start_ (n := 17) (S := fun w' => w'.cell? ⟨g, 3 * m + 3, none⟩ = some (.string x.f0) ∧ w'.cell? ⟨g, 3 * m + 4, none⟩ = some (.string x.f1) ∧ w'.cell? ⟨g, 3 * m + 5, none⟩ = some (.string x.f2) ∧ w'.cell? ⟨g, 3 * m, none⟩ = some (.string y.f0) ∧ w'.cell? ⟨g, 3 * m + 1, none⟩ = some (.string y.f1) ∧ w'.cell? ⟨g, 3 * m + 2, none⟩ = some (.string y.f2)) (ds := []) #[false, false, false, false, false, false, false, false, false, false, false, false, false, false, false, false, false] (by kernel_rfl) rfl rfl ⟨hc0, hc1, hc2, hc3, hc4, hc5⟩ (fun hHeld => ?_)
          refine pure_ (i := 0) (N := some 18) (v := ?_) (a' := ?_) #[true, false, false, false, false, false, false, false, false, false, false, false, false, false, false, false, false] rfl rfl (by kernel_rfl) (fun _ _ _ h => h) (Or.inl ⟨by rfl, ?_⟩) ?_ ?_
          rotate_left
          · intro w'
            go_simp
            with_reducible rfl
          rotate_left
          · simp only [Act.put, List.setIfInBounds_toArray, List.set_cons_zero, List.set_cons_succ, i64_w, i32_w]
            rfl
          refine pure_ (i := 1) (N := some 19) (v := ?_) (a' := ?_) #[true, true, false, false, false, false, false, false, false, false, false, false, false, false, false, false, false] rfl rfl (by kernel_rfl) (fun _ _ _ h => h) (Or.inl ⟨by rfl, ?_⟩) ?_ ?_
          rotate_left
          · intro w'
            go_simp
            with_reducible rfl
          rotate_left
          · simp only [Act.put, List.setIfInBounds_toArray, List.set_cons_zero, List.set_cons_succ, i64_w, i32_w]
            rfl
          refine pure_ (i := 2) (N := some 20) (v := ?_) (a' := ?_) #[true, true, true, false, false, false, false, false, false, false, false, false, false, false, false, false, false] rfl rfl (by kernel_rfl) (fun _ _ _ h => h) (Or.inl ⟨by rfl, ?_⟩) ?_ ?_
          rotate_left
          · intro w'
            go_simp
            with_reducible rfl
          rotate_left
          · simp only [Act.put, List.setIfInBounds_toArray, List.set_cons_zero, List.set_cons_succ, i64_w, i32_w]
            rfl
          refine pure_ (i := 3) (N := some 21) (v := ?_) (a' := ?_) #[true, true, true, true, false, false, false, false, false, false, false, false, false, false, false, false, false] rfl rfl (by kernel_rfl) (fun _ _ _ h => h) (Or.inl ⟨by rfl, ?_⟩) ?_ ?_
          rotate_left
          · intro w'
            go_simp
            with_reducible rfl
          rotate_left
          · simp only [Act.put, List.setIfInBounds_toArray, List.set_cons_zero, List.set_cons_succ, i64_w, i32_w]
            rfl
          refine pure_ (i := 4) (N := some 22) (v := ?_) (a' := ?_) #[true, true, true, true, true, false, false, false, false, false, false, false, false, false, false, false, false] rfl rfl (by kernel_rfl) (fun _ _ _ h => h) (Or.inl ⟨by rfl, ?_⟩) ?_ ?_
          rotate_left
          · intro w'
            go_simp
            with_reducible rfl
          rotate_left
          · simp only [Act.put, List.setIfInBounds_toArray, List.set_cons_zero, List.set_cons_succ, i64_w, i32_w]
            rfl
          refine pure_ (i := 5) (N := some 23) (v := ?_) (a' := ?_) #[true, true, true, true, true, true, false, false, false, false, false, false, false, false, false, false, false] rfl rfl (by kernel_rfl) (fun _ _ _ h => h) (Or.inl ⟨by rfl, ?_⟩) ?_ ?_
          rotate_left
          · intro w'
            go_simp
            with_reducible rfl
          rotate_left
          · simp only [Act.put, List.setIfInBounds_toArray, List.set_cons_zero, List.set_cons_succ, i64_w, i32_w]
            rfl
          refine pure_ (i := 6) (N := some 24) (v := ?_) (a' := ?_) #[true, true, true, true, true, true, true, false, false, false, false, false, false, false, false, false, false] rfl rfl (by kernel_rfl) (fun _ _ _ h => h) (Or.inl ⟨by rfl, ?_⟩) ?_ ?_
          rotate_left
          · intro w'
            go_simp
            with_reducible rfl
          rotate_left
          · simp only [Act.put, List.setIfInBounds_toArray, List.set_cons_zero, List.set_cons_succ, i64_w, i32_w]
            rfl
          refine pure_ (i := 7) (N := some 25) (v := ?_) (a' := ?_) #[true, true, true, true, true, true, true, true, false, false, false, false, false, false, false, false, false] rfl rfl (by kernel_rfl) (fun _ _ _ h => h) (Or.inl ⟨by rfl, ?_⟩) ?_ ?_
          rotate_left
          · intro w'
            go_simp
            with_reducible rfl
          rotate_left
          · simp only [Act.put, List.setIfInBounds_toArray, List.set_cons_zero, List.set_cons_succ, i64_w, i32_w]
            rfl
          refine pure_ (i := 9) (N := some 27) (v := ?_) (a' := ?_) #[true, true, true, true, true, true, true, true, false, true, false, false, false, false, false, false, false] rfl rfl (by kernel_rfl) (fun _ _ _ h => h) (Or.inl ⟨by rfl, ?_⟩) ?_ ?_
          rotate_left
          · intro w'
            go_simp
            with_reducible rfl
          rotate_left
          · simp only [Act.put, List.setIfInBounds_toArray, List.set_cons_zero, List.set_cons_succ, i64_w, i32_w]
            rfl
          refine pure_ (i := 10) (N := some 28) (v := ?_) (a' := ?_) #[true, true, true, true, true, true, true, true, false, true, true, false, false, false, false, false, false] rfl rfl (by kernel_rfl) (fun _ _ _ h => h) (Or.inl ⟨by rfl, ?_⟩) ?_ ?_
          rotate_left
          · intro w'
            go_simp
            with_reducible rfl
          rotate_left
          · simp only [Act.put, List.setIfInBounds_toArray, List.set_cons_zero, List.set_cons_succ, i64_w, i32_w]
            rfl
          refine pure_ (i := 11) (N := some 29) (v := ?_) (a' := ?_) #[true, true, true, true, true, true, true, true, false, true, true, true, false, false, false, false, false] rfl rfl (by kernel_rfl) (fun _ _ _ h => h) (Or.inl ⟨by rfl, ?_⟩) ?_ ?_
          rotate_left
          · intro w'
            go_simp
            with_reducible rfl
          rotate_left
          · simp only [Act.put, List.setIfInBounds_toArray, List.set_cons_zero, List.set_cons_succ, i64_w, i32_w]
            rfl
          refine pure_ (i := 12) (N := some 30) (v := ?_) (a' := ?_) #[true, true, true, true, true, true, true, true, false, true, true, true, true, false, false, false, false] rfl rfl (by kernel_rfl) (fun _ _ _ h => h) (Or.inl ⟨by rfl, ?_⟩) ?_ ?_
          rotate_left
          · intro w'
            go_simp
            with_reducible rfl
          rotate_left
          · simp only [Act.put, List.setIfInBounds_toArray, List.set_cons_zero, List.set_cons_succ, i64_w, i32_w]
            rfl
          refine take_ (i := 8) (N := some 26) (v := ?_) (a' := ?_) #[true, true, true, true, true, true, true, true, true, true, true, true, true, false, false, false, false] rfl rfl (by kernel_rfl) (fun _ _ _ h => h) (Or.inl ⟨by rfl, ?_⟩) hHeld ?_ ?_
          rotate_left
          · rintro w' ⟨s0, s1, s2, s3, s4, s5⟩
            go_simp
            with_reducible rfl
          rotate_left
          · simp only [Act.put, List.setIfInBounds_toArray, List.set_cons_zero, List.set_cons_succ, i64_w, i32_w]
            rfl
          refine take_ (i := 13) (N := some 31) (v := ?_) (a' := ?_) #[true, true, true, true, true, true, true, true, true, true, true, true, true, true, false, false, false] rfl rfl (by kernel_rfl) (fun _ _ _ h => h) (Or.inl ⟨by rfl, ?_⟩) hHeld ?_ ?_
          rotate_left
          · rintro w' ⟨s0, s1, s2, s3, s4, s5⟩
            go_simp
            with_reducible rfl
          rotate_left
          · simp only [Act.put, List.setIfInBounds_toArray, List.set_cons_zero, List.set_cons_succ, i64_w, i32_w]
            rfl
          refine one_ (i := 14) (N := some 32) #[true, true, true, true, true, true, true, true, true, true, true, true, true, true, true, false, false] rfl rfl (by kernel_rfl) (by decide) (fun K hK => ?_)
          refine gov_ Tryd.func44 (by kernel_rfl) rfl #[.agg (vA x).toArray, .agg (vA y).toArray] (by rfl) rfl rfl rfl (by simp only [List.map_toArray, List.map_cons, List.map_nil]; rfl) ?_
          refine (cmp_calls x y _).mono ?_
          rintro e w3 ⟨rfl, hb3⟩
          refine ⟨_, rfl, ?_⟩
          have hbd := hb3
          have hlt3 : g < wr.drew.heap.size := (Array.getElem?_eq_some_iff.mp hB0).1
          have hB3 := (hb3.block g hlt3).trans hB0
          refine hK.out _ _ ⟨(hrow w3 hB3).1, (hrow w3 hB3).2.1, (hrow w3 hB3).2.2.1, (hrow w3 hB3).2.2.2.1, (hrow w3 hB3).2.2.2.2.1, (hrow w3 hB3).2.2.2.2.2⟩ (fun hHeld => ?_)
          clear hK K
          refine norm_ (a' := ?_) ?_ ?_
          rotate_left
          · show Act.put _ (some 32) _ = _
            simp only [Act.put, List.setIfInBounds_toArray, List.set_cons_zero, List.set_cons_succ, i64_w, i32_w]
            rfl
          refine pure_ (i := 15) (N := some 33) (v := ?_) (a' := ?_) #[true, true, true, true, true, true, true, true, true, true, true, true, true, true, true, true, false] rfl rfl (by kernel_rfl) (fun _ _ _ h => h) (Or.inl ⟨by rfl, ?_⟩) ?_ ?_
          rotate_left
          · intro w'
            go_simp
            with_reducible rfl
          rotate_left
          · simp only [Act.put, List.setIfInBounds_toArray, List.set_cons_zero, List.set_cons_succ, i64_w, i32_w]
            rfl
          refine pure_ (i := 16) (N := some 34) (v := ?_) (a' := ?_) #[true, true, true, true, true, true, true, true, true, true, true, true, true, true, true, true, true] rfl rfl (by kernel_rfl) (fun _ _ _ h => h) (Or.inl ⟨by rfl, ?_⟩) ?_ ?_
          rotate_left
          · intro w'
            go_simp
            with_reducible rfl
          rotate_left
          · simp only [Act.put, List.setIfInBounds_toArray, List.set_cons_zero, List.set_cons_succ, i64_w, i32_w]
            rfl
          refine done_ (by kernel_rfl) ?_
          have hu3 : Upd g wr w3 := Upd.of_below (B := g) (w := wr) ⟨hbd.os, hbd.tape, hbd.output, hbd.size, hbd.block⟩
          have hG3 := Lib.hid hG
          clear hc0 hc1 hc2 hc3 hc4 hc5 hB0 hG hb3 hbd hHeld
          by_cases hneg : cmpA x y < 0
          · have hdn : decide (cmpA x y < 0) = true := by simpa using hneg
            have HB3 := Lib.hid hB3
            clear hB3
            go_wp2
            obtain ⟨hc0, hc1, hc2, hc3, hc4, hc5⟩ := hrow w3.drew HB3.out
            refine start_ (n := 18) (S := fun w' => w'.cell? ⟨g, 3 * m + 3, none⟩ = some (.string x.f0) ∧ w'.cell? ⟨g, 3 * m + 4, none⟩ = some (.string x.f1) ∧ w'.cell? ⟨g, 3 * m + 5, none⟩ = some (.string x.f2) ∧ w'.cell? ⟨g, 3 * m, none⟩ = some (.string y.f0) ∧ w'.cell? ⟨g, 3 * m + 1, none⟩ = some (.string y.f1) ∧ w'.cell? ⟨g, 3 * m + 2, none⟩ = some (.string y.f2)) (ds := [15, 17]) #[false, false, false, false, false, false, false, false, false, false, false, false, false, false, false, false, false, false] (by kernel_rfl) rfl rfl ⟨hc0, hc1, hc2, hc3, hc4, hc5⟩ (fun hHeld => ?_)
            refine pure_ (i := 0) (N := some 37) (v := ?_) (a' := ?_) #[true, false, false, false, false, false, false, false, false, false, false, false, false, false, false, false, false, false] rfl rfl (by kernel_rfl) (fun _ _ _ h => h) (Or.inl ⟨by rfl, ?_⟩) ?_ ?_
            rotate_left
            · intro w'
              go_simp
              with_reducible rfl
            rotate_left
            · simp only [Act.put, List.setIfInBounds_toArray, List.set_cons_zero, List.set_cons_succ, i64_w, i32_w]
              rfl
            refine pure_ (i := 1) (N := some 38) (v := ?_) (a' := ?_) #[true, true, false, false, false, false, false, false, false, false, false, false, false, false, false, false, false, false] rfl rfl (by kernel_rfl) (fun _ _ _ h => h) (Or.inl ⟨by rfl, ?_⟩) ?_ ?_
            rotate_left
            · intro w'
              go_simp
              with_reducible rfl
            rotate_left
            · simp only [Act.put, List.setIfInBounds_toArray, List.set_cons_zero, List.set_cons_succ, i64_w, i32_w]
              rfl
            refine pure_ (i := 2) (N := some 39) (v := ?_) (a' := ?_) #[true, true, true, false, false, false, false, false, false, false, false, false, false, false, false, false, false, false] rfl rfl (by kernel_rfl) (fun _ _ _ h => h) (Or.inl ⟨by rfl, ?_⟩) ?_ ?_
            rotate_left
            · intro w'
              go_simp
              with_reducible rfl
            rotate_left
            · simp only [Act.put, List.setIfInBounds_toArray, List.set_cons_zero, List.set_cons_succ, i64_w, i32_w]
              rfl
            refine pure_ (i := 3) (N := some 40) (v := ?_) (a' := ?_) #[true, true, true, true, false, false, false, false, false, false, false, false, false, false, false, false, false, false] rfl rfl (by kernel_rfl) (fun _ _ _ h => h) (Or.inl ⟨by rfl, ?_⟩) ?_ ?_
            rotate_left
            · intro w'
              go_simp
              with_reducible rfl
            rotate_left
            · simp only [Act.put, List.setIfInBounds_toArray, List.set_cons_zero, List.set_cons_succ, i64_w, i32_w]
              rfl
            refine pure_ (i := 4) (N := some 41) (v := ?_) (a' := ?_) #[true, true, true, true, true, false, false, false, false, false, false, false, false, false, false, false, false, false] rfl rfl (by kernel_rfl) (fun _ _ _ h => h) (Or.inl ⟨by rfl, ?_⟩) ?_ ?_
            rotate_left
            · intro w'
              go_simp
              with_reducible rfl
            rotate_left
            · simp only [Act.put, List.setIfInBounds_toArray, List.set_cons_zero, List.set_cons_succ, i64_w, i32_w]
              rfl
            refine pure_ (i := 5) (N := some 42) (v := ?_) (a' := ?_) #[true, true, true, true, true, true, false, false, false, false, false, false, false, false, false, false, false, false] rfl rfl (by kernel_rfl) (fun _ _ _ h => h) (Or.inl ⟨by rfl, ?_⟩) ?_ ?_
            rotate_left
            · intro w'
              go_simp
              with_reducible rfl
            rotate_left
            · simp only [Act.put, List.setIfInBounds_toArray, List.set_cons_zero, List.set_cons_succ, i64_w, i32_w]
              rfl
            refine pure_ (i := 6) (N := some 43) (v := ?_) (a' := ?_) #[true, true, true, true, true, true, true, false, false, false, false, false, false, false, false, false, false, false] rfl rfl (by kernel_rfl) (fun _ _ _ h => h) (Or.inl ⟨by rfl, ?_⟩) ?_ ?_
            rotate_left
            · intro w'
              go_simp
              with_reducible rfl
            rotate_left
            · simp only [Act.put, List.setIfInBounds_toArray, List.set_cons_zero, List.set_cons_succ, i64_w, i32_w]
              rfl
            refine pure_ (i := 7) (N := some 44) (v := ?_) (a' := ?_) #[true, true, true, true, true, true, true, true, false, false, false, false, false, false, false, false, false, false] rfl rfl (by kernel_rfl) (fun _ _ _ h => h) (Or.inl ⟨by rfl, ?_⟩) ?_ ?_
            rotate_left
            · intro w'
              go_simp
              with_reducible rfl
            rotate_left
            · simp only [Act.put, List.setIfInBounds_toArray, List.set_cons_zero, List.set_cons_succ, i64_w, i32_w]
              rfl
            refine pure_ (i := 8) (N := some 45) (v := ?_) (a' := ?_) #[true, true, true, true, true, true, true, true, true, false, false, false, false, false, false, false, false, false] rfl rfl (by kernel_rfl) (fun _ _ _ h => h) (Or.inl ⟨by rfl, ?_⟩) ?_ ?_
            rotate_left
            · intro w'
              go_simp
              with_reducible rfl
            rotate_left
            · simp only [Act.put, List.setIfInBounds_toArray, List.set_cons_zero, List.set_cons_succ, i64_w, i32_w]
              rfl
            refine pure_ (i := 10) (N := some 47) (v := ?_) (a' := ?_) #[true, true, true, true, true, true, true, true, true, false, true, false, false, false, false, false, false, false] rfl rfl (by kernel_rfl) (fun _ _ _ h => h) (Or.inl ⟨by rfl, ?_⟩) ?_ ?_
            rotate_left
            · intro w'
              go_simp
              with_reducible rfl
            rotate_left
            · simp only [Act.put, List.setIfInBounds_toArray, List.set_cons_zero, List.set_cons_succ, i64_w, i32_w]
              rfl
            refine pure_ (i := 11) (N := some 48) (v := ?_) (a' := ?_) #[true, true, true, true, true, true, true, true, true, false, true, true, false, false, false, false, false, false] rfl rfl (by kernel_rfl) (fun _ _ _ h => h) (Or.inl ⟨by rfl, ?_⟩) ?_ ?_
            rotate_left
            · intro w'
              go_simp
              with_reducible rfl
            rotate_left
            · simp only [Act.put, List.setIfInBounds_toArray, List.set_cons_zero, List.set_cons_succ, i64_w, i32_w]
              rfl
            refine pure_ (i := 12) (N := some 49) (v := ?_) (a' := ?_) #[true, true, true, true, true, true, true, true, true, false, true, true, true, false, false, false, false, false] rfl rfl (by kernel_rfl) (fun _ _ _ h => h) (Or.inl ⟨by rfl, ?_⟩) ?_ ?_
            rotate_left
            · intro w'
              go_simp
              with_reducible rfl
            rotate_left
            · simp only [Act.put, List.setIfInBounds_toArray, List.set_cons_zero, List.set_cons_succ, i64_w, i32_w]
              rfl
            refine take_ (i := 9) (N := some 46) (v := ?_) (a' := ?_) #[true, true, true, true, true, true, true, true, true, true, true, true, true, false, false, false, false, false] rfl rfl (by kernel_rfl) (fun _ _ _ h => h) (Or.inl ⟨by rfl, ?_⟩) hHeld ?_ ?_
            rotate_left
            · rintro w' ⟨s0, s1, s2, s3, s4, s5⟩
              go_simp
              with_reducible rfl
            rotate_left
            · simp only [Act.put, List.setIfInBounds_toArray, List.set_cons_zero, List.set_cons_succ, i64_w, i32_w]
              rfl
            refine take_ (i := 13) (N := some 50) (v := ?_) (a' := ?_) #[true, true, true, true, true, true, true, true, true, true, true, true, true, true, false, false, false, false] rfl rfl (by kernel_rfl) (fun _ _ _ h => h) (Or.inl ⟨by rfl, ?_⟩) hHeld ?_ ?_
            rotate_left
            · rintro w' ⟨s0, s1, s2, s3, s4, s5⟩
              go_simp
              with_reducible rfl
            rotate_left
            · simp only [Act.put, List.setIfInBounds_toArray, List.set_cons_zero, List.set_cons_succ, i64_w, i32_w]
              rfl
            refine pure_ (i := 14) (N := some 51) (v := ?_) (a' := ?_) #[true, true, true, true, true, true, true, true, true, true, true, true, true, true, true, false, false, false] rfl rfl (by kernel_rfl) (fun _ _ _ h => h) (Or.inl ⟨by rfl, ?_⟩) ?_ ?_
            rotate_left
            · intro w'
              go_simp
              with_reducible rfl
            rotate_left
            · simp only [Act.put, List.setIfInBounds_toArray, List.set_cons_zero, List.set_cons_succ, i64_w, i32_w]
              rfl
            refine last_ (i := 15) (N := none) #[true, true, true, true, true, true, true, true, true, true, true, true, true, true, true, true, false, false] rfl rfl (by kernel_rfl) (by decide) (fun K hK => ?_)
            refine skip_ (w1 := w3.drew.setCells g (3 * m + 3) (vA y)) (by rfl) rfl ?_ ?_
            · exact store_run_value _ _ _ rfl _ rfl _ rfl (storeA1 HB3.out m y (by omega))
            refine hK.out _ _ ?_
            clear hK K
            refine pure_ (i := 16) (N := some 52) (v := ?_) (a' := ?_) #[true, true, true, true, true, true, true, true, true, true, true, true, true, true, true, true, true, false] rfl rfl (by kernel_rfl) (fun _ _ _ h => h) (Or.inl ⟨by rfl, ?_⟩) ?_ ?_
            rotate_left
            · intro w'
              go_simp
              with_reducible rfl
            rotate_left
            · simp only [Act.put, List.setIfInBounds_toArray, List.set_cons_zero, List.set_cons_succ, i64_w, i32_w]
              rfl
            refine last_ (i := 17) (N := none) #[true, true, true, true, true, true, true, true, true, true, true, true, true, true, true, true, true, true] rfl rfl (by kernel_rfl) (by decide) (fun K hK => ?_)
            refine skip_ (w1 := (w3.drew.setCells g (3 * m + 3) (vA y)).setCells g (3 * m) (vA x)) (by rfl) rfl ?_ ?_
            · exact store_run_value _ _ _ rfl _ rfl _ rfl (store_A (setA1 HB3.out m y (by omega)) m x (by simp; omega))
            refine hK.out _ _ ?_
            clear hK K
            refine done_ (by kernel_rfl) ?_
            have hfin := set_A (setA1 HB3.out m y (by omega)) m x (by simp; omega)
            have hsw : (ys.set (m + 1) y).set m x = swapA ys (m + 1) := by rw [← HX.out, ← HY.out]; rfl
            have hnx : sinkA (m + 1) ys = sinkA m (swapA ys (m + 1)) := by
              rw [sinkA, HX.out, HY.out, if_pos hneg]
            rw [hsw] at hfin
            have hu4 : Upd g w3 ((w3.drew.setCells g (3 * m + 3) (vA y)).setCells g (3 * m) (vA x)) := upd_setCells _ _ _ (upd_setCells _ _ w3.drew ⟨rfl, rfl, rfl, Nat.le_refl _, fun _ _ _ => rfl⟩)
            have HF := Lib.hid hfin
            have HNX := Lib.hid hnx
            have HU4 := Lib.hid hu4
            generalize (w3.drew.setCells g (3 * m + 3) (vA y)).setCells g (3 * m) (vA x) = w5 at *
            clear hfin hsw hnx hu4 hc0 hc1 hc2 hc3 hc4 hc5
            go_wp2
            go_roundw
            case rel => exact ⟨m, swapA ys (m + 1), by congr 1, by omega, by rw [swapA_len]; exact HYL.out, HNX.out.symm.trans HSK.out, HF.out, (hu.trans hu3).trans HU4.out⟩
            case measure => simp [intOf]
          · have hdn : decide (cmpA x y < 0) = false := by simpa using hneg
            have HB3 := Lib.hid hB3
            clear hB3
            go_wp2
            go_roundw
            case rel =>
              refine ⟨k + 1, rfl, by omega, .inl (by omega), ?_, hu.trans hu3⟩
              rw [show k + 1 - 1 = k by omega, ← HSK.out, sinkA, HX.out, HY.out, if_neg hneg]
              exact HB3.out
            case measure => simp [intOf]; omega
    · have hkn : sortedTo xs (k - 1) = sortA xs := by
        have := HN1.out
        unfold sortA
        rw [this]
        rcases hk with hk | hk
        · rw [show k = n by omega]
        · subst hk
          rw [show n - 1 = 0 by omega]
      rw [hkn] at hG
      have HG := Lib.hid hG
      clear hG hkn
      have hd : decide ((k : Int) < n) = false := by simp; omega
      go_wp2
      go_end0
      exact ⟨rfl, HG.out, hu⟩
end Go.Proofs.YtolpefnedpgaaaaDoor.X
