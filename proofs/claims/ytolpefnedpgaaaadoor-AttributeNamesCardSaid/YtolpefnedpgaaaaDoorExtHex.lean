/-
  basic.Hex: bytes in base 16.
-/
import Derived.Test.YtolpefnedpgaaaaDoorExtFp4
import Derived.OwnWalk
import Derived.Test.YtolpefnedpgaaaaDoorWLast
namespace Go.Proofs.YtolpefnedpgaaaaDoor.X
open Go.RowKit Go.Proofs.YtolpefnedpgaaaaDoorW.PrintWords Go.Proofs.YtolpefnedpgaaaaDoorW.PrintLast
set_option linter.unusedVariables false
set_option linter.unusedSimpArgs false
def hexD (n : Nat) : Int := if n < 10 then 48 + n else 87 + n
/-- Two signs for each byte. -/
def hexL (l : List Int) : List Int := l.flatMap fun x => [hexD (x / 16).toNat, hexD (x % 16).toNat]
theorem hexL_len (l : List Int) : (hexL l).length = 2 * l.length := by
  induction l with
  | nil => rfl
  | cons x l ih => simp only [hexL, List.flatMap_cons, List.length_append, List.length_cons] at ih ⊢; rw [ih]; simp; omega
theorem u8info : ∃ i, Tryd.prog.info? 5 = some i ∧ i.zero = some (.int .u8 0) ∧ i.size = 1 ∧ i.bytes = 1 := by
  obtain ⟨i, h, h2⟩ := Option.map_eq_some_iff.1 (show (Tryd.prog.info? 5).map (fun i => (i.zero, i.size, i.bytes)) = some (some (.int .u8 0), 1, 1) by kernel_rfl)
  simp only [Prod.mk.injEq] at h2
  exact ⟨i, h, h2.1, h2.2.1, h2.2.2⟩
theorem append_run_value {P : Program} {a : Act} {o : Oper} {w : World} (s x : Operand) (t : TypeId) (ho : o.op = .call { callee := .builtin .append, args := #[s, x], argTypes := #[t, t] }) (u v : Value) (hs : a.eval s = u) (hx : a.eval x = v) {v' : Value} {w' : World}
    (hr : (Builtin.append_ #[t, t] o.type #[u, v]).run P w = .ok v' w') : (execOp a.eval o).run P w = .ok (.value v') w' := by
  unfold execOp
  simp only [ho, resolve, invoke, builtin, Sem.run_bind, Sem.run_pure, Result.andThen_ok, List.map_toArray, List.map_cons, List.map_nil, hs, hx, hr]
theorem and15 (x : Int) (h0 : 0 ≤ x) (h1 : x < 256) : bits .and .u8 x 15 = x % 16 := by
  obtain ⟨m, rfl⟩ := Int.eq_ofNat_of_zero_le h0
  have : ∀ k : Fin 256, bits .and .u8 ((k.val : Nat) : Int) 15 = ((k.val : Nat) : Int) % 16 := by decide +kernel
  exact this ⟨m, by omega⟩
theorem tens_at (i : Int) (h0 : 0 ≤ i) (h1 : i < 16) (W : World) : (Instr.index 9 (.string ⟨#[48, 49, 50, 51, 52, 53, 54, 55, 56, 57, 97, 98, 99, 100, 101, 102]⟩) (.int .u8 i)).run Tryd.prog W = .ok (.int .u8 (hexD i.toNat)) W := by
  obtain ⟨m, rfl⟩ := Int.eq_ofNat_of_zero_le h0
  rcases (show m = 0 ∨ m = 1 ∨ m = 2 ∨ m = 3 ∨ m = 4 ∨ m = 5 ∨ m = 6 ∨ m = 7 ∨ m = 8 ∨ m = 9 ∨ m = 10 ∨ m = 11 ∨ m = 12 ∨ m = 13 ∨ m = 14 ∨ m = 15 by omega) with rfl | rfl | rfl | rfl | rfl | rfl | rfl | rfl | rfl | rfl | rfl | rfl | rfl | rfl | rfl | rfl <;> kernel_rfl
theorem hexL_snoc (l : List Int) (x : Int) : hexL (l ++ [x]) = hexL l ++ [hexD (x / 16).toNat, hexD (x % 16).toNat] := by simp [hexL]
set_option maxHeartbeats 2000000 in
set_option maxRecDepth 100000 in
theorem hex_calls (A0 : Option Addr) (c0 : Nat) (l : List Int) (w : World) (hr : Kd.C (Kd.int .u8) w A0 l.length l) (hc : l.length ≤ c0) (hl : l.length ≤ 100000) (h8 : ∀ x ∈ l, 0 ≤ x ∧ x < 256) :
    Calls Tryd.prog 50 #[.slice A0 l.length c0] w fun e w' => e = .returned (.string (strOfNums (hexL l))) ∧ Below w.heap.size w w' := by
  obtain ⟨i8, hi8, hz8, hs8, hb8⟩ := u8info
  go_enter Tryd.func50, Tryd.ntmps50
  go_wp2
  obtain ⟨w1, hmk, hown, hg⟩ := run_make_own (P := Tryd.prog) w w.heap.size 63 5 i8 (.int .u8 0) 1 Tryd.underlying63 hi8 hz8 hs8 .i64 .i64 (2 * l.length) (by rw [hb8]; omega) (by unfold maxLen; omega) (Nat.le_refl _)
  rw [show ((2 * l.length : Nat) : Int) = 2 * (l.length : Int) by omega] at hmk
  rw [hmk]
  simp only [Result.andThen]
  have hbel : Below w.heap.size w w1 := (Below.refl _ _).grown hg (Nat.le_refl _) (by simp)
  go_wp2
  go_loopw [3, 12] (fun o i wr => ∃ k, i = .int .i64 (k : Nat) ∧ k ≤ l.length ∧ o = .slice (some ⟨w.heap.size, 0, none⟩) (2 * k) (2 * l.length) ∧ wr.ownsRow w.heap.size 5 1 (.slice (some ⟨w.heap.size, 0, none⟩) (2 * k) (2 * l.length)) (2 * k) (nums .u8 (hexL (l.take k))) ∧ Below w.heap.size w wr)
    (fun _ i _ => (l.length - intOf i).toNat)
  case atStart => exact ⟨0, rfl, by omega, rfl, by simpa [hexL, nums] using hown, hbel⟩
  case round =>
    obtain ⟨k, rfl, hk, rfl, ho, hb⟩ := hrel
    by_cases hlt : k < l.length
    · have hd : decide ((k : Int) < l.length) = true := by simp; omega
      obtain ⟨ad, rfl, hcell⟩ := Kd.at_int (Kd.C_below hr hb) (k : Int) (by omega) (by omega)
      simp only [Int.toNat_natCast] at hcell
      have hx := h8 (l.getD k 0) (by rw [List.getD_eq_getElem?_getD, List.getElem?_eq_getElem hlt]; simp)
      have hrd : rd l (k : Int) = l.getD k 0 := rfl
      rw [hrd] at hcell
      have hsn : hexL (l.take (k + 1)) = hexL (l.take k) ++ [hexD (l.getD k 0 / 16).toNat, hexD (l.getD k 0 % 16).toNat] := by
        rw [List.take_add_one, List.getElem?_eq_getElem hlt]
        simp only [Option.toList_some]
        rw [hexL_snoc, List.getD_eq_getElem?_getD, List.getElem?_eq_getElem hlt]
        rfl
      generalize l.getD k 0 = x at *
      have hcd : wr.drew.cell? (ad.add k) = some (.int .u8 x) := hcell
      have hm := and15 x hx.1 hx.2
      have t1 := tens_at (x / 16) (by omega) (by omega)
      have t2 := tens_at (x % 16) (by omega) (by omega)
      generalize hexD (x / 16).toNat = p at *
      generalize hexD (x % 16).toNat = q at *
      have HS := Lib.hid hsn
      have hlk := hexL_len (l.take k)
      rw [List.length_take, Nat.min_eq_left (by omega)] at hlk
      have HLK := Lib.hid hlk
      clear hsn hlk
      go_wp2
      have ho2 := ho.drew
      have hb2 := hb.drew
      have hba : Below wr.drew.heap.size wr.drew (wr.drew.alloc (.cells #[.int .u8 p, .int .u8 q] 5 (0, 0))) := (Below.refl _ _).alloc (Nat.le_refl _) _
      have hnew := heap_alloc_new wr.drew (.cells #[.int .u8 p, .int .u8 q] 5 (0, 0))
      obtain ⟨w3, hrun, ho3, hg3⟩ := run_append_fits (P := Tryd.prog) (wr.drew.alloc (.cells #[.int .u8 p, .int .u8 q] 5 (0, 0))) w.heap.size 63 63 5 i8 1 Tryd.underlying63 hi8 hs8 w.heap.size (2 * k) (2 * l.length) (nums .u8 (hexL (l.take k))) (own_move ho2 (fun g hg => hba.block g (own_lt ho2 g hg))) ⟨wr.drew.heap.size, 0, none⟩ 2 2 [.int .u8 p, .int .u8 q] rfl
        (fun j u hu => by
          rw [show (Addr.add ⟨wr.drew.heap.size, 0, none⟩ j) = ⟨wr.drew.heap.size, j, none⟩ by unfold Addr.add; split <;> simp_all, blk_cell hnew, ← hu]
          simp) (fun u hu => by
          simp only [List.mem_cons, List.mem_nil_iff, or_false] at hu
          rcases hu with rfl | rfl <;> rfl) (by omega)
      have hb3 : Below w.heap.size w w3 := (hb2.alloc hb2.size _).grown hg3 (Nat.le_trans hb2.size hba.size) (by simp)
      have HR := Lib.hid hrun
      have HO3 := Lib.hid ho3
      clear hrun ho3 hg3 hnew hba ho2 ho hb hb2
      refine start_ (n := 10) (S := fun w' => True) (ds := []) #[false, false, false, false, false, false, false, false, false, false] (by kernel_rfl) rfl rfl trivial (fun hHeld => ?_)
      refine pure_ (i := 0) (N := some 16) (v := ?_) (a' := ?_) #[true, false, false, false, false, false, false, false, false, false] rfl rfl (by kernel_rfl) (fun _ _ _ h => h) (Or.inl ⟨by rfl, ?_⟩) ?_ ?_
      rotate_left
      · intro w'
        go_simp
        with_reducible rfl
      rotate_left
      · simp only [Act.put, List.setIfInBounds_toArray, List.set_cons_zero, List.set_cons_succ, i64_w, i32_w]
        rfl
      refine pure_ (i := 1) (N := some 17) (v := ?_) (a' := ?_) #[true, true, false, false, false, false, false, false, false, false] rfl rfl (by kernel_rfl) (fun _ _ _ h => h) (Or.inl ⟨by rfl, ?_⟩) ?_ ?_
      rotate_left
      · intro w'
        go_simp
        with_reducible rfl
      rotate_left
      · simp only [Act.put, List.setIfInBounds_toArray, List.set_cons_zero, List.set_cons_succ, i64_w, i32_w]
        rfl
      refine pure_ (i := 2) (N := some 18) (v := ?_) (a' := ?_) #[true, true, true, false, false, false, false, false, false, false] rfl rfl (by kernel_rfl) (fun _ _ _ h => h) (Or.inl ⟨by rfl, ?_⟩) ?_ ?_
      rotate_left
      · intro w'
        go_simp
        with_reducible rfl
      rotate_left
      · simp only [Act.put, List.setIfInBounds_toArray, List.set_cons_zero, List.set_cons_succ, i64_w, i32_w]
        rfl
      refine pure_ (i := 4) (N := some 20) (v := ?_) (a' := ?_) #[true, true, true, false, true, false, false, false, false, false] rfl rfl (by kernel_rfl) (fun _ _ _ h => h) (Or.inl ⟨by rfl, ?_⟩) ?_ ?_
      rotate_left
      · intro w'
        go_simp
        with_reducible rfl
      rotate_left
      · simp only [Act.put, List.setIfInBounds_toArray, List.set_cons_zero, List.set_cons_succ, i64_w, i32_w]
        rfl
      refine pure_ (i := 5) (N := some 21) (v := ?_) (a' := ?_) #[true, true, true, false, true, true, false, false, false, false] rfl rfl (by kernel_rfl) (fun _ _ _ h => h) (Or.inl ⟨by rfl, ?_⟩) ?_ ?_
      rotate_left
      · intro w'
        go_simp
        with_reducible rfl
      rotate_left
      · simp only [Act.put, List.setIfInBounds_toArray, List.set_cons_zero, List.set_cons_succ, i64_w, i32_w]
        rfl
      refine take_ (i := 3) (N := some 19) (v := ?_) (a' := ?_) #[true, true, true, true, true, true, false, false, false, false] rfl rfl (by kernel_rfl) (fun _ _ _ h => h) (Or.inl ⟨by rfl, ?_⟩) hHeld ?_ ?_
      rotate_left
      · intro w' _
        go_simp
        with_reducible rfl
      rotate_left
      · simp only [Act.put, List.setIfInBounds_toArray, List.set_cons_zero, List.set_cons_succ, i64_w, i32_w]
        rfl
      refine take_ (i := 6) (N := some 22) (v := ?_) (a' := ?_) #[true, true, true, true, true, true, true, false, false, false] rfl rfl (by kernel_rfl) (fun _ _ _ h => h) (Or.inl ⟨by rfl, ?_⟩) hHeld ?_ ?_
      rotate_left
      · intro w' _
        go_simp
        with_reducible rfl
      rotate_left
      · simp only [Act.put, List.setIfInBounds_toArray, List.set_cons_zero, List.set_cons_succ, i64_w, i32_w]
        rfl
      refine one_ (i := 7) (N := some 23) #[true, true, true, true, true, true, true, true, false, false] rfl rfl (by kernel_rfl) (by decide) (fun K hK => ?_)
      refine value_ (w1 := ?_) (v := ?_) (by rfl) rfl ?_ ?_
      rotate_left 2
      · go_simp
        constructor
        · rfl
        · rfl
      refine hK.out _ _ trivial (fun hHeld => ?_)
      clear hK K
      refine norm_ (a' := ?_) ?_ ?_
      rotate_left
      · show Act.put _ (some 23) _ = _
        simp only [Act.put, List.setIfInBounds_toArray, List.set_cons_zero, List.set_cons_succ, i64_w, i32_w]
        rfl
      refine one_ (i := 8) (N := some 24) #[true, true, true, true, true, true, true, true, true, false] rfl rfl (by kernel_rfl) (by decide) (fun K hK => ?_)
      refine value_ (w1 := w3) (v := .slice (some ⟨w.heap.size, 0, none⟩) (2 * k + 2) (2 * l.length)) (by rfl) rfl ?_ ?_
      · exact append_run_value _ _ _ rfl _ _ rfl rfl HR.out
      refine hK.out _ _ trivial (fun hHeld => ?_)
      clear hK K
      refine norm_ (a' := ?_) ?_ ?_
      rotate_left
      · show Act.put _ (some 24) _ = _
        simp only [Act.put, List.setIfInBounds_toArray, List.set_cons_zero, List.set_cons_succ, i64_w, i32_w]
        rfl
      refine pure_ (i := 9) (N := some 3) (v := ?_) (a' := ?_) #[true, true, true, true, true, true, true, true, true, true] rfl rfl (by kernel_rfl) (fun _ _ _ h => h) (Or.inl ⟨by rfl, ?_⟩) ?_ ?_
      rotate_left
      · intro w'
        go_simp
        with_reducible rfl
      rotate_left
      · simp only [Act.put, List.setIfInBounds_toArray, List.set_cons_zero, List.set_cons_succ, i64_w, i32_w]
        rfl
      refine done_ (by kernel_rfl) ?_
      go_wp2
      go_roundw
      case rel =>
        refine ⟨k + 1, rfl, by omega, by rw [show 2 * (k + 1) = 2 * k + 2 by omega], ?_, hb3⟩
        rw [HS.out, show 2 * (k + 1) = 2 * k + 2 by omega]
        have := HO3.out
        simpa [nums] using this
      case measure => simp [intOf]; omega
    · have hkl : k = l.length := by omega
      subst hkl
      rw [List.take_length] at ho
      clear hlt hk
      have hcv : (convert 63 9 (.slice (some ⟨w.heap.size, 0, none⟩) (2 * l.length) (2 * l.length))).run Tryd.prog wr = .ok (.string (strOfNums (hexL l))) wr := by
        refine string_of_reads Tryd.underlying63 Tryd.underlying5 Tryd.underlying9 ⟨hexL_len l, by omega, fun _ => ⟨_, rfl, fun j hj => ?_⟩⟩
        have hlj : j < (hexL l).length := by rw [hexL_len]; omega
        refine ho.cells (g := w.heap.size) rfl j _ ?_
        simp only [nums, List.getElem?_map, List.getD_eq_getElem?_getD]
        rw [List.getElem?_eq_getElem hlj]
        rfl
      clear ho
      go_wp2
      go_ret
      exact ⟨rfl, hb⟩
end Go.Proofs.YtolpefnedpgaaaaDoor.X
