/-
  What the claim's law rests on, part 5 of 5: printed walks, externals, plain lemmas; conditions: none of its own.
-/
import Derived.ChangeSame
import Derived.Deep.Slices
import Derived.Handed
import Derived.HandedShaped
import Derived.LaidSub
import Derived.Lib.IndexBytes
import Derived.Lib.IndexMore
import Derived.Lib.LaidTab
import Derived.Lib.Replace
import Derived.ShapedOpen
import Derived.SliceStrings
import Derived.Test.YtolpefnedpgaaaaDoorCs4
namespace Go.Proofs.YtolpefnedpgaaaaDoor.X
open Go.RowKit Go.Proofs.YtolpefnedpgaaaaDoorW.PrintWords Go.Proofs.YtolpefnedpgaaaaDoorW.PrintLast Go.Proofs.YtolpefnedpgaaaaDoorW.PrintMore
attribute [local go_sem] max2_int min2_int max_two min_two max_three min_three max_four min_four   -- for this text's walks alone
set_option linter.unusedVariables false
set_option linter.unusedSimpArgs false

mutual
def racewaylaw24_AttributeSelects.j1 : Nat → List (S33) → List ByteArray → Option (Bool)
  | 0, _, _ => none
  | k + 1, x0, x5 => (attribute_Select.f x0 x5).bind fun t191 => ((racewayref24_Select.f k x0 x5).bind fun t194 => ((racewayref24_Same.f k t191 t194).bind fun t197 => (if t197 = true then ((racewaylaw24_works.f k).bind fun t198 => (some t198)) else (some false))))
def racewaylaw24_AttributeSelects.l0 : Nat → List (S33) → List ByteArray → List ByteArray → Int → Option (Bool)
  | 0, _, _, _, _ => none
  | k + 1, x0, x1, x5, x6 => if x6 < (x1.length : Int) then (if x6 < 10 then (if 0 ≤ x6 then (if 0 ≤ (mn ((rdOf ByteArray.empty x1 x6).size : Int) 100) then (if (mn ((rdOf ByteArray.empty x1 x6).size : Int) 100) ≤ ((rdOf ByteArray.empty x1 x6).size : Int) then (if x5.length < 8796093022208 then (racewaylaw24_AttributeSelects.l0 k x0 x1 (x5 ++ [(rdOf ByteArray.empty x1 x6).extract 0 ((mn ((rdOf ByteArray.empty x1 x6).size : Int) 100) : Int).toNat]) (wrap64 (x6 + 1))) else (none)) else (none)) else (none)) else (none)) else (racewaylaw24_AttributeSelects.j1 k x0 x5)) else (racewaylaw24_AttributeSelects.j1 k x0 x5)
end
def racewaylaw24_AttributeSelects.f (k : Nat) (l0 : List (S33)) (l1 : List ByteArray) : Option (Bool) := (racewaylaw24_few.f k l0).bind fun t183 => (racewaylaw24_AttributeSelects.l0 k t183 l1 ([] : List ByteArray) 0)
def racewaylaw24_AttributeSelects.T6 : Bool × List (List Nat × List Nat) := (true, [([], []), ([], []), ([], []), ([1, 2], [1, 2]), ([3], [3]), ([], []), ([], []), ([5, 6], [5, 6]), ([7], [7]), ([8], [8]), ([9], [9]), ([4, 10], [4, 10]), ([11], [11]), ([0, 12], [0, 12]), ([13, 13, 0, 1, 2, 3, 4, 5, 6, 7, 8, 9, 10, 11, 12, 13], [0, 13])])
def racewaylaw24_AttributeSelects.B6 : List Nat := [0, 0, 0, 6, 14, 0, 0, 96, 224, 480, 992, 2046, 4094, 8191, 16383]
theorem racewaylaw24_AttributeSelects.tab6 : rtab .any (opsOf Tryd.f7 6) = racewaylaw24_AttributeSelects.T6 := by kernel_rfl
theorem racewaylaw24_AttributeSelects.bits6 : waitsOk racewaylaw24_AttributeSelects.T6.2 racewaylaw24_AttributeSelects.B6 = true := by kernel_rfl
set_option maxHeartbeats 8000000 in
set_option maxRecDepth 100000 in
theorem racewaylaw24_AttributeSelects.calls (k : Nat) (A0 : Option Addr) (c0 : Nat) (l0 : List (S33)) (A1 : Option Addr) (c1 : Nat) (l1 : List ByteArray) (r : Bool) (w : World) (hGFp : GlobFp w) (hGMax : GlobMax w) (hr0 : Kd.C k33 w A0 l0.length l0) (hc0 : l0.length ≤ c0) (hr1 : Kd.C Kd.string w A1 l1.length l1) (hc1 : l1.length ≤ c1) (h : racewaylaw24_AttributeSelects.f k l0 l1 = some r) :
    Calls Tryd.prog 7 #[.slice A0 l0.length c0, .slice A1 l1.length c1] w fun e w' => e = .returned (.bool r) ∧ Below w.heap.size w w' := by
  have HGFp := Aside0.mk hGFp
  clear hGFp
  have HGMax := Aside0.mk hGMax
  clear hGMax
  have HR0 := Aside0.mk hr0
  have HC0 := Aside0.mk hc0
  clear hr0 hc0
  have HR1 := Aside0.mk hr1
  have HC1 := Aside0.mk hc1
  clear hr1 hc1
  have HB := Aside0.mk (Below.refl w.heap.size w)
  have H : ((racewaylaw24_few.f k l0).bind fun t183 => (racewaylaw24_AttributeSelects.l0 k t183 l1 ([] : List ByteArray) 0)) = some r := h
  clear h
  replace H := Option.bind_eq_some_iff.mp H
  obtain ⟨t183, A30, H⟩ := H
  replace H : (racewaylaw24_AttributeSelects.l0 k t183 l1 ([] : List ByteArray) 0) = some r := H
  have A3 := Aside0.mk A30
  clear A30
  have HC4 := Aside0.mk H
  clear H
  go_enter Tryd.func7, Tryd.ntmps7
  go_upto_block 0 with (first | ((with_reducible refine gate_callee (f := 17) rfl ?_); refine goesL_ (some 8) rfl rfl Tryd.func17 (by kernel_rfl) rfl #[.slice A0 l0.length c0] rfl (by (try simp only [List.map_toArray, List.map_cons, List.map_nil]); first | done | rfl | (simp only [List.length_drop, List.length_take]; rfl)) ?_; (with_reducible refine (racewaylaw24_few.calls k _ _ l0 t183 _ ?side1 ?side2 A3.out).mono ?_); (case side1 => repeat (first | exact HR0.out | (with_reducible refine Kd.C_alloc ?_ _) | (with_reducible refine Kd.C_drewN ?_ _) | (with_reducible refine Kd.C_drew ?_))); (case side2 => exact HC0.out); rintro e w5 ⟨v184, rfl, ho0, hb⟩; refine ⟨_, rfl, ?_⟩; have n0_ := Aside0.mk (Kd.R_lower ho0 (below_size (by repeat (first | (with_reducible first | exact HB.out | apply below_alloc | apply pw_below_drewN | apply below_drew1) | exact HB.out)))); have n1_ := Aside0.mk (below_step (by repeat (first | (with_reducible first | exact HB.out | apply below_alloc | apply pw_below_drewN | apply below_drew1) | exact HB.out)) hb); clear HB; have HO185 := n0_; have HB := n1_; clear n0_ n1_; (try clear hb); (try clear hb2); (try clear hk); (try clear hi); (try clear ho0)))
  (try simp only [Act.put, List.setIfInBounds_toArray, List.set_cons_zero, List.set_cons_succ])
  go_cut [5] (fun v5 wc => ∃ (kq : Nat) (x5_3 : List ByteArray), Aside0 (racewaylaw24_AttributeSelects.j1 kq t183 x5_3 = some r) ∧ Aside0 (kq ≤ k) ∧ Aside0 (Kd.R k33 33 wc w.heap.size (fun _ => True) v184 t183) ∧ Aside0 (Kd.R Kd.string 9 wc w.heap.size (fun _ => True) v5 x5_3) ∧ Aside0 (Below w.heap.size w wc))
  case first =>
    have H := HC4.out
    clear HC4
    have H' := Aside0.mk H
    clear H
    go_wp2
    go_loopg [5, 6] k (fun kq v5 v6 w' => ∃ (x5_1 : List ByteArray) (x6_1 : Int), v6 = .int .i64 x6_1 ∧ Aside0 (racewaylaw24_AttributeSelects.l0 kq t183 l1 x5_1 x6_1 = some r) ∧ Aside0 (kq ≤ k) ∧ Aside0 (Kd.R k33 33 w' w.heap.size (fun _ => True) v184 t183) ∧ Aside0 (Kd.R Kd.string 9 w' w.heap.size (fun _ => True) v5 x5_1) ∧ Aside0 (Below w.heap.size w w'))
    case atStart => exact ⟨(([] : List ByteArray)), (0), (by first | rfl | (simp; done) | (simp; decide +kernel) | (simp [*]; done)), (by first | exact H' | (subst_vars; exact H')), ⟨Nat.le_refl _⟩, ⟨by (with_reducible repeat (first | apply Kd.R_alloc | apply Kd.R_drewN | apply Kd.R_drew)); exact HO185.out⟩, ⟨by first | exact Kd.R_nil _ _ _ _ _ | exact Kd.N_nil _ _ _ _ _ | exact Kd.V_nil _ _ _ _ _ | exact Kd.Q_nil _ _ _ _ _ | exact Kd.S_nil _ _ _ _ _⟩, ⟨by repeat (first | (with_reducible first | exact HB.out | apply below_alloc | apply pw_below_drewN | apply below_drew1) | exact HB.out)⟩⟩
    case round =>
      clear H'
      try clear c1
      try clear p2
      obtain ⟨x5_1, x6_1, rfl, HA, HK1, HO_0, HO_5, HB⟩ := hrel
      cases gk with
      | zero => exact absurd HA.out (by simp [racewaylaw24_AttributeSelects.l0])
      | succ k1 =>
        have H := HA.out
        clear HA
        simp only [racewaylaw24_AttributeSelects.l0] at H
        by_cases c6 : x6_1 < (l1.length : Int)
        · rw [if_pos c6] at H
          have c6b0 : decide (x6_1 < (l1.length : Int)) = true := decide_eq_true c6
          clear c6
          (first | rw [c6b0] | (simp only [i64_w, i32_w]; rw [c6b0]) | skip)
          by_cases c7 : x6_1 < 10
          · rw [if_pos c7] at H
            have c7b0 : decide (x6_1 < 10) = true := decide_eq_true c7
            clear c7
            by_cases c8 : 0 ≤ x6_1
            · rw [if_pos c8] at H
              have c8b0 : decide (0 ≤ x6_1) = true := decide_eq_true c8
              clear c8
              obtain ⟨ji9, hji9⟩ : ∃ j_ : Int, (mn ((rdOf ByteArray.empty l1 x6_1).size : Int) 100) = j_ := ⟨_, rfl⟩
              replace H : (if 0 ≤ (ji9) then (if (ji9) ≤ ((rdOf ByteArray.empty l1 x6_1).size : Int) then (if x5_1.length < 8796093022208 then (racewaylaw24_AttributeSelects.l0 k1 t183 l1 (x5_1 ++ [(rdOf ByteArray.empty l1 x6_1).extract 0 ((ji9) : Int).toNat]) (wrap64 (x6_1 + 1))) else (none)) else (none)) else (none)) = some r := by first | (rw [hji9] at H; exact H) | (simp only [hji9] at H ⊢; exact H)
              have hji9_ : (if 100 < ((rdOf ByteArray.empty l1 x6_1).size : Int) then 100 else ((rdOf ByteArray.empty l1 x6_1).size : Int)) = ji9 := hji9
              by_cases c10 : 0 ≤ (ji9)
              · rw [if_pos c10] at H
                have c10b0 := eq_true c10
                have c10b1 : decide (0 ≤ (ji9)) = true := decide_eq_true c10
                clear c10
                by_cases c11 : (ji9) ≤ ((rdOf ByteArray.empty l1 x6_1).size : Int)
                · rw [if_pos c11] at H
                  have c11b0 := eq_true c11
                  have c11b1 : decide ((ji9) ≤ ((rdOf ByteArray.empty l1 x6_1).size : Int)) = true := decide_eq_true c11
                  clear c11
                  by_cases c12 : x5_1.length < 8796093022208
                  · rw [if_pos c12] at H
                    have LMc12 := Aside0.mk c12
                    clear c12
                    obtain ⟨y188, hy188⟩ : ∃ y_ : List ByteArray, y_ = (x5_1 ++ [(rdOf ByteArray.empty l1 x6_1).extract 0 ((ji9) : Int).toNat]) := ⟨_, rfl⟩
                    replace H : (racewaylaw24_AttributeSelects.l0 k1 t183 l1 y188 (wrap64 (x6_1 + 1))) = some r := by first | (rw [hy188]; with_reducible exact H) | (have H2_ := (Option.bind_some _ _).symm.trans H; rw [hy188]; with_reducible exact H2_) | (have H2_ := (Option.bind_some _ _).symm.trans H; with_reducible exact H2_) | with_reducible exact H | (rw [hy188]; exact H) | exact H
                    have Ny188 := Aside0.mk hy188
                    clear hy188
                    have H' := Aside0.mk H
                    clear H
                    try go_wp2
                    have n0_ := Aside0.mk (Kd.R_drew HO_0.out)
                    have n1_ := Aside0.mk (Kd.R_drew HO_5.out)
                    have n2_ := Aside0.mk (below_drew1 HB.out)
                    clear HO_0
                    clear HO_5
                    clear HB
                    have HO_0 := n0_
                    have HO_5 := n1_
                    have HB := n2_
                    clear n0_ n1_ n2_
                    have p186 : 0 ≤ (x6_1 : Int) := of_decide_eq_true (by first | (with_reducible assumption) | assumption)
                    have q186 : x6_1 < (l1.length : Int) := of_decide_eq_true (by first | (with_reducible assumption) | assumption)
                    obtain ⟨ad186, e186, hx186_0⟩ := Kd.at_string HR1.out x6_1 p186 q186
                    have hw186_0 := hx186_0
                    cases e186
                    replace hx186_0 := (HB.out.cell (World.block_lt_of_cell? w _ hx186_0)).trans hx186_0
                    replace p186 := eq_true p186
                    replace q186 := eq_true q186
                    have p187 : 0 ≤ (x6_1 : Int) := of_decide_eq_true (by first | (with_reducible assumption) | assumption)
                    have q187 : x6_1 < (l1.length : Int) := of_decide_eq_true (by first | (with_reducible assumption) | assumption)
                    obtain ⟨ad187, e187, hx187_0⟩ := Kd.at_string HR1.out x6_1 p187 q187
                    have hw187_0 := hx187_0
                    obtain rfl : ad186 = ad187 := (by injection e187)
                    replace hx187_0 := (HB.out.cell (World.block_lt_of_cell? w _ hx187_0)).trans hx187_0
                    replace p187 := eq_true p187
                    replace q187 := eq_true q187
                    refine start_ (n := 15) (S := fun w' => w'.cell? (ad186.add (x6_1).toNat) = some (.string (rdOf ByteArray.empty l1 x6_1)) ∧ w'.cell? (ad186.add (x6_1).toNat) = some (.string (rdOf ByteArray.empty l1 x6_1))) (ds := []) #[false, false, false, false, false, false, false, false, false, false, false, false, false, false, false] (by kernel_rfl) rfl rfl ⟨((HB.out.cell (World.block_lt_of_cell? w _ hw186_0)).trans hw186_0), ((HB.out.cell (World.block_lt_of_cell? w _ hw187_0)).trans hw187_0)⟩ (fun hHeld => ?_); refine with_tabW racewaylaw24_AttributeSelects.tab6 racewaylaw24_AttributeSelects.bits6 (fun HT_ HW_ => ?_)
                    generalize wr.drew = w13 at HO_0 HO_5 HB hx186_0 hx187_0 hHeld ⊢
                    refine pure_ (i := 0) (N := some 19) (v := ?_) (a' := ?_) #[true, false, false, false, false, false, false, false, false, false, false, false, false, false, false] rfl rfl (any_of HT_.out (by kernel_rfl)) (fun _ _ _ h => h) (Or.inl ⟨by rfl, ?_⟩) ?_ ?_
                    rotate_left
                    · intro w'
                      go_simp
                      with_reducible rfl
                    rotate_left
                    · simp only [Act.put, List.setIfInBounds_toArray, List.set_cons_zero, List.set_cons_succ, i64_w, i32_w]
                      rfl
                    refine pure_ (i := 1) (N := some 20) (v := ?_) (a' := ?_) #[true, true, false, false, false, false, false, false, false, false, false, false, false, false, false] rfl rfl (any_of HT_.out (by kernel_rfl)) (fun _ _ _ h => h) (Or.inl ⟨by rfl, ?_⟩) ?_ ?_
                    rotate_left
                    · intro w'
                      go_simp
                      with_reducible rfl
                    rotate_left
                    · simp only [Act.put, List.setIfInBounds_toArray, List.set_cons_zero, List.set_cons_succ, i64_w, i32_w]
                      rfl
                    refine pure_ (i := 2) (N := some 21) (v := ?_) (a' := ?_) #[true, true, true, false, false, false, false, false, false, false, false, false, false, false, false] rfl rfl (any_of HT_.out (by kernel_rfl)) (fun _ _ _ h => h) (Or.inl ⟨by rfl, ?_⟩) ?_ ?_
                    rotate_left
                    · intro w'
                      go_simp
                      with_reducible rfl
                    rotate_left
                    · simp only [Act.put, List.setIfInBounds_toArray, List.set_cons_zero, List.set_cons_succ, i64_w, i32_w]
                      rfl
                    refine pure_ (i := 3) (N := some 22) (v := ?_) (a' := ?_) #[true, true, true, true, false, false, false, false, false, false, false, false, false, false, false] rfl rfl (any_of HT_.out (by kernel_rfl)) (fun _ _ _ h => h) (Or.inl ⟨by rfl, ?_⟩) ?_ ?_
                    rotate_left
                    · intro w'
                      go_simp
                      with_reducible rfl
                    rotate_left
                    · simp only [Act.put, List.setIfInBounds_toArray, List.set_cons_zero, List.set_cons_succ, i64_w, i32_w]
                      rfl
                    refine pure_ (i := 5) (N := some 24) (v := ?_) (a' := ?_) #[true, true, true, true, false, true, false, false, false, false, false, false, false, false, false] rfl rfl (any_of HT_.out (by kernel_rfl)) (fun _ _ _ h => h) (Or.inl ⟨by rfl, ?_⟩) ?_ ?_
                    rotate_left
                    · intro w'
                      go_simp
                      with_reducible rfl
                    rotate_left
                    · simp only [Act.put, List.setIfInBounds_toArray, List.set_cons_zero, List.set_cons_succ, i64_w, i32_w]
                      rfl
                    refine pure_ (i := 6) (N := some 25) (v := ?_) (a' := ?_) #[true, true, true, true, false, true, true, false, false, false, false, false, false, false, false] rfl rfl (any_of HT_.out (by kernel_rfl)) (fun _ _ _ h => h) (Or.inl ⟨by rfl, ?_⟩) ?_ ?_
                    rotate_left
                    · intro w'
                      go_simp
                      with_reducible rfl
                    rotate_left
                    · simp only [Act.put, List.setIfInBounds_toArray, List.set_cons_zero, List.set_cons_succ, i64_w, i32_w]
                      rfl
                    refine pure_ (i := 7) (N := some 26) (v := ?_) (a' := ?_) #[true, true, true, true, false, true, true, true, false, false, false, false, false, false, false] rfl rfl (any_of HT_.out (by kernel_rfl)) (fun _ _ _ h => h) (Or.inl ⟨by rfl, ?_⟩) ?_ ?_
                    rotate_left
                    · intro w'
                      go_simp
                      with_reducible rfl
                    rotate_left
                    · simp only [Act.put, List.setIfInBounds_toArray, List.set_cons_zero, List.set_cons_succ, i64_w, i32_w]
                      rfl
                    refine take_ (i := 4) (N := some 23) (v := ?_) (a' := ?_) #[true, true, true, true, true, true, true, true, false, false, false, false, false, false, false] rfl rfl (take_ofW HT_.out HW_.out (by kernel_rfl)) (fun _ _ _ h => h) (Or.inl ⟨by rfl, ?_⟩) hHeld ?_ ?_
                    rotate_left
                    · rintro w' ⟨s0, s1⟩
                      go_simp
                      with_reducible rfl
                    rotate_left
                    · simp only [Act.put, List.setIfInBounds_toArray, List.set_cons_zero, List.set_cons_succ, i64_w, i32_w]
                      rfl
                    refine take_ (i := 8) (N := some 27) (v := ?_) (a' := ?_) #[true, true, true, true, true, true, true, true, true, false, false, false, false, false, false] rfl rfl (take_ofW HT_.out HW_.out (by kernel_rfl)) (fun _ _ _ h => h) (Or.inl ⟨by rfl, ?_⟩) hHeld ?_ ?_
                    rotate_left
                    · rintro w' ⟨s0, s1⟩
                      go_simp
                      with_reducible rfl
                    rotate_left
                    · simp only [Act.put, List.setIfInBounds_toArray, List.set_cons_zero, List.set_cons_succ, i64_w, i32_w]
                      rfl
                    refine pure_ (i := 9) (N := some 28) (v := ?_) (a' := ?_) #[true, true, true, true, true, true, true, true, true, true, false, false, false, false, false] rfl rfl (any_of HT_.out (by kernel_rfl)) (fun _ _ _ h => h) (Or.inl ⟨by rfl, ?_⟩) ?_ ?_
                    rotate_left
                    · intro w'
                      go_simp
                      with_reducible rfl
                    rotate_left
                    · simp only [Act.put, List.setIfInBounds_toArray, List.set_cons_zero, List.set_cons_succ, i64_w, i32_w]
                      rfl
                    refine pure_ (i := 10) (N := some 29) (v := ?_) (a' := ?_) #[true, true, true, true, true, true, true, true, true, true, true, false, false, false, false] rfl rfl (any_of HT_.out (by kernel_rfl)) (fun _ _ _ h => h) (Or.inl ⟨by rfl, ?_⟩) ?_ ?_
                    rotate_left
                    · intro w'
                      go_simp
                      with_reducible rfl
                    rotate_left
                    · simp only [Act.put, List.setIfInBounds_toArray, List.set_cons_zero, List.set_cons_succ, i64_w, i32_w]
                      rfl
                    refine pure_ (i := 11) (N := some 30) (v := ?_) (a' := ?_) #[true, true, true, true, true, true, true, true, true, true, true, true, false, false, false] rfl rfl (any_of HT_.out (by kernel_rfl)) (fun _ _ _ h => h) (Or.inl ⟨by rfl, ?_⟩) ?_ ?_
                    rotate_left
                    · intro w'
                      go_simp
                      with_reducible rfl
                    rotate_left
                    · simp only [Act.put, List.setIfInBounds_toArray, List.set_cons_zero, List.set_cons_succ, i64_w, i32_w]
                      rfl
                    refine one_ (i := 12) (N := some 31) #[true, true, true, true, true, true, true, true, true, true, true, true, true, false, false] rfl rfl (one_of HT_.out (by kernel_rfl)) (by decide) (fun K hK => ?_)
                    refine value_ (w1 := ?_) (v := ?_) (by rfl) rfl ?_ ?_
                    rotate_left 2
                    · go_simp
                      constructor
                      · rfl
                      · rfl
                    refine hK.out _ _ ⟨(World.cell?_alloc_lt _ _ _ (World.block_lt_of_cell? _ _ (((HB.out.cell (World.block_lt_of_cell? w _ hw186_0)).trans hw186_0)))).trans (((HB.out.cell (World.block_lt_of_cell? w _ hw186_0)).trans hw186_0)), (World.cell?_alloc_lt _ _ _ (World.block_lt_of_cell? _ _ (((HB.out.cell (World.block_lt_of_cell? w _ hw187_0)).trans hw187_0)))).trans (((HB.out.cell (World.block_lt_of_cell? w _ hw187_0)).trans hw187_0))⟩ (fun hHeld => ?_)
                    clear hK K
                    refine norm_ (a' := ?_) ?_ ?_
                    rotate_left
                    · show Act.put _ (some 31) _ = _
                      simp only [Act.put, List.setIfInBounds_toArray, List.set_cons_zero, List.set_cons_succ, i64_w, i32_w]
                      rfl
                    refine one_ (i := 13) (N := some 32) #[true, true, true, true, true, true, true, true, true, true, true, true, true, true, false] rfl rfl (one_of HT_.out (by kernel_rfl)) (by decide) (fun K hK => ?_)
                    refine Kd.R_append_step Kd.string (w0 := w) w.heap.size (by rfl) (.tmp 19) (.tmp 31) 39 9 (.string ⟨#[]⟩) 16 rfl Tryd.underlying39 info9 rfl (by decide) (by omega) u5 x5_1 ((rdOf ByteArray.empty l1 x6_1).extract 0 ((ji9) : Int).toNat) [.string ((rdOf ByteArray.empty l1 x6_1).extract 0 ((ji9) : Int).toNat)] (fun _ => True) (fun _ => False) rfl rfl ?aP (fun _ hk => hk.elim) ?aF ?aO ?aB ?aS ?aL ?_
                    (case aP => exact rfl)
                    (case aB => exact (by repeat (first | (with_reducible first | exact HB.out | apply below_alloc | apply pw_below_drewN | apply below_drew1) | exact HB.out)))
                    (case aF => exact (fun _ _ => trivial))
                    (case aO => exact (by (with_reducible repeat (first | apply Kd.R_alloc | apply Kd.R_drewN | apply Kd.R_drew)); exact HO_5.out))
                    (case aS => exact (below_size (by repeat (first | (with_reducible first | exact HB.out | apply below_alloc | apply pw_below_drewN | apply below_drew1) | exact HB.out))))
                    (case aL => have := LMc12.out; omega)
                    intro v189 w14 ho hb hg hat
                    rw [← Ny188.out] at ho
                    have n0_ := Aside0.mk (Kd.R_over' (by (with_reducible repeat (first | apply Kd.R_alloc | apply Kd.R_drewN | apply Kd.R_drew)); exact HO_0.out) (Kd.R_typed (by (with_reducible repeat (first | apply Kd.R_alloc | apply Kd.R_drewN | apply Kd.R_drew)); exact HO_5.out)) (by decide) hg)
                    have n1_ := Aside0.mk (hb)
                    have n2_ := Aside0.mk (ho)
                    clear HO_0
                    clear HB
                    clear HO_5
                    have HO_0 := n0_
                    have HB := n1_
                    have HO190 := n2_
                    clear n0_ n1_ n2_
                    clear ho hb hg hat
                    refine hK.out _ _ ⟨((HB.out.cell (World.block_lt_of_cell? w _ hw186_0)).trans hw186_0), ((HB.out.cell (World.block_lt_of_cell? w _ hw187_0)).trans hw187_0)⟩ (fun hHeld => ?_)
                    clear hK K
                    refine norm_ (a' := ?_) ?_ ?_
                    rotate_left
                    · show Act.put _ (some 32) _ = _
                      simp only [Act.put, List.setIfInBounds_toArray, List.set_cons_zero, List.set_cons_succ, i64_w, i32_w]
                      rfl
                    refine pure_ (i := 14) (N := some 5) (v := ?_) (a' := ?_) #[true, true, true, true, true, true, true, true, true, true, true, true, true, true, true] rfl rfl (any_of HT_.out (by kernel_rfl)) (fun _ _ _ h => h) (Or.inl ⟨by rfl, ?_⟩) ?_ ?_
                    rotate_left
                    · intro w'
                      go_simp
                      with_reducible rfl
                    rotate_left
                    · simp only [Act.put, List.setIfInBounds_toArray, List.set_cons_zero, List.set_cons_succ, i64_w, i32_w]
                      rfl
                    refine done_ (done_of HT_.out (by kernel_rfl)) ?_
                    try go_wp2
                    go_roundg k1
                    case measure => have := HK1.out; omega
                    case rel => exact ⟨(y188), (wrap64 (x6_1 + 1)), (by first | rfl | (simp; done) | (simp; decide +kernel) | (simp [*]; done)), (by first | exact H' | (subst_vars; exact H')), ⟨by have := HK1.out; omega⟩, ⟨by (with_reducible repeat (first | apply Kd.R_alloc | apply Kd.R_drewN | apply Kd.R_drew)); exact HO_0.out⟩, ⟨by (with_reducible repeat (first | apply Kd.R_alloc | apply Kd.R_drewN | apply Kd.R_drew)); exact HO190.out⟩, ⟨by repeat (first | (with_reducible first | exact HB.out | apply below_alloc | apply pw_below_drewN | apply below_drew1) | exact HB.out)⟩⟩
                  · rw [if_neg c12] at H
                    exact absurd H (by simp)
                · rw [if_neg c11] at H
                  exact absurd H (by simp)
              · rw [if_neg c10] at H
                exact absurd H (by simp)
            · rw [if_neg c8] at H
              exact absurd H (by simp)
          · rw [if_neg c7] at H
            have c7b0 : decide (x6_1 < 10) = false := decide_eq_false c7
            clear c7
            have H' := Aside0.mk H
            clear H
            go_wp2
            go_meet
            case rel => exact ⟨_, (x5_1), (by first | exact H' | (subst_vars; exact H')), ⟨by have := HK1.out; first | omega | exact Nat.le_refl _⟩, ⟨by (with_reducible repeat (first | apply Kd.R_alloc | apply Kd.R_drewN | apply Kd.R_drew)); exact HO_0.out⟩, ⟨by (with_reducible repeat (first | apply Kd.R_alloc | apply Kd.R_drewN | apply Kd.R_drew)); exact HO_5.out⟩, ⟨by repeat (first | (with_reducible first | exact HB.out | apply below_alloc | apply pw_below_drewN | apply below_drew1) | exact HB.out)⟩⟩
        · rw [if_neg c6] at H
          have c6b0 : decide (x6_1 < (l1.length : Int)) = false := decide_eq_false c6
          clear c6
          (first | rw [c6b0] | (simp only [i64_w, i32_w]; rw [c6b0]) | skip)
          have H' := Aside0.mk H
          clear H
          go_wp2
          go_meet
          case rel => exact ⟨_, (x5_1), (by first | exact H' | (subst_vars; exact H')), ⟨by have := HK1.out; first | omega | exact Nat.le_refl _⟩, ⟨by (with_reducible repeat (first | apply Kd.R_alloc | apply Kd.R_drewN | apply Kd.R_drew)); exact HO_0.out⟩, ⟨by (with_reducible repeat (first | apply Kd.R_alloc | apply Kd.R_drewN | apply Kd.R_drew)); exact HO_5.out⟩, ⟨by repeat (first | (with_reducible first | exact HB.out | apply below_alloc | apply pw_below_drewN | apply below_drew1) | exact HB.out)⟩⟩
  case rest =>
    clear HC4
    try clear c1
    try clear p1
    try clear q1
    try clear hx1
    try clear p2
    try clear c6
    try clear c6b0
    try clear p6
    try clear c7
    try clear c7b0
    try clear c8
    try clear c8b0
    try clear c10
    try clear c10b0
    try clear c10b1
    try clear c11
    try clear c11b0
    try clear c11b1
    try clear c12
    try clear hx186_0
    try clear hx187_0
    try clear p186
    try clear p187
    try clear p2
    try clear q186
    try clear q187
    obtain ⟨kq, x5_3, HA, HJ3, HO_0, HO_5, HB⟩ := hcut
    cases kq with
    | zero => exact absurd HA.out (by simp [racewaylaw24_AttributeSelects.j1])
    | succ kj3 =>
      have H := HA.out
      clear HA
      simp only [racewaylaw24_AttributeSelects.j1] at H
      replace H := Option.bind_eq_some_iff.mp H
      obtain ⟨t191, A150, H⟩ := H
      replace H : ((racewayref24_Select.f kj3 t183 x5_3).bind fun t194 => ((racewayref24_Same.f kj3 t191 t194).bind fun t197 => (if t197 = true then ((racewaylaw24_works.f kj3).bind fun t198 => (some t198)) else (some false)))) = some r := H
      have A15 := Aside0.mk A150
      clear A150
      replace H := Option.bind_eq_some_iff.mp H
      obtain ⟨t194, A160, H⟩ := H
      replace H : ((racewayref24_Same.f kj3 t191 t194).bind fun t197 => (if t197 = true then ((racewaylaw24_works.f kj3).bind fun t198 => (some t198)) else (some false))) = some r := H
      have A16 := Aside0.mk A160
      clear A160
      replace H := Option.bind_eq_some_iff.mp H
      obtain ⟨t197, A170, H⟩ := H
      replace H : (if t197 = true then ((racewaylaw24_works.f kj3).bind fun t198 => (some t198)) else (some false)) = some r := H
      have A17 := Aside0.mk A170
      clear A170
      by_cases c18 : t197 = true
      · subst c18
        have H1 : ((racewaylaw24_works.f kj3).bind fun t198 => (some t198)) = some r := by rw [if_pos rfl] at H; exact H
        clear H
        have H := H1
        clear H1
        replace H := Option.bind_eq_some_iff.mp H
        obtain ⟨t198, A190, H⟩ := H
        replace H : (some t198) = some r := H
        have A19 := Aside0.mk A190
        clear A190
        obtain rfl := Option.some.inj H
        obtain ⟨Ao20, co20, eo20⟩ := Kd.R_slice HO_0.out
        subst eo20
        obtain ⟨Ao21, co21, eo21⟩ := Kd.R_slice HO_5.out
        subst eo21
        go_wp2_with (first | ((with_reducible refine gate_callee (f := 24) rfl ?_); refine goesL_ (some 35) rfl rfl Tryd.func24 (by kernel_rfl) rfl #[.slice Ao20 t183.length co20, .slice Ao21 x5_3.length co21] rfl (by (try simp only [List.map_toArray, List.map_cons, List.map_nil]); first | done | rfl | (simp only [List.length_drop, List.length_take]; rfl)) ?_; (with_reducible refine (attribute_Select.calls _ _ t183 _ _ x5_3 t191 _ ?side1 ?side2 ?side3 ?side4 A15.out).mono ?_); (case side1 => repeat (first | exact (Kd.R_reads' HO_0.out).2.2 | (with_reducible refine Kd.C_alloc ?_ _) | (with_reducible refine Kd.C_drewN ?_ _) | (with_reducible refine Kd.C_drew ?_))); (case side2 => exact (Kd.R_reads' HO_0.out).2.1); (case side3 => repeat (first | exact (Kd.R_reads' HO_5.out).2.2 | (with_reducible refine Kd.C_alloc ?_ _) | (with_reducible refine Kd.C_drewN ?_ _) | (with_reducible refine Kd.C_drew ?_))); (case side4 => exact (Kd.R_reads' HO_5.out).2.1); rintro e w22 ⟨v192, rfl, ho0, hb⟩; refine ⟨_, rfl, ?_⟩; have n0_ := Aside0.mk (Kd.R_elder' (by (with_reducible repeat (first | apply Kd.R_alloc | apply Kd.R_drewN | apply Kd.R_drew)); exact HO_0.out) (Kd.R_base ho0) hb); have n1_ := Aside0.mk (Kd.R_below (by (with_reducible repeat (first | apply Kd.R_alloc | apply Kd.R_drewN | apply Kd.R_drew)); exact HO_5.out) hb); have n2_ := Aside0.mk (Kd.R_lower (Kd.R_new' ho0 (Kd.R_lt (by (with_reducible repeat (first | apply Kd.R_alloc | apply Kd.R_drewN | apply Kd.R_drew)); exact HO_0.out))) (below_size (by repeat (first | (with_reducible first | exact HB.out | apply below_alloc | apply pw_below_drewN | apply below_drew1) | exact HB.out)))); have n3_ := Aside0.mk (below_step (by repeat (first | (with_reducible first | exact HB.out | apply below_alloc | apply pw_below_drewN | apply below_drew1) | exact HB.out)) hb); clear HO_0; clear HO_5; clear HB; have HO_0 := n0_; have HO_5 := n1_; have HO193 := n2_; have HB := n3_; clear n0_ n1_ n2_ n3_; (try clear hb); (try clear hb2); (try clear hk); (try clear hi); (try clear ho0)) | ((with_reducible refine gate_callee (f := 25) rfl ?_); refine goesL_ (some 38) rfl rfl Tryd.func25 (by kernel_rfl) rfl #[.slice Ao20 t183.length co20, .slice Ao21 x5_3.length co21] rfl (by (try simp only [List.map_toArray, List.map_cons, List.map_nil]); first | done | rfl | (simp only [List.length_drop, List.length_take]; rfl)) ?_; (with_reducible refine (racewayref24_Select.calls kj3 _ _ t183 _ _ x5_3 t194 _ ?side1 ?side2 ?side3 ?side4 A16.out).mono ?_); (case side1 => repeat (first | exact (Kd.R_reads' HO_0.out).2.2 | (with_reducible refine Kd.C_alloc ?_ _) | (with_reducible refine Kd.C_drewN ?_ _) | (with_reducible refine Kd.C_drew ?_))); (case side2 => exact (Kd.R_reads' HO_0.out).2.1); (case side3 => repeat (first | exact (Kd.R_reads' HO_5.out).2.2 | (with_reducible refine Kd.C_alloc ?_ _) | (with_reducible refine Kd.C_drewN ?_ _) | (with_reducible refine Kd.C_drew ?_))); (case side4 => exact (Kd.R_reads' HO_5.out).2.1); rintro e w23 ⟨v195, rfl, ho0, hb⟩; refine ⟨_, rfl, ?_⟩; have n0_ := Aside0.mk (Kd.R_elder' (by (with_reducible repeat (first | apply Kd.R_alloc | apply Kd.R_drewN | apply Kd.R_drew)); exact HO_0.out) (Kd.R_base ho0) hb); have n1_ := Aside0.mk (Kd.R_below (by (with_reducible repeat (first | apply Kd.R_alloc | apply Kd.R_drewN | apply Kd.R_drew)); exact HO_5.out) hb); have n2_ := Aside0.mk (Kd.R_elder' (by (with_reducible repeat (first | apply Kd.R_alloc | apply Kd.R_drewN | apply Kd.R_drew)); exact HO193.out) (Kd.R_base ho0) hb); have n3_ := Aside0.mk (Kd.R_lower (Kd.R_new' (Kd.R_new' ho0 (Kd.R_lt (by (with_reducible repeat (first | apply Kd.R_alloc | apply Kd.R_drewN | apply Kd.R_drew)); exact HO_0.out))) (Kd.R_lt (by (with_reducible repeat (first | apply Kd.R_alloc | apply Kd.R_drewN | apply Kd.R_drew)); exact HO193.out))) (below_size (by repeat (first | (with_reducible first | exact HB.out | apply below_alloc | apply pw_below_drewN | apply below_drew1) | exact HB.out)))); have n4_ := Aside0.mk (below_step (by repeat (first | (with_reducible first | exact HB.out | apply below_alloc | apply pw_below_drewN | apply below_drew1) | exact HB.out)) hb); clear HO_0; clear HO_5; clear HO193; clear HB; have HO_0 := n0_; have HO_5 := n1_; have HO193 := n2_; have HO196 := n3_; have HB := n4_; clear n0_ n1_ n2_ n3_ n4_; (try clear hb); (try clear hb2); (try clear hk); (try clear hi); (try clear ho0); obtain ⟨Ao24, co24, eo24⟩ := Kd.R_slice HO193.out; subst eo24; obtain ⟨Ao25, co25, eo25⟩ := Kd.R_slice HO196.out; subst eo25) | ((with_reducible refine gate_callee (f := 18) rfl ?_); refine goesL_ (some 39) rfl rfl Tryd.func18 (by kernel_rfl) rfl #[.slice Ao24 t191.length co24, .slice Ao25 t194.length co25] rfl (by (try simp only [List.map_toArray, List.map_cons, List.map_nil]); first | done | rfl | (simp only [List.length_drop, List.length_take]; rfl)) ?_; (with_reducible refine (racewayref24_Same.calls kj3 _ _ t191 _ _ t194 true _ ?side1 ?side2 ?side3 ?side4 A17.out).mono ?_); (case side1 => repeat (first | exact (Kd.R_reads' HO193.out).2.2 | (with_reducible refine Kd.C_alloc ?_ _) | (with_reducible refine Kd.C_drewN ?_ _) | (with_reducible refine Kd.C_drew ?_))); (case side2 => exact (Kd.R_reads' HO193.out).2.1); (case side3 => repeat (first | exact (Kd.R_reads' HO196.out).2.2 | (with_reducible refine Kd.C_alloc ?_ _) | (with_reducible refine Kd.C_drewN ?_ _) | (with_reducible refine Kd.C_drew ?_))); (case side4 => exact (Kd.R_reads' HO196.out).2.1); rintro e w' ⟨rfl, ⟨nd, rfl⟩⟩; refine ⟨_, rfl, ?_⟩) | (go_at_call 16; (with_reducible refine (racewaylaw24_works.calls kj3  t198 _ ?side1 ?side2 A19.out).mono ?_); (case side1 => first | exact HGFp.out | exact GlobFp.below HGFp.out (by repeat (first | (with_reducible first | exact HB.out | apply below_alloc | apply pw_below_drewN | apply below_drew1) | exact HB.out)) | exact GlobFp.drawn HGFp.out (by repeat (first | exact Drawn0.refl _ | apply Drawn0.step))); (case side2 => first | exact HGMax.out | exact GlobMax.below HGMax.out (by repeat (first | (with_reducible first | exact HB.out | apply below_alloc | apply pw_below_drewN | apply below_drew1) | exact HB.out)) | exact GlobMax.drawn HGMax.out (by repeat (first | exact Drawn0.refl _ | apply Drawn0.step))); rintro e w26 ⟨rfl, hb⟩; have n0_ := Aside0.mk (Kd.R_below (by (with_reducible repeat (first | apply Kd.R_alloc | apply Kd.R_drewN | apply Kd.R_drew)); exact HO_0.out) hb); have n1_ := Aside0.mk (Kd.R_below (by (with_reducible repeat (first | apply Kd.R_alloc | apply Kd.R_drewN | apply Kd.R_drew)); exact HO_5.out) hb); have n2_ := Aside0.mk (Kd.R_below (by (with_reducible repeat (first | apply Kd.R_alloc | apply Kd.R_drewN | apply Kd.R_drew)); exact HO193.out) hb); have n3_ := Aside0.mk (Kd.R_below (by (with_reducible repeat (first | apply Kd.R_alloc | apply Kd.R_drewN | apply Kd.R_drew)); exact HO196.out) hb); have n4_ := Aside0.mk (below_step (by repeat (first | (with_reducible first | exact HB.out | apply below_alloc | apply pw_below_drewN | apply below_drew1) | exact HB.out)) hb); clear HO_0; clear HO_5; clear HO193; clear HO196; clear HB; have HO_0 := n0_; have HO_5 := n1_; have HO193 := n2_; have HO196 := n3_; have HB := n4_; clear n0_ n1_ n2_ n3_ n4_; (try clear hb); (try clear hb2); (try clear hk); (try clear hi)))
        go_ret
        exact ⟨by first | rfl | (simp [errW_none, errW_some] <;> rfl) | (simp [*, errW_none, errW_some] <;> rfl), by repeat (first | (with_reducible first | exact HB.out | apply below_alloc | apply pw_below_drewN | apply below_drew1) | exact HB.out)⟩
      · replace c18 := Bool.eq_false_iff.mpr c18
        subst c18
        have H1 : (some false) = some r := by rw [if_neg (show ¬ (false = true) by decide)] at H; exact H
        clear H
        have H := H1
        clear H1
        obtain rfl := Option.some.inj H
        obtain ⟨Ao27, co27, eo27⟩ := Kd.R_slice HO_0.out
        subst eo27
        obtain ⟨Ao28, co28, eo28⟩ := Kd.R_slice HO_5.out
        subst eo28
        go_wp2_with (first | ((with_reducible refine gate_callee (f := 24) rfl ?_); refine goesL_ (some 35) rfl rfl Tryd.func24 (by kernel_rfl) rfl #[.slice Ao27 t183.length co27, .slice Ao28 x5_3.length co28] rfl (by (try simp only [List.map_toArray, List.map_cons, List.map_nil]); first | done | rfl | (simp only [List.length_drop, List.length_take]; rfl)) ?_; (with_reducible refine (attribute_Select.calls _ _ t183 _ _ x5_3 t191 _ ?side1 ?side2 ?side3 ?side4 A15.out).mono ?_); (case side1 => repeat (first | exact (Kd.R_reads' HO_0.out).2.2 | (with_reducible refine Kd.C_alloc ?_ _) | (with_reducible refine Kd.C_drewN ?_ _) | (with_reducible refine Kd.C_drew ?_))); (case side2 => exact (Kd.R_reads' HO_0.out).2.1); (case side3 => repeat (first | exact (Kd.R_reads' HO_5.out).2.2 | (with_reducible refine Kd.C_alloc ?_ _) | (with_reducible refine Kd.C_drewN ?_ _) | (with_reducible refine Kd.C_drew ?_))); (case side4 => exact (Kd.R_reads' HO_5.out).2.1); rintro e w29 ⟨v192, rfl, ho0, hb⟩; refine ⟨_, rfl, ?_⟩; have n0_ := Aside0.mk (Kd.R_elder' (by (with_reducible repeat (first | apply Kd.R_alloc | apply Kd.R_drewN | apply Kd.R_drew)); exact HO_0.out) (Kd.R_base ho0) hb); have n1_ := Aside0.mk (Kd.R_below (by (with_reducible repeat (first | apply Kd.R_alloc | apply Kd.R_drewN | apply Kd.R_drew)); exact HO_5.out) hb); have n2_ := Aside0.mk (Kd.R_lower (Kd.R_new' ho0 (Kd.R_lt (by (with_reducible repeat (first | apply Kd.R_alloc | apply Kd.R_drewN | apply Kd.R_drew)); exact HO_0.out))) (below_size (by repeat (first | (with_reducible first | exact HB.out | apply below_alloc | apply pw_below_drewN | apply below_drew1) | exact HB.out)))); have n3_ := Aside0.mk (below_step (by repeat (first | (with_reducible first | exact HB.out | apply below_alloc | apply pw_below_drewN | apply below_drew1) | exact HB.out)) hb); clear HO_0; clear HO_5; clear HB; have HO_0 := n0_; have HO_5 := n1_; have HO193 := n2_; have HB := n3_; clear n0_ n1_ n2_ n3_; (try clear hb); (try clear hb2); (try clear hk); (try clear hi); (try clear ho0)) | ((with_reducible refine gate_callee (f := 25) rfl ?_); refine goesL_ (some 38) rfl rfl Tryd.func25 (by kernel_rfl) rfl #[.slice Ao27 t183.length co27, .slice Ao28 x5_3.length co28] rfl (by (try simp only [List.map_toArray, List.map_cons, List.map_nil]); first | done | rfl | (simp only [List.length_drop, List.length_take]; rfl)) ?_; (with_reducible refine (racewayref24_Select.calls kj3 _ _ t183 _ _ x5_3 t194 _ ?side1 ?side2 ?side3 ?side4 A16.out).mono ?_); (case side1 => repeat (first | exact (Kd.R_reads' HO_0.out).2.2 | (with_reducible refine Kd.C_alloc ?_ _) | (with_reducible refine Kd.C_drewN ?_ _) | (with_reducible refine Kd.C_drew ?_))); (case side2 => exact (Kd.R_reads' HO_0.out).2.1); (case side3 => repeat (first | exact (Kd.R_reads' HO_5.out).2.2 | (with_reducible refine Kd.C_alloc ?_ _) | (with_reducible refine Kd.C_drewN ?_ _) | (with_reducible refine Kd.C_drew ?_))); (case side4 => exact (Kd.R_reads' HO_5.out).2.1); rintro e w30 ⟨v195, rfl, ho0, hb⟩; refine ⟨_, rfl, ?_⟩; have n0_ := Aside0.mk (Kd.R_elder' (by (with_reducible repeat (first | apply Kd.R_alloc | apply Kd.R_drewN | apply Kd.R_drew)); exact HO_0.out) (Kd.R_base ho0) hb); have n1_ := Aside0.mk (Kd.R_below (by (with_reducible repeat (first | apply Kd.R_alloc | apply Kd.R_drewN | apply Kd.R_drew)); exact HO_5.out) hb); have n2_ := Aside0.mk (Kd.R_elder' (by (with_reducible repeat (first | apply Kd.R_alloc | apply Kd.R_drewN | apply Kd.R_drew)); exact HO193.out) (Kd.R_base ho0) hb); have n3_ := Aside0.mk (Kd.R_lower (Kd.R_new' (Kd.R_new' ho0 (Kd.R_lt (by (with_reducible repeat (first | apply Kd.R_alloc | apply Kd.R_drewN | apply Kd.R_drew)); exact HO_0.out))) (Kd.R_lt (by (with_reducible repeat (first | apply Kd.R_alloc | apply Kd.R_drewN | apply Kd.R_drew)); exact HO193.out))) (below_size (by repeat (first | (with_reducible first | exact HB.out | apply below_alloc | apply pw_below_drewN | apply below_drew1) | exact HB.out)))); have n4_ := Aside0.mk (below_step (by repeat (first | (with_reducible first | exact HB.out | apply below_alloc | apply pw_below_drewN | apply below_drew1) | exact HB.out)) hb); clear HO_0; clear HO_5; clear HO193; clear HB; have HO_0 := n0_; have HO_5 := n1_; have HO193 := n2_; have HO196 := n3_; have HB := n4_; clear n0_ n1_ n2_ n3_ n4_; (try clear hb); (try clear hb2); (try clear hk); (try clear hi); (try clear ho0); obtain ⟨Ao31, co31, eo31⟩ := Kd.R_slice HO193.out; subst eo31; obtain ⟨Ao32, co32, eo32⟩ := Kd.R_slice HO196.out; subst eo32) | ((with_reducible refine gate_callee (f := 18) rfl ?_); refine goesL_ (some 39) rfl rfl Tryd.func18 (by kernel_rfl) rfl #[.slice Ao31 t191.length co31, .slice Ao32 t194.length co32] rfl (by (try simp only [List.map_toArray, List.map_cons, List.map_nil]); first | done | rfl | (simp only [List.length_drop, List.length_take]; rfl)) ?_; (with_reducible refine (racewayref24_Same.calls kj3 _ _ t191 _ _ t194 false _ ?side1 ?side2 ?side3 ?side4 A17.out).mono ?_); (case side1 => repeat (first | exact (Kd.R_reads' HO193.out).2.2 | (with_reducible refine Kd.C_alloc ?_ _) | (with_reducible refine Kd.C_drewN ?_ _) | (with_reducible refine Kd.C_drew ?_))); (case side2 => exact (Kd.R_reads' HO193.out).2.1); (case side3 => repeat (first | exact (Kd.R_reads' HO196.out).2.2 | (with_reducible refine Kd.C_alloc ?_ _) | (with_reducible refine Kd.C_drewN ?_ _) | (with_reducible refine Kd.C_drew ?_))); (case side4 => exact (Kd.R_reads' HO196.out).2.1); rintro e w' ⟨rfl, ⟨nd, rfl⟩⟩; refine ⟨_, rfl, ?_⟩))
        go_ret
        exact ⟨by first | rfl | (simp [errW_none, errW_some] <;> rfl) | (simp [*, errW_none, errW_some] <;> rfl), by repeat (first | (with_reducible first | exact HB.out | apply below_alloc | apply pw_below_drewN | apply below_drew1) | exact HB.out)⟩

end Go.Proofs.YtolpefnedpgaaaaDoor.X

namespace Go.Proofs.YtolpefnedpgaaaaDoor.X
open Go.RowKit Go.Proofs.YtolpefnedpgaaaaDoorW.PrintWords Go.Proofs.YtolpefnedpgaaaaDoorW.PrintMore
set_option linter.unusedVariables false
set_option linter.unusedSimpArgs false
def dig (c : UInt8) : Bool := decide (48 ≤ c.toNat) && decide (c.toNat ≤ 57)
def unsign : List UInt8 → List UInt8
  | [] => []
  | c :: l => if c = 43 ∨ c = 45 then l else c :: l
def mostOf : List UInt8 → Nat
  | [] => 126
  | c :: _ => if c = 45 then 128 else 126
def digs (m : Nat) (l : List UInt8) : Bool := decide (1 ≤ l.length) && decide (l.length ≤ m) && l.all dig
def atoiL (l : List UInt8) : Int := (atoiT (Lib.hasPrefix l [45]) (Lib.trimPrefix l [45])).1
def trim0 (l : List UInt8) : List UInt8 := l.dropWhile (· == 48)
def valA (x : List UInt8) : Int := atoiL (trim0 (x.take (x.length - 1)) ++ x.drop (x.length - 1))
/-- The code's number. -/
def numA (l : List UInt8) : Bool :=
  let c := Lib.cut (Lib.replace l [69] [101] 1) [101]
  let d := Lib.cut (unsign c.1) [46]
  if digs 38 (d.1 ++ d.2.1) = true then
    if c.2.2 = true then
      if digs 3 (unsign c.2.1) = true then decide (valA (unsign c.2.1) ≤ (mostOf c.2.1 : Int)) else false
    else true
  else false
def cut1 (c : UInt8) : List UInt8 → List UInt8 × List UInt8 × Bool
  | [] => ([], [], false)
  | b :: l => if b = c then ([], l, true) else (b :: (cut1 c l).1, (cut1 c l).2.1, (cut1 c l).2.2)
theorem cut_one (c : UInt8) : ∀ l, Lib.cut l [c] = cut1 c l
  | [] => by simp [Lib.cut, Lib.index, cut1]
  | b :: l => by
    have ih := cut_one c l
    unfold Lib.cut at ih ⊢
    rw [Lib.index_one] at ih ⊢
    unfold Lib.indexByte
    unfold cut1
    by_cases h : b = c
    · simp [h]
    · have h' : (b == c) = false := by simpa using h
      rw [h', if_neg h]
      simp only [Bool.false_eq_true, if_false]
      have hge := Lib.indexByte_ge l c
      by_cases h2 : Lib.indexByte l c = -1
      · rw [h2] at ih ⊢
        simp at ih ⊢
        rw [← ih]
        simp
      · have h3 : (Lib.indexByte l c == -1) = false := by simpa using h2
        rw [h3]
        simp only [Bool.false_eq_true, if_false]
        rw [if_pos (by omega)] at ih
        rw [if_pos (by omega), ← ih]
        have e : (Lib.indexByte l c + 1).toNat = (Lib.indexByte l c).toNat + 1 := by omega
        rw [e]
        simp [Nat.add_right_comm]
def rep1 : List UInt8 → List UInt8
  | [] => []
  | b :: l => if b = 69 then 101 :: l else b :: rep1 l
theorem rep1_index : ∀ l, rep1 l = if Lib.indexByte l 69 = -1 then l else l.take (Lib.indexByte l 69).toNat ++ [101] ++ l.drop ((Lib.indexByte l 69).toNat + 1)
  | [] => by simp [rep1, Lib.indexByte]
  | b :: l => by
    have ih := rep1_index l
    unfold rep1 Lib.indexByte
    by_cases h : b = 69
    · simp [h]
    · have h' : (b == 69) = false := by simpa using h
      rw [h', if_neg h]
      simp only [Bool.false_eq_true, if_false]
      have hge := Lib.indexByte_ge l 69
      by_cases h2 : Lib.indexByte l 69 = -1
      · rw [ih, h2]; simp
      · have h3 : (Lib.indexByte l 69 == -1) = false := by simpa using h2
        rw [h3]
        simp only [Bool.false_eq_true, if_false]
        rw [if_neg (by omega), ih, if_neg h2]
        have e : (Lib.indexByte l 69 + 1).toNat = (Lib.indexByte l 69).toNat + 1 := by omega
        rw [e]
        simp
theorem replace_one (l : List UInt8) : Lib.replace l [69] [101] 1 = rep1 l := by
  unfold Lib.replace
  rw [if_neg (by decide), rep1_index]
  have hge := Lib.indexByte_ge l 69
  have hi := Lib.index_one l 69
  unfold Lib.replaceNum Lib.count Lib.countFrom
  rw [hi]
  by_cases h : Lib.indexByte l 69 = -1
  · rw [h]
    simp [Lib.replaceK]
  · have h3 : (Lib.indexByte l 69 == -1) = false := by simpa using h
    rw [h3, if_neg h]
    simp only [Bool.false_eq_true, if_false]
    rw [if_neg (by omega)]
    show Lib.replaceK [69] [101] 1 l = _
    unfold Lib.replaceK
    rw [hi, h3]
    simp only [Bool.false_eq_true, if_false, Lib.replaceK]
    rfl
def val (v : Nat) (l : List UInt8) : Nat := l.foldl (fun u c => 10 * u + (c.toNat - 48)) v
/-- Two points, one behind the other. -/
def dd : List UInt8 → Bool
  | a :: b :: l => (a == 46 && b == 46) || dd (b :: l)
  | _ => false
theorem contains_dd : ∀ l : List UInt8, Lib.contains l [46, 46] = dd l
  | [] => by simp [Lib.contains, Lib.index, dd]
  | [a] => by simp [Lib.contains, Lib.index, dd, List.isPrefixOf]
  | a :: b :: l => by
    have ih := contains_dd (b :: l)
    unfold Lib.contains at ih ⊢
    unfold dd
    rw [← ih, Lib.index]
    have hge := Lib.index_ge (b :: l) [46, 46]
    generalize Lib.index (b :: l) [46, 46] = x at *
    by_cases h : a = 46 ∧ b = 46
    · rw [h.1, h.2]; simp [List.isPrefixOf]
    · have e : (a == 46 && b == 46) = false := by
        rw [Bool.and_eq_false_iff, beq_eq_false_iff_ne, beq_eq_false_iff_ne]
        by_cases h1 : a = 46
        · exact .inr fun h2 => h ⟨h1, h2⟩
        · exact .inl h1
      rw [e, Bool.false_or]
      have e2 : List.isPrefixOf [46, 46] (a :: b :: l) = false := by
        simp only [List.isPrefixOf, Bool.and_true]
        rw [← e, Bool.beq_comm (a := a), Bool.beq_comm (a := b)]
      rw [e2]
      simp only [Bool.false_eq_true, if_false]
      rw [decide_eq_decide]
      split
      · rename_i hx
        have := beq_iff_eq.1 hx
        omega
      · rename_i hx
        have : x ≠ -1 := fun e => hx (by rw [e]; rfl)
        omega
end Go.Proofs.YtolpefnedpgaaaaDoor.X

namespace Go.Proofs.YtolpefnedpgaaaaDoor.X
open Go.RowKit Go.Proofs.YtolpefnedpgaaaaDoorW.PrintWords Go.Proofs.YtolpefnedpgaaaaDoorW.PrintMore
set_option linter.unusedVariables false
set_option linter.unusedSimpArgs false
def inB (l : ByteArray) (c : Int) : Bool := decide (0 ≤ Lib.indexByte l.data.toList c.toNat.toUInt8)
def digitI (c : Int) : Bool := decide (48 ≤ c) && decide (c ≤ 57)
def letterI (c : Int) : Bool := digitI c || (decide (97 ≤ c) && decide (c ≤ 122)) || (decide (65 ≤ c) && decide (c ≤ 90)) || decide (c = 95) || decide (c = 45) || decide (c = 46)
theorem at_drop (s : ByteArray) (i : Nat) (h : i < s.size) : ∃ c : UInt8, s.data.toList.drop i = c :: s.data.toList.drop (i + 1) ∧ bt s (i : Int) = (c.toNat : Int) :=
  ⟨s[i]'h, List.drop_eq_getElem_cons (by simpa using h), q_bt s i h⟩
theorem drop_all (s : ByteArray) (i : Nat) (h : s.size ≤ i) : s.data.toList.drop i = [] := by rw [List.drop_eq_nil_iff]; simpa using h
theorem allD_list (p : Int → Bool) (s : ByteArray) : ∀ (d i : Nat), i + d = s.size → allD p s d i = (s.data.toList.drop i).all fun c => p (c.toNat : Int)
  | 0, i, h => by rw [drop_all s i (by omega)]; rfl
  | d + 1, i, h => by
    obtain ⟨c, hc, hb⟩ := at_drop s i (by omega)
    rw [hc, allD, hb, List.all_cons, allD_list p s d (i + 1) (by omega)]
theorem all_l0 (s x1 : ByteArray) (hs : s.size ≤ 1000000) : ∀ (d k i : Nat), i + d = s.size → d < k → attribute_all.l0 k s x1 (s.size : Int) (i : Int) = some (allD (inB x1) s d i) := by
  intro d
  induction d with
  | zero =>
    intro k i h hk
    obtain ⟨k, rfl⟩ : ∃ m, k = m + 1 := ⟨k - 1, by omega⟩
    simp only [attribute_all.l0, allD]
    rw [if_neg (by omega)]
  | succ d ih =>
    intro k i h hk
    obtain ⟨k, rfl⟩ : ∃ m, k = m + 1 := ⟨k - 1, by omega⟩
    simp only [attribute_all.l0, allD, strings_IndexByte.f, Option.bind_some]
    rw [if_pos (by omega), if_pos (by omega), if_pos (by omega), w64 (by omega) (by omega), show ((i : Int) + 1) = ((i + 1 : Nat) : Int) by omega, ih k (i + 1) (by omega) (by omega)]
    unfold inB
    by_cases hb : Lib.indexByte x1.data.toList (bt s (i : Int)).toNat.toUInt8 < 0
    · rw [if_pos hb, decide_eq_false (by omega)]; rfl
    · rw [if_neg hb, decide_eq_true (by omega)]; rfl
theorem all_eq (s l : ByteArray) (m : Nat) (hs : s.size ≤ 1000000) (k : Nat) (hk : s.size + 2 < k) :
    attribute_all.f k s l (m : Int) = some (decide (1 ≤ s.size) && decide (s.size ≤ m) && allD (inB l) s s.size 0) := by
  unfold attribute_all.f
  obtain ⟨k, rfl⟩ : ∃ m, k = m + 1 := ⟨k - 1, by omega⟩
  by_cases h1 : (s.size : Int) < 1
  · rw [if_pos h1, decide_eq_false (p := 1 ≤ s.size) (by omega)]; simp [attribute_all.j0]
  · rw [if_neg h1, decide_eq_true (p := 1 ≤ s.size) (by omega)]
    by_cases h2 : (s.size : Int) > m
    · rw [decide_eq_true (p := (s.size : Int) > m) h2, decide_eq_false (p := s.size ≤ m) (by omega)]; simp [attribute_all.j0]
    · rw [decide_eq_false (p := (s.size : Int) > m) h2, decide_eq_true (p := s.size ≤ m) (by omega)]
      simp only [attribute_all.j0, Bool.false_eq_true, if_false, Bool.true_and]
      exact all_l0 s l hs s.size k 0 (by omega) (by omega)
abbrev lettersB : ByteArray := ⟨#[65, 66, 67, 68, 69, 70, 71, 72, 73, 74, 75, 76, 77, 78, 79, 80, 81, 82, 83, 84, 85, 86, 87, 88, 89, 90, 97, 98, 99, 100, 101, 102, 103, 104, 105, 106, 107, 108, 109, 110, 111, 112, 113, 114, 115, 116, 117, 118, 119, 120, 121, 122, 48, 49, 50, 51, 52, 53, 54, 55, 56, 57, 95, 45, 46]⟩
abbrev digitsB : ByteArray := ⟨#[48, 49, 50, 51, 52, 53, 54, 55, 56, 57]⟩
theorem letters_in (c : Int) (h0 : 0 ≤ c) (h1 : c < 256) : inB lettersB c = letterI c := byte_eq (by decide +kernel) c h0 h1
theorem digits_in (c : Int) (h0 : 0 ≤ c) (h1 : c < 256) : inB digitsB c = digitI c := byte_eq (by decide +kernel) c h0 h1
theorem digitI_dig (c : UInt8) : digitI (c.toNat : Int) = dig c := by
  unfold digitI dig
  congr 1 <;> (rw [decide_eq_decide]; omega)
theorem digits_eq (s : ByteArray) (m : Nat) (hs : s.size ≤ 1000000) (k : Nat) (hk : s.size + 2 < k) : attribute_all.f k s ⟨#[48, 49, 50, 51, 52, 53, 54, 55, 56, 57]⟩ (m : Int) = some (digs m s.data.toList) := by
  rw [all_eq s _ m hs k hk, allD_congr digits_in, allD_list _ _ _ _ (by omega)]
  unfold digs
  simp only [List.drop_zero, digitI_dig]
  have : s.data.toList.length = s.size := by simp
  rw [this]
def letter8 (c : UInt8) : Bool := letterI (c.toNat : Int)
theorem letters_eq (s : ByteArray) (m : Nat) (hs : s.size ≤ 1000000) (k : Nat) (hk : s.size + 2 < k) : attribute_all.f k s lettersB (m : Int) = some (decide (1 ≤ s.data.toList.length) && decide (s.data.toList.length ≤ m) && s.data.toList.all letter8) := by
  rw [all_eq s _ m hs k hk, allD_congr letters_in, allD_list _ _ _ _ (by omega)]
  have : s.data.toList.length = s.size := by simp
  rw [this]
  rfl
def smallI (c : Int) : Int := if c ≥ 65 then (if c ≤ 90 then (c + 32) % 256 else c) else c
def begD (s p : ByteArray) : Nat → Nat → Bool
  | 0, _ => true
  | d + 1, i => decide (smallI (bt s (i : Int)) = bt p (i : Int)) && begD s p d (i + 1)
def begB (s p : ByteArray) : Bool := decide (p.size ≤ s.size) && begD s p p.size 0
theorem begins_l0 (s p : ByteArray) (hp : p.size ≤ s.size) (hs : s.size ≤ 1000000) : ∀ (d k i : Nat), i + d = p.size → 2 * d + 1 < k → attribute_begins.l0 k s p (p.size : Int) (i : Int) = some (begD s p d i) := by
  intro d
  induction d with
  | zero =>
    intro k i h hk
    obtain ⟨k, rfl⟩ : ∃ m, k = m + 1 := ⟨k - 1, by omega⟩
    simp only [attribute_begins.l0, begD]
    rw [if_neg (by omega)]
  | succ d ih =>
    intro k i h hk
    obtain ⟨k, rfl⟩ : ∃ m, k = m + 2 := ⟨k - 2, by omega⟩
    simp only [attribute_begins.l0, begD]
    rw [if_pos (by omega), if_pos (by omega), if_pos (by omega)]
    have e : ∀ b, attribute_begins.j1 (k + 1) s p (i : Int) (bt s i) (p.size : Int) (i : Int) b = some (decide ((if b = true then (bt s i + 32) % 256 else bt s i) = bt p (i : Int)) && begD s p d (i + 1)) := by
      intro b
      simp only [attribute_begins.j1]
      cases b
      · simp only [Bool.false_eq_true, if_false]
        rw [if_pos (show (0 : Int) ≤ (i : Int) by omega), if_pos (show (i : Int) < (p.size : Int) by omega), w64 (by omega) (by omega), show ((i : Int) + 1) = ((i + 1 : Nat) : Int) by omega, ih k (i + 1) (by omega) (by omega)]
        by_cases hq : bt s (i : Int) = bt p (i : Int)
        · rw [if_pos hq, decide_eq_true hq]; rfl
        · rw [if_neg hq, decide_eq_false hq]; rfl
      · simp only [if_true]
        rw [if_pos (show (0 : Int) ≤ (i : Int) by omega), if_pos (show (i : Int) < (p.size : Int) by omega), w64 (by omega) (by omega), show ((i : Int) + 1) = ((i + 1 : Nat) : Int) by omega, ih k (i + 1) (by omega) (by omega)]
        by_cases hq : (bt s (i : Int) + 32) % 256 = bt p (i : Int)
        · rw [if_pos hq, decide_eq_true hq]; rfl
        · rw [if_neg hq, decide_eq_false hq]; rfl
    rw [e, e]
    unfold smallI
    by_cases h1 : bt s (i : Int) ≥ 65
    · rw [if_pos h1, if_pos h1]
      by_cases h2 : bt s (i : Int) ≤ 90
      · rw [decide_eq_true h2, if_pos h2]; rfl
      · rw [decide_eq_false h2, if_neg h2]; rfl
    · rw [if_neg h1, if_neg h1]; rfl
theorem begins_eq (s p : ByteArray) (hs : s.size ≤ 1000000) (k : Nat) (hk : 2 * p.size + 1 < k) : attribute_begins.f k s p = some (begB s p) := by
  unfold attribute_begins.f begB
  by_cases h : p.size ≤ s.size
  · rw [if_neg (by omega), decide_eq_true h, Bool.true_and]
    exact begins_l0 s p h hs p.size k 0 (by omega) hk
  · rw [if_pos (by omega), decide_eq_false h]; rfl
def nameB (s : ByteArray) : Bool :=
  decide (1 ≤ s.size) && decide (s.size ≤ 64) && s.data.toList.all letter8 && !decide (bt s 0 = 46) && !decide (bt s ((s.size - 1 : Nat) : Int) = 46) && !dd s.data.toList && !begB s ⟨#[97, 119, 115, 46]⟩ && !begB s ⟨#[97, 109, 97, 122, 111, 110, 46]⟩
theorem Name_eq (s : ByteArray) (hs : s.size ≤ 1000000) (k : Nat) (hk : s.size + 20 < k) : attribute_Name.f k s = some (nameB s) := by
  unfold attribute_Name.f nameB
  have h64 := letters_eq s 64 hs k (by omega)
  have hl : s.data.toList.length = s.size := by simp
  rw [hl] at h64
  rw [show ((64 : Nat) : Int) = 64 from rfl] at h64
  rw [h64, begins_eq s _ hs k (by show 2 * 4 + 1 < k; omega), begins_eq s _ hs k (by show 2 * 7 + 1 < k; omega)]
  simp only [Option.bind_some]
  by_cases h : (decide (1 ≤ s.size) && decide (s.size ≤ 64) && s.data.toList.all letter8) = true
  · rw [h]
    rw [Bool.and_eq_true, Bool.and_eq_true, decide_eq_true_iff, decide_eq_true_iff] at h
    rw [if_pos rfl, if_pos (by omega), w64 (by omega) (by omega), show ((s.size : Int) - 1) = ((s.size - 1 : Nat) : Int) by omega, if_pos (show (0 : Int) ≤ ((s.size - 1 : Nat) : Int) by omega), if_pos (show ((s.size - 1 : Nat) : Int) < (s.size : Int) by omega)]
    simp only [Bool.true_and]
    by_cases h1 : bt s 0 = 46
    · rw [if_pos h1, decide_eq_true h1]; rfl
    · rw [if_neg h1, decide_eq_false h1]
      by_cases h2 : bt s ((s.size - 1 : Nat) : Int) = 46
      · rw [if_pos h2, decide_eq_true h2]; rfl
      · rw [if_neg h2, decide_eq_false h2]
        unfold strings_Contains.f
        rw [if_pos (by omega)]
        simp only [Option.bind_some]
        rw [contains_dd]
        cases dd s.data.toList <;> cases begB s ⟨#[97, 119, 115, 46]⟩ <;> cases begB s ⟨#[97, 109, 97, 122, 111, 110, 46]⟩ <;> rfl
  · rw [Bool.not_eq_true] at h
    rw [h]
    simp only [Bool.false_eq_true, if_false, Bool.false_and]
end Go.Proofs.YtolpefnedpgaaaaDoor.X

namespace Go.Proofs.YtolpefnedpgaaaaDoor.X
open Go.RowKit Go.Proofs.YtolpefnedpgaaaaDoorW.PrintWords Go.Proofs.YtolpefnedpgaaaaDoorW.PrintMore
set_option linter.unusedVariables false
set_option linter.unusedSimpArgs false
theorem bsize (l : List UInt8) : (⟨l.toArray⟩ : ByteArray).size = l.length := by show l.toArray.size = _; simp
theorem bext {a b : ByteArray} (h : a.data.toList = b.data.toList) : a = b := by
  cases a; cases b; congr 1; exact Array.toList_inj.1 h
theorem data_ext (s : ByteArray) (a b : Nat) : (s.extract a b).data.toList = (s.data.toList.drop a).take (b - a) := by
  rw [← Lib.extract_toList]; exact (ByteArray.toList_eq _).symm
theorem ext_drop (s : ByteArray) (n : Nat) : s.extract n s.size = ⟨(s.data.toList.drop n).toArray⟩ := by
  apply bext
  rw [data_ext]
  show _ = (s.data.toList.drop n).toArray.toList
  rw [List.take_of_length_le (by simp)]
theorem ext_take (s : ByteArray) (n : Nat) : s.extract 0 n = ⟨(s.data.toList.take n).toArray⟩ := by
  apply bext
  rw [data_ext]
  rfl
theorem bapp (a b : List UInt8) : (⟨a.toArray⟩ : ByteArray) ++ ⟨b.toArray⟩ = ⟨(a ++ b).toArray⟩ := by
  apply bext
  show (ByteArray.append _ _).data.toList = _
  simp
theorem bt_zero (t : ByteArray) (c : UInt8) (r : List UInt8) (h : t.data.toList = c :: r) : 0 < t.size ∧ bt t 0 = (c.toNat : Int) := by
  have hz : 0 < t.size := by
    have : t.data.toList.length = t.size := by simp
    rw [h] at this; simp at this; omega
  obtain ⟨c', h1, h2⟩ := at_drop t 0 hz
  rw [List.drop_zero, h] at h1
  simp only [List.cons.injEq] at h1
  refine ⟨hz, ?_⟩
  rw [h1.1]; exact h2
def hasP (s p : ByteArray) : Bool := decide (p.size ≤ s.size) && ((s.extract 0 p.size).toList == p.toList)
theorem hasPrefix_eq (s p : ByteArray) : stringslite_HasPrefix.f s p = some (hasP s p) := by
  unfold stringslite_HasPrefix.f hasP
  by_cases h : p.size ≤ s.size
  · rw [if_pos (by omega), if_pos (by omega), if_pos (by omega), decide_eq_true h, Int.toNat_natCast]; rfl
  · rw [if_neg (by omega), decide_eq_false h]; rfl
theorem cutPrefix_eq (s p : ByteArray) : strings_CutPrefix.f s p = some (if hasP s p = true then (s.extract p.size s.size, true) else (s, false)) := by
  unfold strings_CutPrefix.f stringslite_CutPrefix.f
  rw [hasPrefix_eq]
  simp only [Option.bind_some]
  by_cases h : hasP s p = true
  · have h' := h
    unfold hasP at h'
    rw [Bool.and_eq_true, decide_eq_true_iff] at h'
    rw [if_pos h, if_pos h, if_pos (by omega), if_pos (by omega), Int.toNat_natCast]; rfl
  · rw [if_neg h, if_neg h]; rfl
def typeR : List UInt8 → Bool
  | [] => true
  | c :: r => c == 46 && decide (1 ≤ r.length) && decide (r.length ≤ 32) && r.all letter8
def typeOne (s p : ByteArray) : Bool := hasP s p && typeR (s.data.toList.drop p.size)
def typeF (s : ByteArray) (L : List ByteArray) : Nat → Nat → Int × Bool
  | 0, _ => (0, false)
  | d + 1, i => if typeOne s (rdOf ByteArray.empty L (i : Int)) = true then (((i + 1 : Nat) : Int), true) else typeF s L d (i + 1)
theorem c46 (c : UInt8) : ((c.toNat : Int) = 46) ↔ c = 46 := by
  constructor
  · intro h
    apply UInt8.toNat.inj
    show c.toNat = 46
    omega
  · rintro rfl; rfl
theorem type_l0 (s : ByteArray) (L : List ByteArray) (hs : s.size ≤ 1000000) (hL : L.length = 3) : ∀ (d k i : Nat), i + d = 3 → s.size + 10 + d < k → attribute_Type.l0 k s L 3 (i : Int) = some (typeF s L d i) := by
  intro d
  induction d with
  | zero =>
    intro k i h hk
    obtain ⟨k, rfl⟩ : ∃ m, k = m + 1 := ⟨k - 1, by omega⟩
    simp only [attribute_Type.l0, typeF]
    rw [if_neg (by omega)]
  | succ d ih =>
    intro k i h hk
    obtain ⟨k, rfl⟩ : ∃ m, k = m + 1 := ⟨k - 1, by omega⟩
    simp only [attribute_Type.l0, typeF]
    rw [if_pos (by omega), if_pos (by omega), if_pos (by omega), cutPrefix_eq, w64 (x := (i : Int) + 1) (by omega) (by omega), show ((i : Int) + 1) = ((i + 1 : Nat) : Int) by omega, ih k (i + 1) (by omega) (by omega)]
    generalize rdOf ByteArray.empty L (i : Int) = p
    simp only [Option.bind_some]
    unfold typeOne
    by_cases hp : hasP s p = true
    · rw [if_pos hp, hp, ext_drop]
      simp only [if_true, Bool.true_and]
      have ht : (⟨(s.data.toList.drop p.size).toArray⟩ : ByteArray).toList = s.data.toList.drop p.size := by rw [ByteArray.toList_eq]
      rw [ht]
      have hlen : (s.data.toList.drop p.size).length ≤ s.size := by simp
      cases hd : s.data.toList.drop p.size with
      | nil => simp [typeR]
      | cons c r =>
        rw [hd] at hlen
        obtain ⟨h0, hb⟩ := bt_zero ⟨(c :: r).toArray⟩ c r rfl
        rw [if_neg (by simp), if_pos (by omega), hb]
        by_cases hc : c = 46
        · rw [if_pos ((c46 c).2 hc), if_pos (by omega), ext_drop]
          have hl := letters_eq ⟨(((⟨(c :: r).toArray⟩ : ByteArray).data.toList).drop 1).toArray⟩ 32 (by rw [bsize]; simp only [List.length_cons] at hlen; show r.length ≤ 1000000; omega) k (by rw [bsize]; simp only [List.length_cons] at hlen; show r.length + 2 < k; omega)
          rw [show ((32 : Nat) : Int) = 32 from rfl] at hl
          rw [hl]
          simp only [Option.bind_some]
          have e : typeR (c :: r) = (decide (1 ≤ r.length) && decide (r.length ≤ 32) && r.all letter8) := by simp [typeR, hc]
          rw [e]
          show (if (decide (1 ≤ r.length) && decide (r.length ≤ 32) && r.all letter8) = true then _ else _) = _
          split <;> rfl
        · rw [if_neg (fun h => hc ((c46 c).1 h))]
          have e : typeR (c :: r) = false := by simp [typeR, hc]
          rw [e]; rfl
    · rw [if_neg hp]
      rw [Bool.not_eq_true] at hp
      rw [hp]
      simp
abbrev kindsL : List ByteArray := [⟨#[83, 116, 114, 105, 110, 103]⟩, ⟨#[78, 117, 109, 98, 101, 114]⟩, ⟨#[66, 105, 110, 97, 114, 121]⟩]
theorem Type_eq (s : ByteArray) (hs : s.size ≤ 1000000) (k : Nat) (hk : s.size + 13 < k) : attribute_Type.f k s = some (typeF s kindsL 3 0) := by
  unfold attribute_Type.f
  simp only [Option.bind_some]
  exact type_l0 s kindsL hs rfl 3 k 0 (by omega) (by omega)
theorem hasP_one (s : ByteArray) (c : UInt8) : hasP s ⟨#[c]⟩ = match s.data.toList with | [] => false | b :: _ => b == c := by
  unfold hasP
  rw [Lib.extract_toList, show (⟨#[c]⟩ : ByteArray).toList = [c] by rw [ByteArray.toList_eq]]
  have hl : s.data.toList.length = s.size := by simp
  cases hd : s.data.toList with
  | nil =>
    rw [hd] at hl
    rw [decide_eq_false]
    · rfl
    · show ¬ (1 ≤ s.size); simp at hl; omega
  | cons b r =>
    rw [hd] at hl
    rw [decide_eq_true]
    · show ([b] == [c]) = _
      simp
    · show 1 ≤ s.size; simp at hl; omega
theorem strings_HasPrefix_eq (s p : ByteArray) : strings_HasPrefix.f s p = some (hasP s p) := by
  unfold strings_HasPrefix.f
  rw [hasPrefix_eq]; rfl
theorem sign_eq (l : List UInt8) (h : l.length ≤ 1000000) : attribute_sign.f ⟨l.toArray⟩ = some ⟨(unsign l).toArray⟩ := by
  unfold attribute_sign.f
  rw [strings_HasPrefix_eq, strings_HasPrefix_eq, hasP_one, hasP_one]
  have e : ∀ r : List UInt8, ∀ c, (⟨(c :: r).toArray⟩ : ByteArray).extract 1 (⟨(c :: r).toArray⟩ : ByteArray).size = ⟨r.toArray⟩ := fun r c => ext_drop ⟨(c :: r).toArray⟩ 1
  simp only [Option.bind_some]
  cases l with
  | nil => rfl
  | cons c r =>
    rw [e, bsize, show unsign (c :: r) = if c = 43 ∨ c = 45 then r else c :: r from rfl]
    have hl : (1 : Int) ≤ ((c :: r).length : Int) := by simp only [List.length_cons]; omega
    show (if (c == 43) = true then _ else if (c == 45) = true then _ else _) = _
    by_cases h1 : c = 43
    · rw [if_pos (beq_iff_eq.2 h1), if_pos hl, if_pos (.inl h1)]
    · rw [if_neg (fun h => h1 (beq_iff_eq.1 h))]
      by_cases h2 : c = 45
      · rw [if_pos (beq_iff_eq.2 h2), if_pos hl, if_pos (.inr h2)]
      · rw [if_neg (fun h => h2 (beq_iff_eq.1 h)), if_neg (by simp [h1, h2])]
theorem cut1_len (c : UInt8) : ∀ l, (cut1 c l).1.length + (cut1 c l).2.1.length ≤ l.length
  | [] => by simp [cut1]
  | b :: l => by
    have := cut1_len c l
    unfold cut1
    split
    · simp
    · simp; omega
theorem rep1_len : ∀ l, (rep1 l).length = l.length
  | [] => rfl
  | b :: l => by
    have := rep1_len l
    unfold rep1
    split <;> simp [this]
theorem unsign_len (l : List UInt8) : (unsign l).length ≤ l.length := by
  cases l with
  | nil => simp [unsign]
  | cons c l => rw [show unsign (c :: l) = if c = 43 ∨ c = 45 then l else c :: l from rfl]; split <;> simp
theorem cut_eq (l : List UInt8) (c : UInt8) (h : l.length ≤ 1000000) : strings_Cut.f ⟨l.toArray⟩ ⟨#[c]⟩ = some (⟨(cut1 c l).1.toArray⟩, ⟨(cut1 c l).2.1.toArray⟩, (cut1 c l).2.2) := by
  unfold strings_Cut.f
  rw [if_pos (by rw [bsize]; omega)]
  show some (_, _, _) = _
  rw [show (⟨#[c]⟩ : ByteArray).data.toList = [c] from rfl, show (⟨l.toArray⟩ : ByteArray).data.toList = l from rfl, cut_one]
theorem digits_l (l : List UInt8) (m : Nat) (h : l.length ≤ 100000) (k : Nat) (hk : l.length + 2 < k) : attribute_all.f k ⟨l.toArray⟩ ⟨#[48, 49, 50, 51, 52, 53, 54, 55, 56, 57]⟩ (m : Int) = some (digs m l) :=
  digits_eq ⟨l.toArray⟩ m (by rw [bsize]; omega) k (by rw [bsize]; omega)
theorem most_eq (q : List UInt8) (v : Int) : (if hasP ⟨q.toArray⟩ ⟨#[45]⟩ = true then some (decide (v ≤ 128)) else some (decide (v ≤ 126))) = some (decide (v ≤ (mostOf q : Int))) := by
  cases q with
  | nil => rw [hasP_one]; rfl
  | cons c r =>
    rw [show hasP ⟨(c :: r).toArray⟩ ⟨#[45]⟩ = (c == 45) from hasP_one _ _, show mostOf (c :: r) = if c = 45 then 128 else 126 from rfl]
    by_cases h : c = 45
    · rw [if_pos (beq_iff_eq.2 h), if_pos h]; rfl
    · rw [if_neg (fun h' => h (beq_iff_eq.1 h')), if_neg h]; rfl
theorem numA_of (l a b : List UInt8) (has : Bool) (x y : List UInt8) (z : Bool) (h1 : cut1 101 (rep1 l) = (a, b, has)) (h2 : cut1 46 (unsign a) = (x, y, z)) :
    numA l = if digs 38 (x ++ y) = true then if has = true then if digs 3 (unsign b) = true then decide (valA (unsign b) ≤ (mostOf b : Int)) else false else true else false := by
  unfold numA
  rw [replace_one, cut_one, h1]
  simp only
  rw [cut_one, h2]
theorem Number_eq (s : ByteArray) (hs : s.size ≤ 1000) (k : Nat) (hk : 2000 < k) : attribute_Number.f k s = some (numA s.data.toList) := by
  have hl : s.data.toList.length = s.size := by simp
  unfold attribute_Number.f strings_Replace.f
  generalize s.data.toList = l at hl ⊢
  rw [if_pos ⟨by omega, by decide, by decide⟩]
  simp only [Option.bind_some]
  rw [show Lib.replace l (⟨#[69]⟩ : ByteArray).data.toList (⟨#[101]⟩ : ByteArray).data.toList 1 = rep1 l from replace_one l, cut_eq _ _ (by rw [rep1_len]; omega)]
  have h1 := cut1_len 101 (rep1 l)
  rw [rep1_len] at h1
  simp only [Option.bind_some]
  obtain ⟨a, b, has, hc⟩ : ∃ a b has, cut1 101 (rep1 l) = (a, b, has) := ⟨_, _, _, rfl⟩
  rw [hc] at h1 ⊢
  simp only at h1 ⊢
  rw [sign_eq _ (by omega)]
  simp only [Option.bind_some]
  have h2 := unsign_len a
  rw [cut_eq _ _ (by omega)]
  have h3 := cut1_len 46 (unsign a)
  simp only [Option.bind_some]
  obtain ⟨x, y, z, hd2⟩ : ∃ x y z, cut1 46 (unsign a) = (x, y, z) := ⟨_, _, _, rfl⟩
  rw [hd2] at h3 ⊢
  rw [numA_of l a b has x y z hc hd2]
  simp only at h3 ⊢
  rw [bsize, bsize, if_pos (by omega), bapp]
  have hd := digits_l (x ++ y) 38 (by simp; omega) k (by simp; omega)
  rw [show ((38 : Nat) : Int) = 38 from rfl] at hd
  rw [hd]
  simp only [Option.bind_some]
  cases digs 38 (x ++ y)
  · simp only [Bool.false_eq_true, if_false]
  · simp only [if_true]
    cases has
    · simp only [Bool.false_eq_true, if_false]
    · simp only [if_true]
      rw [sign_eq _ (by omega)]
      have h4 := unsign_len b
      have hd := digits_l (unsign b) 3 (by omega) k (by omega)
      rw [show ((3 : Nat) : Int) = 3 from rfl] at hd
      simp only [Option.bind_some]
      rw [hd]
      simp only [Option.bind_some]
      cases hg : digs 3 (unsign b)
      · simp only [Bool.false_eq_true, if_false]
      · simp only [if_true]
        have hu : 1 ≤ (unsign b).length := by
          unfold digs at hg
          rw [Bool.and_eq_true, Bool.and_eq_true, decide_eq_true_iff] at hg
          exact hg.1.1
        generalize unsign b = u at h4 hu ⊢
        rw [bsize, w64 (by omega) (by omega), if_pos (by omega), if_pos (by omega), show ((u.length : Int) - 1).toNat = u.length - 1 by omega, ext_take]
        have e1 : (⟨u.toArray⟩ : ByteArray).extract (u.length - 1) u.length = ⟨(u.drop (u.length - 1)).toArray⟩ := by
          have := ext_drop ⟨u.toArray⟩ (u.length - 1)
          rw [bsize] at this
          exact this
        rw [e1]
        have e2 : strings_TrimLeft.f ⟨(List.take (u.length - 1) (⟨u.toArray⟩ : ByteArray).data.toList).toArray⟩ ⟨#[48]⟩ = some ⟨(trim0 (u.take (u.length - 1))).toArray⟩ := rfl
        rw [e2]
        simp only [Option.bind_some, bsize]
        have h5 : (trim0 (u.take (u.length - 1))).length ≤ u.length := by
          have := (List.dropWhile_sublist (l := u.take (u.length - 1)) (· == (48 : UInt8))).length_le
          unfold trim0
          simp at this ⊢
          omega
        rw [if_pos (by simp; omega), bapp, strings_HasPrefix_eq]
        show Option.bind (some (atoiB _)) _ = _
        simp only [Option.bind_some]
        have e3 : (atoiB ⟨(trim0 (List.take (u.length - 1) u) ++ List.drop (u.length - 1) u).toArray⟩).1 = valA u := rfl
        rw [e3]
        exact most_eq b (valA u)
theorem c69 (c : UInt8) : ((c.toNat : Int) = 69) ↔ c = 69 := by
  constructor
  · intro h
    apply UInt8.toNat.inj
    show c.toNat = 69
    omega
  · rintro rfl; rfl
end Go.Proofs.YtolpefnedpgaaaaDoor.X

namespace Go.Proofs.YtolpefnedpgaaaaDoor.X
open Go.RowKit Go.Proofs.YtolpefnedpgaaaaDoorW.PrintWords Go.Proofs.YtolpefnedpgaaaaDoorW.PrintMore
set_option linter.unusedVariables false
set_option linter.unusedSimpArgs false
theorem hexL_length : ∀ l : List Int, (hexL l).length = 2 * l.length
  | [] => rfl
  | x :: l => by
    have := hexL_length l
    unfold hexL at this ⊢
    simp only [List.flatMap_cons, List.length_append, this, List.length_cons, List.length_nil]
    omega
theorem outL_length : ∀ l : List Int, (outL l).length = 4 * l.length
  | [] => rfl
  | x :: l => by
    have := outL_length l
    unfold outL at this ⊢
    simp only [List.flatMap_cons, List.length_append, this, List.length_cons, List.length_nil]
    omega
theorem sum_length {s : Fp} (h : s.Ok) : s.sum.length = 16 := by
  unfold Fp.sum
  rw [outL_length]
  have : s.fin.Ok := by unfold Fp.fin; exact Fp.bytes_ok (Fp.bytes_ok (Fp.byte_ok h _) _) _
  rw [this.1]
theorem strOfNums_size (l : List Int) : (strOfNums l).size = l.length := by
  unfold strOfNums
  show Array.size _ = _
  simp
theorem sum_one (k : Nat) (x : S33) (hx : small33 x) (hk : x.f1.size + 13 < k) : ∃ r, attribute_Sum.f k [x] = some r ∧ r.size = 32 := by
  unfold attribute_Sum.f
  rw [if_neg (by simp), if_pos (by simp), show sortA [x] = [x] from rfl]
  unfold sumAll sumStep
  rw [if_pos hx, Type_eq x.f1 (by have := hx.2.1; omega) k hk]
  refine ⟨_, rfl, ?_⟩
  rw [strOfNums_size, hexL_length, sum_length]
  exact Fp.text_ok (Fp.bytes_ok (Fp.text_ok (Fp.text_ok fp0_ok _) _) _) _
theorem works_eq (k : Nat) (hk : 4000 < k) : racewaylaw24_works.f k = some true := by
  unfold racewaylaw24_works.f
  rw [Type_eq _ (by decide) k (by show 10 + 13 < k; omega), Name_eq _ (by decide) k (by show 3 + 20 < k; omega), Name_eq _ (by decide) k (by show 4 + 20 < k; omega), Name_eq _ (by decide) k (by show 5 + 20 < k; omega), Number_eq _ (by decide) k (by omega)]
  obtain ⟨r, h1, h2⟩ := sum_one k ⟨⟨#[97]⟩, ⟨#[83, 116, 114, 105, 110, 103]⟩, ⟨#[120]⟩⟩ (by decide) (by show 6 + 13 < k; omega)
  rw [h1]
  rw [show typeF ⟨#[78, 117, 109, 98, 101, 114, 46, 105, 110, 116]⟩ kindsL 3 0 = (2, true) by decide +kernel]
  rw [show nameB ⟨#[97, 46, 98]⟩ = true by decide +kernel, show nameB ⟨#[97, 46, 46, 98]⟩ = false by decide +kernel, show nameB ⟨#[65, 87, 83, 46, 120]⟩ = false by decide +kernel]
  rw [show numA (⟨#[45, 49, 46, 53, 101, 51]⟩ : ByteArray).data.toList = true by decide +kernel]
  simp only [Option.bind_some, if_true, Bool.false_eq_true, if_false]
  rw [h2]
  rfl
end Go.Proofs.YtolpefnedpgaaaaDoor.X

namespace Go.Proofs.YtolpefnedpgaaaaDoor.X
open Go.RowKit Go.Proofs.YtolpefnedpgaaaaDoorW.PrintWords Go.Proofs.YtolpefnedpgaaaaDoorW.PrintMore
set_option linter.unusedVariables false
set_option linter.unusedSimpArgs false
def cutS (x : S33) : S33 :=
  ⟨x.f0.extract 0 ((mn (x.f0.size : Int) 100) : Int).toNat, x.f1.extract 0 ((mn (x.f1.size : Int) 100) : Int).toNat, x.f2.extract 0 ((mn (x.f2.size : Int) 200) : Int).toNat⟩
def fewB (l : List S33) : List S33 := (l.take 14).map cutS
theorem cutB_le (s : ByteArray) (n : Nat) : (s.extract 0 ((mn (s.size : Int) (n : Int)) : Int).toNat).size ≤ n := by
  have := cutB_size s n
  unfold cutB at this
  omega
theorem cutS_size (x : S33) : (cutS x).f0.size ≤ 100 ∧ (cutS x).f1.size ≤ 100 ∧ (cutS x).f2.size ≤ 200 := ⟨cutB_le _ 100, cutB_le _ 100, cutB_le _ 200⟩
theorem fewB_length (l : List S33) : (fewB l).length = min 14 l.length := by simp [fewB]
def small (L : List S33) : Prop := L.length ≤ 14 ∧ ∀ x ∈ L, x.f0.size ≤ 100 ∧ x.f1.size ≤ 100 ∧ x.f2.size ≤ 200
theorem fewB_small (l : List S33) : small (fewB l) := by
  refine ⟨by rw [fewB_length]; omega, fun x hx => ?_⟩
  unfold fewB at hx
  obtain ⟨y, _, rfl⟩ := List.mem_map.1 hx
  exact cutS_size y
theorem small_at {L : List S33} (h : small L) (i : Nat) (hi : i < L.length) : (L.getD i z33).f0.size ≤ 100 ∧ (L.getD i z33).f1.size ≤ 100 ∧ (L.getD i z33).f2.size ≤ 200 := by
  apply h.2
  simp only [List.getD, List.getElem?_eq_getElem hi, Option.getD_some]
  exact List.getElem_mem hi
theorem rd33 (l : List S33) (i : Nat) : rd_T33 l (i : Int) = l.getD i z33 := by unfold rd_T33; rw [Int.toNat_natCast]
theorem fewB_at (l : List S33) (i : Nat) (h1 : i < l.length) (h2 : i < 14) : (fewB l).take (i + 1) = (fewB l).take i ++ [cutS (l.getD i z33)] := by
  rw [List.take_succ_eq_append_getElem (by rw [fewB_length]; omega)]
  congr 2
  unfold fewB
  simp [List.getD, h1]
theorem few_l0 (l : List S33) : ∀ (d k i : Nat), i + d = min 14 l.length → d < k → racewaylaw24_few.l0 k l ((fewB l).take i) (i : Int) = some (fewB l) := by
  intro d
  induction d with
  | zero =>
    intro k i h hk
    obtain ⟨k, rfl⟩ : ∃ m, k = m + 1 := ⟨k - 1, by omega⟩
    simp only [racewaylaw24_few.l0]
    rw [List.take_of_length_le (by rw [fewB_length]; omega)]
    by_cases h1 : (i : Int) < (l.length : Int)
    · rw [if_pos h1, if_neg (by omega)]
    · rw [if_neg h1]
  | succ d ih =>
    intro k i h hk
    obtain ⟨k, rfl⟩ : ∃ m, k = m + 1 := ⟨k - 1, by omega⟩
    simp only [racewaylaw24_few.l0]
    have hm : ∀ (s : ByteArray) (n : Nat), 0 ≤ mn (s.size : Int) (n : Int) ∧ mn (s.size : Int) (n : Int) ≤ (s.size : Int) := by
      intro s n
      refine ⟨?_, mn_le_left _ _⟩
      rcases mn_cases (s.size : Int) (n : Int) with h | h <;> rw [h] <;> omega
    have ha := fun s => hm s 100
    have hb := fun s => hm s 200
    rw [show ((100 : Nat) : Int) = 100 from rfl] at ha
    rw [show ((200 : Nat) : Int) = 200 from rfl] at hb
    rw [if_pos (by omega), if_pos (by omega), if_pos (by omega), rd33, if_pos (ha _).1, if_pos (ha _).2, if_pos (ha _).1, if_pos (ha _).2, if_pos (hb _).1, if_pos (hb _).2, if_pos (by rw [List.length_take, fewB_length]; omega)]
    have e := fewB_at l i (by omega) (by omega)
    unfold cutS at e
    rw [← e, w64 (by omega) (by omega), show ((i : Int) + 1) = ((i + 1 : Nat) : Int) by omega]
    exact ih k (i + 1) (by omega) (by omega)
theorem few_eq (l : List S33) (k : Nat) (hk : 20 < k) : racewaylaw24_few.f k l = some (fewB l) := by
  unfold racewaylaw24_few.f
  have := few_l0 l (min 14 l.length) k 0 (by omega) (by omega)
  rw [List.take_zero] at this
  exact this
end Go.Proofs.YtolpefnedpgaaaaDoor.X

namespace Go.Proofs.YtolpefnedpgaaaaDoor.X
open Go.RowKit Go.Proofs.YtolpefnedpgaaaaDoorW.PrintWords Go.Proofs.YtolpefnedpgaaaaDoorW.PrintMore
set_option linter.unusedVariables false
set_option linter.unusedSimpArgs false
def dotR (nm p : ByteArray) : Bool :=
  decide (2 ≤ p.size) && (p.extract (p.size - 2) p.size).toList == [46, 42] && decide (p.size - 2 ≤ nm.size) && ((nm.extract 0 (p.size - 2)).toList == (p.extract 0 (p.size - 2)).toList)
def fitsR (nm p : ByteArray) : Bool := (p.toList == [65, 108, 108]) || (p.toList == nm.toList) || dotR nm p
theorem fits_same (nm p : ByteArray) : fitsB nm p = fitsR nm p := by
  unfold fitsB fitsR dotR
  rw [Lib.extract_toList, Lib.extract_toList, Lib.extract_toList, ByteArray.toList_eq, ByteArray.toList_eq]
  have hn : nm.size = nm.data.toList.length := by simp
  have hp : p.size = p.data.toList.length := by simp
  rw [hn, hp]
  generalize nm.data.toList = n
  generalize p.data.toList = l
  have hsuf : Lib.hasSuffix l [46, 42] = decide (2 ≤ l.length ∧ l.drop (l.length - 2) = [46, 42]) := by
    unfold Lib.hasSuffix
    rw [Bool.eq_iff_iff, List.isSuffixOf_iff_suffix, decide_eq_true_iff, List.suffix_iff_eq_drop]
    constructor
    · intro h
      have := congrArg List.length h
      simp at this
      exact ⟨by omega, h.symm⟩
    · rintro ⟨_, h⟩
      exact h.symm
  rw [hsuf]
  have ht : (l.drop (l.length - 2)).take (l.length - (l.length - 2)) = l.drop (l.length - 2) := List.take_of_length_le (by simp)
  rw [ht]
  by_cases h : 2 ≤ l.length ∧ l.drop (l.length - 2) = [46, 42]
  · rw [decide_eq_true h]
    obtain ⟨h2, hd⟩ := h
    rw [hd, decide_eq_true h2]
    have htr : Lib.trimSuffix l [46, 42] = l.take (l.length - 2) := by
      unfold Lib.trimSuffix
      rw [hsuf, decide_eq_true ⟨h2, hd⟩]
      rfl
    rw [htr]
    simp only [List.drop_zero, Nat.sub_zero, beq_self_eq_true, Bool.true_and]
    have hpre : Lib.hasPrefix n (l.take (l.length - 2)) = (decide (l.length - 2 ≤ n.length) && (n.take (l.length - 2) == l.take (l.length - 2))) := by
      unfold Lib.hasPrefix
      rw [Bool.eq_iff_iff, List.isPrefixOf_iff_prefix, Bool.and_eq_true, decide_eq_true_iff, beq_iff_eq, List.prefix_iff_eq_take]
      have hlen : (l.take (l.length - 2)).length = l.length - 2 := by simp
      rw [hlen]
      constructor
      · intro h
        have := congrArg List.length h
        simp at this
        exact ⟨by omega, h.symm⟩
      · rintro ⟨_, h⟩
        exact h.symm
    rw [hpre]
    have e2 : (n == l) = (l == n) := by
      rw [Bool.eq_iff_iff, beq_iff_eq, beq_iff_eq]; exact eq_comm
    rw [e2]
    by_cases hx : l = [46, 42]
    · subst hx
      simp
    · have : (l == [46, 42]) = false := by simpa using hx
      rw [this, Bool.or_false]
  · rw [decide_eq_false h]
    have hx : (l == [46, 42]) = false := by
      rw [beq_eq_false_iff_ne]
      rintro rfl
      exact h ⟨by decide, rfl⟩
    have e2 : (n == l) = (l == n) := by
      rw [Bool.eq_iff_iff, beq_iff_eq, beq_iff_eq]; exact eq_comm
    rw [hx, e2]
    have : (decide (2 ≤ l.length) && l.drop (l.length - 2) == [46, 42]) = false := by
      rw [Bool.and_eq_false_iff]
      by_cases h2 : 2 ≤ l.length
      · exact .inr (beq_eq_false_iff_ne.2 fun hd => h ⟨h2, hd⟩)
      · exact .inl (decide_eq_false h2)
    rw [this]
    simp
def smallP (P : List ByteArray) : Prop := P.length ≤ 10 ∧ ∀ p ∈ P, p.size ≤ 100
theorem rdP (P : List ByteArray) (i : Nat) : rdOf ByteArray.empty P (i : Int) = P.getD i ByteArray.empty := by unfold rdOf; rw [Int.toNat_natCast]
theorem smallP_at {P : List ByteArray} (h : smallP P) (i : Nat) (hi : i < P.length) : (P.getD i ByteArray.empty).size ≤ 100 := by
  apply h.2
  simp only [List.getD, List.getElem?_eq_getElem hi, Option.getD_some]
  exact List.getElem_mem hi
theorem Select_eq (L : List S33) (hL : small L) (P : List ByteArray) (hP : smallP P) : attribute_Select.f L P = some (L.filter fun x => P.any (fitsB x.f0)) := by
  unfold attribute_Select.f
  rw [if_pos ⟨by have := hL.1; omega, by have := hP.1; omega, fun p hp => by have := hP.2 p hp; omega⟩]
theorem ref_sel_l1 (L : List S33) (hL : small L) (P : List ByteArray) (hP : smallP P) (acc : List S33) (hacc : acc.length ≤ 14) (i K : Nat) (hi : i < L.length) (v : List S33 → List S33)
    (hn : ∀ k a, K < k → a.length ≤ acc.length + 1 → racewayref24_Select.l0 k L P a ((i + 1 : Nat) : Int) = some (v a)) : ∀ (d k j : Nat) (g : Bool), j + d = P.length → K + 2 * d + 1 < k →
    racewayref24_Select.l1 k L P acc (i : Int) g (j : Int) = some (v (if (g || (P.drop j).any (fitsR (L.getD i z33).f0)) = true then acc ++ [L.getD i z33] else acc)) := by
  have h14 := hL.1
  have h10 := hP.1
  have hs := small_at hL i hi
  intro d
  induction d with
  | zero =>
    intro k j g h hk
    obtain ⟨k, rfl⟩ : ∃ m, k = m + 1 := ⟨k - 1, by omega⟩
    simp only [racewayref24_Select.l1]
    rw [if_neg (by omega), List.drop_eq_nil_iff.2 (by omega)]
    cases g
    · rw [if_neg (by simp), w64 (by omega) (by omega), show ((i : Int) + 1) = ((i + 1 : Nat) : Int) by omega, hn k acc (by omega) (by omega)]
      rfl
    · rw [if_pos rfl, if_pos (by omega), if_pos (by omega), rd33, w64 (by omega) (by omega), show ((i : Int) + 1) = ((i + 1 : Nat) : Int) by omega, if_pos (by omega), hn k (acc ++ [L.getD i z33]) (by omega) (by simp)]
      rfl
  | succ d ih =>
    intro k j g h hk
    obtain ⟨k, rfl⟩ : ∃ m, k = m + 2 := ⟨k - 2, by omega⟩
    have hp := smallP_at hP j (by omega)
    have hdrop : P.drop j = P.getD j ByteArray.empty :: P.drop (j + 1) := by
      rw [List.drop_eq_getElem_cons (by omega)]
      simp [List.getD, show j < P.length by omega]
    simp only [racewayref24_Select.l1]
    rw [if_pos (by omega), if_pos (by omega), if_pos (show (0 : Int) ≤ (i : Int) by omega), if_pos (show (i : Int) < (L.length : Int) by omega), rdP, rd33, hdrop, List.any_cons]
    generalize P.getD j ByteArray.empty = p at hp ⊢
    generalize hx : L.getD i z33 = x at hs ⊢
    rw [hx] at ih
    have hj2 : ∀ b, racewayref24_Select.j2 (k + 1) L P acc (i : Int) g (j : Int) p (wrap64 ((p.size : Int) - 2)) b = some (v (if (g || (b || dotR x.f0 p) || (P.drop (j + 1)).any (fitsR x.f0)) = true then acc ++ [x] else acc)) := by
      intro b
      simp only [racewayref24_Select.j2]
      have hnext := fun gg => ih k (j + 1) gg (by omega) (by omega)
      rw [w64 (x := (p.size : Int) - 2) (by omega) (by omega), w64 (x := (j : Int) + 1) (by omega) (by omega), show ((j : Int) + 1) = ((j + 1 : Nat) : Int) by omega, hnext, hnext, rd33, hx]
      have e : dotR x.f0 p = (if (p.size : Int) - 2 ≥ 0 then (if (p.extract ((p.size : Int) - 2).toNat p.size).toList = ([46, 42] : List UInt8) then (if (x.f0.size : Int) ≥ (p.size : Int) - 2 then decide ((x.f0.extract 0 ((p.size : Int) - 2).toNat).toList = (p.extract 0 ((p.size : Int) - 2).toNat).toList) else false) else false) else false) := by
        unfold dotR
        by_cases h2 : 2 ≤ p.size
        · rw [decide_eq_true h2, if_pos (by omega), show ((p.size : Int) - 2).toNat = p.size - 2 by omega]
          by_cases h3 : (p.extract (p.size - 2) p.size).toList = [46, 42]
          · rw [if_pos h3, h3]
            by_cases h4 : p.size - 2 ≤ x.f0.size
            · rw [if_pos (by omega), decide_eq_true h4]
              simp only [beq_self_eq_true, Bool.true_and]
              rw [Bool.eq_iff_iff, beq_iff_eq, decide_eq_true_iff]
            · rw [if_neg (by omega), decide_eq_false h4]; simp
          · rw [if_neg h3]
            have : ((p.extract (p.size - 2) p.size).toList == [46, 42]) = false := by simpa using h3
            rw [this]; simp
        · rw [decide_eq_false h2, if_neg (by omega)]; simp
      rw [e]
      have hii : (0 : Int) ≤ (i : Int) := by omega
      have hil : (i : Int) < (L.length : Int) := by omega
      by_cases h2 : (p.size : Int) - 2 ≥ 0
      · have h2' : (0 : Int) ≤ (p.size : Int) - 2 := h2
        have h3 : (p.size : Int) - 2 ≤ (p.size : Int) := by omega
        by_cases h5 : (p.extract ((p.size : Int) - 2).toNat p.size).toList = ([46, 42] : List UInt8)
        · by_cases h6 : (x.f0.size : Int) ≥ (p.size : Int) - 2
          · have h6' : (p.size : Int) - 2 ≤ (x.f0.size : Int) := h6
            by_cases h7 : (x.f0.extract 0 ((p.size : Int) - 2).toNat).toList = (p.extract 0 ((p.size : Int) - 2).toNat).toList
            · simp only [if_pos hii, if_pos hil, if_pos h2, if_pos h2', if_pos h3, if_pos h5, if_pos h6, if_pos h6', if_pos h7, decide_eq_true h7]
              cases b <;> cases g <;> simp
            · simp only [if_pos hii, if_pos hil, if_pos h2, if_pos h2', if_pos h3, if_pos h5, if_pos h6, if_pos h6', if_neg h7, decide_eq_false h7]
              cases b <;> cases g <;> simp
          · simp only [if_pos hii, if_pos hil, if_pos h2, if_pos h2', if_pos h3, if_pos h5, if_neg h6]
            cases b <;> cases g <;> simp
        · simp only [if_pos hii, if_pos hil, if_pos h2, if_pos h2', if_pos h3, if_neg h5]
          cases b <;> cases g <;> simp
      · simp only [if_pos hii, if_pos hil, if_neg h2]
        cases b <;> cases g <;> simp
    rw [hj2, hj2]
    unfold fitsR
    by_cases ha : p.toList = ([65, 108, 108] : List UInt8)
    · rw [if_pos ha, ha]
      simp
    · rw [if_neg ha]
      have : (p.toList == ([65, 108, 108] : List UInt8)) = false := by simpa using ha
      rw [this]
      simp only [Bool.false_or]
      rw [Bool.or_assoc]
theorem ref_sel_l0 (L : List S33) (hL : small L) (P : List ByteArray) (hP : smallP P) : ∀ (d k i : Nat) (acc : List S33), i + d = L.length → 40 * (d + 1) < k → acc.length ≤ i →
    racewayref24_Select.l0 k L P acc (i : Int) = some (acc ++ (L.drop i).filter fun x => P.any (fitsR x.f0)) := by
  have h14 := hL.1
  have h10 := hP.1
  intro d
  induction d with
  | zero =>
    intro k i acc h hk ha
    obtain ⟨k, rfl⟩ : ∃ m, k = m + 1 := ⟨k - 1, by omega⟩
    simp only [racewayref24_Select.l0]
    rw [if_neg (by omega), List.drop_eq_nil_iff.2 (by omega)]
    simp
  | succ d ih =>
    intro k i acc h hk ha
    obtain ⟨k, rfl⟩ : ∃ m, k = m + 1 := ⟨k - 1, by omega⟩
    simp only [racewayref24_Select.l0]
    rw [if_pos (by omega)]
    have hdrop : L.drop i = L.getD i z33 :: L.drop (i + 1) := by
      rw [List.drop_eq_getElem_cons (by omega)]
      simp [List.getD, show i < L.length by omega]
    have hl := ref_sel_l1 L hL P hP acc (by omega) i (40 * (d + 1)) (by omega) (fun a => a ++ (L.drop (i + 1)).filter fun x => P.any (fitsR x.f0)) (fun k a hk ha' => ?_) P.length k 0 false (by omega) (by omega)
    · rw [show ((0 : Nat) : Int) = 0 from rfl, List.drop_zero, Bool.false_or] at hl
      rw [hl, hdrop, List.filter_cons]
      cases P.any (fitsR (L.getD i z33).f0) <;> simp
    · have := ih k (i + 1) a (by omega) hk (by omega)
      exact this
theorem ref_Select_eq (L : List S33) (hL : small L) (P : List ByteArray) (hP : smallP P) (k : Nat) (hk : 1000 < k) : racewayref24_Select.f k L P = some (L.filter fun x => P.any (fitsB x.f0)) := by
  have h14 := hL.1
  unfold racewayref24_Select.f
  have := ref_sel_l0 L hL P hP L.length k 0 [] (by omega) (by omega) (by simp)
  rw [show ((0 : Nat) : Int) = 0 from rfl] at this
  rw [this, List.drop_zero, List.nil_append]
  congr 2
  funext x
  congr 1
  funext p
  exact (fits_same _ _).symm
theorem same_eq (L : List S33) (h14 : L.length ≤ 1000) (k : Nat) (hk : 2000 < k) : racewayref24_Same.f k L L = some true := by
  have : ∀ (d k i : Nat), i + d = L.length → d < k → racewayref24_Same.l0 k L L (i : Int) = some true := by
    intro d
    induction d with
    | zero =>
      intro k i h hk
      obtain ⟨k, rfl⟩ : ∃ m, k = m + 1 := ⟨k - 1, by omega⟩
      simp only [racewayref24_Same.l0]
      rw [if_neg (by omega)]
    | succ d ih =>
      intro k i h hk
      obtain ⟨k, rfl⟩ : ∃ m, k = m + 1 := ⟨k - 1, by omega⟩
      simp only [racewayref24_Same.l0]
      rw [if_pos (by omega), if_pos (by omega), if_pos (by omega), w64 (by omega) (by omega), show ((i : Int) + 1) = ((i + 1 : Nat) : Int) by omega, ih k (i + 1) (by omega) (by omega)]
      simp
  unfold racewayref24_Same.f
  rw [if_pos rfl]
  exact this L.length k 0 (by omega) (by omega)
def fewP (ps : List ByteArray) : List ByteArray := (ps.take 10).map fun p => p.extract 0 ((mn (p.size : Int) 100) : Int).toNat
theorem fewP_length (l : List ByteArray) : (fewP l).length = min 10 l.length := by simp [fewP]
theorem fewP_small (l : List ByteArray) : smallP (fewP l) := by
  refine ⟨by rw [fewP_length]; omega, fun x hx => ?_⟩
  unfold fewP at hx
  obtain ⟨y, _, rfl⟩ := List.mem_map.1 hx
  exact cutB_le y 100
theorem fewP_at (l : List ByteArray) (i : Nat) (h1 : i < l.length) (h2 : i < 10) : (fewP l).take (i + 1) = (fewP l).take i ++ [(l.getD i ByteArray.empty).extract 0 ((mn ((l.getD i ByteArray.empty).size : Int) 100) : Int).toNat] := by
  rw [List.take_succ_eq_append_getElem (by rw [fewP_length]; omega)]
  congr 2
  unfold fewP
  simp [List.getD, h1]
end Go.Proofs.YtolpefnedpgaaaaDoor.X

namespace Go.Proofs.YtolpefnedpgaaaaDoor.Pure
open Go.RowKit Go.Proofs.YtolpefnedpgaaaaDoor.X Go.Proofs.YtolpefnedpgaaaaDoorW.PrintWords Go.Proofs.YtolpefnedpgaaaaDoorW.PrintLast
set_option linter.unusedVariables false
set_option linter.unusedSimpArgs false
theorem selects_j1 (L : List S33) (hL : small L) (P : List ByteArray) (hP : smallP P) (k : Nat) (hk : 5000 < k) : racewaylaw24_AttributeSelects.j1 k L P = some true := by
  obtain ⟨k, rfl⟩ : ∃ m, k = m + 1 := ⟨k - 1, by omega⟩
  simp only [racewaylaw24_AttributeSelects.j1]
  rw [Select_eq L hL P hP, ref_Select_eq L hL P hP k (by omega)]
  simp only [Option.bind_some]
  rw [same_eq _ (Nat.le_trans (List.length_filter_le _ _) (by have := hL.1; omega)) k (by omega), works_eq k (by omega)]
  rfl
theorem selects_l0 (L : List S33) (hL : small L) (ps : List ByteArray) : ∀ (d k i : Nat), i + d = min 10 ps.length → 5000 + d < k → racewaylaw24_AttributeSelects.l0 (k + 1) L ps ((fewP ps).take i) (i : Int) = some true := by
  intro d
  induction d with
  | zero =>
    intro k i h hk
    simp only [racewaylaw24_AttributeSelects.l0]
    rw [List.take_of_length_le (by rw [fewP_length]; omega), selects_j1 L hL _ (fewP_small ps) k (by omega)]
    by_cases h1 : (i : Int) < (ps.length : Int)
    · rw [if_pos h1, if_neg (by omega)]
    · rw [if_neg h1]
  | succ d ih =>
    intro k i h hk
    obtain ⟨k, rfl⟩ : ∃ m, k = m + 1 := ⟨k - 1, by omega⟩
    rw [racewaylaw24_AttributeSelects.l0]
    have hm : ∀ (s : ByteArray), 0 ≤ mn (s.size : Int) 100 ∧ mn (s.size : Int) 100 ≤ (s.size : Int) := by
      intro s
      refine ⟨?_, mn_le_left _ _⟩
      rcases mn_cases (s.size : Int) 100 with h | h <;> rw [h] <;> omega
    rw [if_pos (by omega), if_pos (by omega), if_pos (by omega), rdP, if_pos (hm _).1, if_pos (hm _).2, if_pos (by rw [List.length_take, fewP_length]; omega)]
    rw [← fewP_at ps i (by omega) (by omega), w64 (by omega) (by omega), show ((i : Int) + 1) = ((i + 1 : Nat) : Int) by omega]
    exact ih k (i + 1) (by omega) (by omega)
theorem AttributeSelects : ∀ (l : List S33) (ps : List ByteArray), l.length ≤ maxLen → ps.length ≤ maxLen → ∃ k, racewaylaw24_AttributeSelects.f k l ps = some true := by
  intro l ps _ _
  have key : ∀ k, 6000 < k → racewaylaw24_AttributeSelects.f k l ps = some true := by
    intro k hk
    obtain ⟨k, rfl⟩ : ∃ m, k = m + 1 := ⟨k - 1, by omega⟩
    unfold racewaylaw24_AttributeSelects.f
    rw [few_eq l (k + 1) (by omega)]
    simp only [Option.bind_some]
    have := selects_l0 (fewB l) (fewB_small l) ps (min 10 ps.length) k 0 (by omega) (by omega)
    rw [List.take_zero] at this
    exact this
  exact ⟨7001, key 7001 (by omega)⟩
end Go.Proofs.YtolpefnedpgaaaaDoor.Pure

namespace Go.Proofs.YtolpefnedpgaaaaDoor.X
open Go
set_option linter.unusedVariables false
section
variable {H : Type} {enc : TypeId × Value → H}
theorem handed_laid_shaped {a : Assume} {C : Checked} {os : Os} {f : FuncId} {fn : Func} {s : ChangeSpec} {conds : List PathCond} {apart fresh handsOn again : Bool} {X : World → Array Value → Prop}
    (hX : ∀ (w w' : World) (args : Array Value), w.heap = w'.heap → X w args → X w' args)
    (own : ownKnob C.prog.godebug = none) (started : os.Started) (noInit : C.prog.inits.idxOf? f = none) (hfn : C.prog.funcs[f]? = some fn)
    (witness : ∃ (w : World) (tape : Tape) (i : Input), w.os = os ∧ (w.forCall tape i).Shaped C.prog ∧ i.vars = [] ∧ Input.okWide C.prog (w.forCall tape i) .any w.heap.size f i ∧
      ((s.pre enc C.prog fn conds apart (w.forCall tape i).memory i.args ∧ X (w.forCall tape i).memory i.args) ∧ sizedMet enc C.prog fn (OpenSpec.ofChange s) apart (w.forCall tape i).memory i.args) ∧ a.holds C.prog (lone (Frame.enter C.prog f i.args .normal) [] (w.forCall tape i)))
    (contract : ∀ (W : World) (base : Nat) (args : Array Value) (ds gs : List (DataW H)) (before : List MemPlace),
      (∀ (j : Nat) t v, fn.params[j]? = some t → args[j]? = some v → Value.okWide C.prog W .any base t v) →
      DataW.Whole enc C.prog fn.params.toList s.vars apart W args.toList ds gs before →
      conds.all (PathCond.test C.prog ⟨fn.params.toList, ds, s.plain.varTypes C.prog, gs⟩) = true →
      (DataW.weightsEach C.prog (fn.params.toList ++ s.plain.varTypes C.prog) (ds ++ gs)).all (· ≤ reachBytes) = true → X W args → W.ShapedOpen C.prog →
      a.holds C.prog (lone (Frame.enter C.prog f args .normal) [] W) →
      Calls C.prog f args W fun e W' => ∃ v, e = .returned v ∧ s.post enc C.prog fn apart fresh handsOn again W args v W') :
    ReturnsInHanded a C os f .any (fun w args => (s.pre enc C.prog fn conds apart w args ∧ X w args) ∧ sizedMet enc C.prog fn (OpenSpec.ofChange s) apart w args) (s.post enc C.prog fn apart fresh handsOn again) := by
  refine returnsInHanded_of_calls own started noInit witness ?_
  intro w tape i _ hsh _ hok hpre hholds
  obtain ⟨_, _, _, fn', hfn', _, _, _, _, hval⟩ := hok
  have e : fn' = fn := Option.some.inj (hfn'.symm.trans hfn)
  subst e
  obtain ⟨⟨⟨ds, gs, before, hw, hc⟩, hx⟩, hz⟩ := hpre
  have hw' := DataW.Whole.of_heap (w' := w.forCall tape i) (by rfl) hw
  refine (contract (w.forCall tape i) w.heap.size i.args ds gs before hval hw' hc (hz.weights hw) (hX _ _ _ (by rfl) hx) hsh hholds).mono fun e W' ⟨v, he, hp⟩ => ?_
  subst he
  exact ChangeSpec.post_blind hp
end
end Go.Proofs.YtolpefnedpgaaaaDoor.X

namespace Go.Proofs.YtolpefnedpgaaaaDoor.X
open Go.RowKit Go.Proofs.YtolpefnedpgaaaaDoorW.PrintWords Go.Proofs.YtolpefnedpgaaaaDoorW.PrintLast Go.Proofs.YtolpefnedpgaaaaDoorW.PrintMore
open Go.Deep Go.ChangeShapes Go.WideShapes
set_option linter.unusedVariables false
set_option linter.unusedSimpArgs false
theorem cells9 : Tryd.prog.cellsOf 9 = 1 := by kernel_rfl
theorem cells33 : Tryd.prog.cellsOf 33 = 3 := by kernel_rfl
instance : Inhabited S33 := ⟨z33⟩
set_option maxRecDepth 100000 in
theorem open_attrs {H : Type} {enc : TypeId × Value → H} {W : World} {A : Option Addr} {len cap : Nat} {d : DataW H} {p : List MemPlace} (h : DataW.Trod enc Tryd.prog W 0 (fun _ => true) true 26 (.slice A len cap) d p) :
    ∃ l : List S33, l.length = len ∧ Kd.C k33 W A l.length l ∧ l.length ≤ cap ∧ l.length ≤ maxLen := by
  obtain ⟨fuel, hf⟩ := h
  rcases open_slice Tryd.underlying26 hf with ⟨hcs, _⟩ | ⟨a, l, c, m, n, D, Pl, hcs, _, hl, hm, hmm, _, hx⟩
  · simp [Value.cells] at hcs
    obtain ⟨rfl, rfl, rfl⟩ := hcs
    exact ⟨[], rfl, ⟨rfl, by simp, fun h => absurd h (by simp)⟩, Nat.le_refl _, Nat.zero_le _⟩
  · simp [Value.cells] at hcs
    obtain ⟨rfl, rfl, rfl⟩ := hcs
    simp only [if_true] at hmm
    have each : ∀ i, i < len → ∃ x : S33, W.cell? (a.add (i * 3)) = some (.string x.f0) ∧ W.cell? (a.add (i * 3 + 1)) = some (.string x.f1) ∧ W.cell? (a.add (i * 3 + 2)) = some (.string x.f2) := by
      intro i hi
      obtain ⟨cs', h1, h2⟩ := hx i (by omega)
      rw [cells33] at h1
      obtain ⟨_, hlen, hcell⟩ := World.cells?_some h1
      obtain ⟨xs, k, hk, hxy, _, hxl, hf⟩ := DataW.trod_struct Tryd.underlying33 h2
      match xs, hxl, cs', hlen with
      | [y0, y1, y2], _, [v0, v1, v2], _ =>
        have g0 := hf 0 _ rfl
        have g1 := hf 1 _ rfl
        have g2 := hf 2 _ rfl
        simp [cells9] at g0 g1 g2
        obtain ⟨s0, e0, _, _⟩ := DataW.trod_string Tryd.underlying9 g0
        obtain ⟨s1, e1, _, _⟩ := DataW.trod_string Tryd.underlying9 g1
        obtain ⟨s2, e2, _, _⟩ := DataW.trod_string Tryd.underlying9 g2
        have c0 := hcell 0 (by omega)
        have c1 := hcell 1 (by omega)
        have c2 := hcell 2 (by omega)
        rw [Go.Deep.add_add] at c0 c1 c2
        simp at e0 e1 e2 c0 c1 c2
        subst e0 e1 e2
        exact ⟨⟨s0, s1, s2⟩, c0, c1, c2⟩
    obtain ⟨q, hq⟩ := choose_lt each
    have hlen : ((List.range len).map q).length = len := by simp
    refine ⟨(List.range len).map q, hlen, ⟨rfl, ?_, fun _ => ⟨a, rfl, fun j x hj => ?_⟩⟩, by omega, by omega⟩
    · rw [hlen]; have : cap ≤ maxLen := hm; unfold maxLen at this; omega
    · have hjl : j < len := by
        have := (List.getElem?_eq_some_iff.1 hj).1
        simpa using this
      have hx : q j = x := by
        rw [List.getElem?_map, List.getElem?_range hjl] at hj
        simpa using hj
      subst hx
      obtain ⟨c0, c1, c2⟩ := hq j hjl
      refine ⟨[.string (q j).f0, .string (q j).f1, .string (q j).f2], rfl, k33_mk W (q j), fun i u hu => ?_⟩
      match i, hu with
      | 0, hu => simp at hu; subst hu; exact c0
      | 1, hu => simp at hu; subst hu; exact c1
      | 2, hu => simp at hu; subst hu; exact c2
theorem open_texts {H : Type} {enc : TypeId × Value → H} {W : World} {A : Option Addr} {len cap : Nat} {d : DataW H} {p : List MemPlace} (h : DataW.Trod enc Tryd.prog W 0 (fun _ => true) true 39 (.slice A len cap) d p) :
    ∃ l : List ByteArray, l.length = len ∧ Kd.C Kd.string W A l.length l ∧ l.length ≤ cap ∧ l.length ≤ maxLen := by
  obtain ⟨fuel, hf⟩ := h
  rcases open_strings Tryd.underlying39 Tryd.underlying9 cells9 hf with ⟨hcs, _⟩ | ⟨a, l, c, ss, hcs, _, hl, hm, hmm, _, hx, _⟩
  · simp [Value.cells] at hcs
    obtain ⟨rfl, rfl, rfl⟩ := hcs
    exact ⟨[], rfl, ⟨rfl, by simp, fun h => absurd h (by simp)⟩, Nat.le_refl _, Nat.zero_le _⟩
  · simp [Value.cells] at hcs
    obtain ⟨rfl, rfl, rfl⟩ := hcs
    simp only [if_true] at hmm
    have hlen : (ss.take len).length = len := by simp; omega
    refine ⟨ss.take len, hlen, ⟨rfl, ?_, fun _ => ⟨a, rfl, fun j x hj => ?_⟩⟩, by omega, by omega⟩
    · rw [hlen]; have : cap ≤ maxLen := hm; unfold maxLen at this; omega
    · have hjl : j < len := by
        have := (List.getElem?_eq_some_iff.1 hj).1
        omega
      have hx2 : ss.getD j ByteArray.empty = x := by
        rw [List.getElem?_take_of_lt hjl] at hj
        simp [List.getD, hj]
      have := hx j (by omega)
      rw [hx2] at this
      refine ⟨[.string x], rfl, rfl, fun i u hu => ?_⟩
      match i, hu with
      | 0, hu => simp at hu; subst hu; rw [show j * Kd.string.sz + 0 = j by show j * 1 + 0 = j; omega]; exact this
end Go.Proofs.YtolpefnedpgaaaaDoor.X

namespace Go.Proofs.YtolpefnedpgaaaaDoor.X
open Go.RowKit Go.Proofs.YtolpefnedpgaaaaDoorW.PrintWords
set_option linter.unusedVariables false
set_option linter.unusedSimpArgs false
theorem heap_of_var {P : Program} {W : World} {name : String} {g : Nat} {zero : Array Value} {t : TypeId} {arr : Array Value} (hsh : W.ShapedOpen P) (hlt : g < P.globals.size)
    (hrow : (((begin P (fun _ _ => 0) default).world).heap[g]?).bind Obj.row? = some (zero, t)) (hg : P.globalNamed name = some g) (hv : W.var? P name = some arr) : W.heap[g]? = some (.cells arr t (0, 0)) := by
  obtain ⟨hs, _⟩ := hsh
  obtain ⟨cs', h1, _, _⟩ := hs g zero t hlt hrow
  unfold World.var? at hv
  rw [hg] at hv
  simp only [Option.bind_some, h1] at hv
  rw [h1]
  cases hv
  rfl
theorem chunk16 {α : Type} (cs : List α) (h : cs.length = 16) : cs = (cs.drop 0).take 4 ++ ((cs.drop 4).take 4 ++ ((cs.drop 8).take 4 ++ (cs.drop 12).take 4)) := by
  rw [List.drop_zero]
  have h1 := (List.take_append_drop 4 cs).symm
  have h2 := (List.take_append_drop 4 (cs.drop 4)).symm
  have h3 := (List.take_append_drop 4 (cs.drop 8)).symm
  rw [List.drop_drop] at h2 h3
  have h4 : (cs.drop 12).take 4 = cs.drop 12 := List.take_of_length_le (by simp; omega)
  rw [h4]
  conv => lhs; rw [h1, h2, h3]
theorem cells_of_tab4 {H : Type} {enc : TypeId × Value → H} {P : Program} {w : World} {base : Nat} {sp : Nat → Bool} {held : Bool} {fuel : Nat} {t e u : TypeId} {k : IntKind} {cs : List Value} {r0 r1 r2 r3 : List Int} {p : List MemPlace}
    (ht : P.underlying t = some (.array 4 e)) (he : P.underlying e = some (.array 4 u)) (hu : P.underlying u = some (.int k)) (hcu : P.cellsOf u = 1) (hce : P.cellsOf e = 4) (hct : P.cellsOf t = 16)
    (h : DataW.trod enc P w base sp held fuel t cs = some (.agg [Lib.tabData k r0, Lib.tabData k r1, Lib.tabData k r2, Lib.tabData k r3], p)) : cs = (r0 ++ (r1 ++ (r2 ++ r3))).map fun z => Value.int k z := by
  cases fuel with
  | zero => simp [DataW.trod] at h
  | succ fuel =>
    simp only [DataW.trod, ht, hct, hce] at h
    split at h
    · rename_i hl
      obtain ⟨xs, hm, hx⟩ := Option.map_eq_some_iff.1 h
      have hxs : xs.map (·.1) = [Lib.tabData k r0, Lib.tabData k r1, Lib.tabData k r2, Lib.tabData k r3] := by
        have := congrArg Prod.fst hx
        simpa using this
      have hrow : ∀ (i : Nat) (r : List Int), i < 4 → (xs.map (·.1))[i]? = some (Lib.tabData k r : DataW H) → (cs.drop (i * 4)).take 4 = r.map fun z => Value.int k z := by
        intro i r hi hr
        obtain ⟨b, hb, hf⟩ := Lib.mapM_at hm i i (by simp [hi])
        rw [List.getElem?_map, hb] at hr
        simp only [Option.map_some, Option.some.injEq] at hr
        obtain ⟨b1, b2⟩ := b
        simp only at hr
        subst hr
        exact Lib.cells_of_tab he hu hcu hce hf
      have e0 := hrow 0 r0 (by omega) (by rw [hxs]; rfl)
      have e1 := hrow 1 r1 (by omega) (by rw [hxs]; rfl)
      have e2 := hrow 2 r2 (by omega) (by rw [hxs]; rfl)
      have e3 := hrow 3 r3 (by omega) (by rw [hxs]; rfl)
      rw [chunk16 cs hl]
      rw [List.map_append, List.map_append, List.map_append, ← e0, ← e1, ← e2, ← e3]
    · cases h
theorem tab4_of_head {P : Program} {W : World} {name : String} {k : IntKind} {r0 r1 r2 r3 : List Int} {rest : List (String × DataW Unit)} {g : Nat} {t e u : TypeId}
    (hg : P.globalNamed name = some g) (hty : (P.globals[g]?).map (·.type) = some t) (ht : P.underlying t = some (.array 4 e)) (he : P.underlying e = some (.array 4 u)) (hu : P.underlying u = some (.int k)) (hcu : P.cellsOf u = 1) (hce : P.cellsOf e = 4) (hct : P.cellsOf t = 16)
    (h : laidMet P ((name, .agg [Lib.tabData k r0, Lib.tabData k r1, Lib.tabData k r2, Lib.tabData k r3]) :: rest) W) : Lib.TabIs P W name k (r0 ++ (r1 ++ (r2 ++ r3))) := by
  obtain ⟨ps, ⟨g', t', cs, fuel, p, q, hg', ht', hvar, hd, _, _⟩, _⟩ := h
  obtain rfl := Option.some.inj (hg.symm.trans hg')
  obtain rfl := Option.some.inj (hty.symm.trans ht')
  unfold Lib.TabIs
  rw [hvar, ← cells_of_tab4 ht he hu hcu hce hct hd]
set_option maxRecDepth 100000 in
theorem GlobFp.of {W : World} {l : List (String × DataW Unit)} (hsh : W.ShapedOpen Tryd.prog) (hL : laidMet Tryd.prog l W)
    (h1 : l.filter (fun x => x.1 == "raceway/fingerprint.sines") = [("raceway/fingerprint.sines", Lib.tabData .u32 sinesL)])
    (h2 : l.filter (fun x => x.1 == "raceway/fingerprint.turns") = [("raceway/fingerprint.turns", .agg [Lib.tabData .i64 [7, 12, 17, 22], Lib.tabData .i64 [5, 9, 14, 20], Lib.tabData .i64 [4, 11, 16, 23], Lib.tabData .i64 [6, 10, 15, 21]])]) : GlobFp W := by
  have s1 := hL.filter (fun x => x.1 == "raceway/fingerprint.sines")
  rw [h1] at s1
  have s2 := hL.filter (fun x => x.1 == "raceway/fingerprint.turns")
  rw [h2] at s2
  have g1 : Tryd.prog.globalNamed "raceway/fingerprint.sines" = some 1 := by kernel_rfl
  have g2 : Tryd.prog.globalNamed "raceway/fingerprint.turns" = some 2 := by kernel_rfl
  have t1 := Lib.tabIs_of_head (t := 116) (e := 93) (n := 64) g1 (by kernel_rfl) (by kernel_rfl) (by kernel_rfl) (by kernel_rfl) (by kernel_rfl) s1
  have t2 := tab4_of_head (t := 118) (e := 117) (u := 3) g2 (by kernel_rfl) (by kernel_rfl) (by kernel_rfl) (by kernel_rfl) (by kernel_rfl) (by kernel_rfl) (by kernel_rfl) s2
  refine ⟨?_, ?_⟩
  · have := heap_of_var (zero := Array.replicate 64 (.int .u32 0)) (t := 116) hsh (of_decide_eq_true (by kernel_rfl)) (by kernel_rfl) g1 t1
    exact this
  · have := heap_of_var (zero := Array.replicate 16 (.int .i64 0)) (t := 118) hsh (of_decide_eq_true (by kernel_rfl)) (by kernel_rfl) g2 t2
    exact this
end Go.Proofs.YtolpefnedpgaaaaDoor.X

namespace Go.Proofs.YtolpefnedpgaaaaDoor.X
open Go.RowKit Go.Proofs.YtolpefnedpgaaaaDoorW.PrintWords Go.Proofs.YtolpefnedpgaaaaDoorW.PrintLast Go.Proofs.YtolpefnedpgaaaaDoorW.PrintMore
attribute [local go_sem] max2_int min2_int max_two min_two max_three min_three max_four min_four   -- for this text's walks alone
set_option linter.unusedVariables false
set_option linter.unusedSimpArgs false

mutual
def racewaylaw24_AttributeAll.j0 : Nat → List (S33) → Int → Bool → Option (Bool)
  | 0, _, _, _ => none
  | k + 1, x0, x1, x31 => if x31 = true then (some false) else (if (x0.length : Int) = 0 then ((racewaylaw24_works.f k).bind fun t217 => (some t217)) else (if 0 ≤ (Int.tmod (wrap64 ((Int.tmod x1 (x0.length : Int)) + (x0.length : Int))) (x0.length : Int)) then (if (Int.tmod (wrap64 ((Int.tmod x1 (x0.length : Int)) + (x0.length : Int))) (x0.length : Int)) < (x0.length : Int) then ((attribute_Name.f k ((rd_T33 x0 (Int.tmod (wrap64 ((Int.tmod x1 (x0.length : Int)) + (x0.length : Int))) (x0.length : Int))).f0)).bind fun t219 => (if t219 = true then (racewaylaw24_AttributeAll.j1 k x0 ((rd_T33 x0 (Int.tmod (wrap64 ((Int.tmod x1 (x0.length : Int)) + (x0.length : Int))) (x0.length : Int))).f0) (((rd_T33 x0 (Int.tmod (wrap64 ((Int.tmod x1 (x0.length : Int)) + (x0.length : Int))) (x0.length : Int))).f0).toList == ([65, 108, 108] : List UInt8))) else (racewaylaw24_AttributeAll.j1 k x0 ((rd_T33 x0 (Int.tmod (wrap64 ((Int.tmod x1 (x0.length : Int)) + (x0.length : Int))) (x0.length : Int))).f0) true))) else (none)) else (none)))
def racewaylaw24_AttributeAll.j1 : Nat → List (S33) → ByteArray → Bool → Option (Bool)
  | 0, _, _, _ => none
  | k + 1, x0, x5, x56 => if x56 = true then ((racewaylaw24_works.f k).bind fun t220 => (some t220)) else ((attribute_Select.f x0 (([x5] : List ByteArray))).bind fun t224 => (racewaylaw24_AttributeAll.l0 k x5 t224 (t224.length : Int) 0))
def racewaylaw24_AttributeAll.l0 : Nat → ByteArray → List (S33) → Int → Int → Option (Bool)
  | 0, _, _, _, _ => none
  | k + 1, x5, x61, x62, x63 => if x63 < x62 then (if 0 ≤ x63 then (if x63 < (x61.length : Int) then (if ((rd_T33 x61 x63).f0).toList = x5.toList then (racewaylaw24_AttributeAll.l0 k x5 x61 x62 (wrap64 (x63 + 1))) else (some false)) else (none)) else (none)) else ((racewaylaw24_works.f k).bind fun t229 => (some t229))
end
def racewaylaw24_AttributeAll.f (k : Nat) (l0 : List (S33)) (a1 : Int) : Option (Bool) := (racewaylaw24_few.f k l0).bind fun t199 => ((attribute_Select.f t199 (([(⟨#[65, 108, 108]⟩ : ByteArray)] : List ByteArray))).bind fun t205 => (if (t205.length : Int) = (t199.length : Int) then ((attribute_Select.f t199 (([(⟨#[120]⟩ : ByteArray), (⟨#[46, 42]⟩ : ByteArray)] : List ByteArray))).bind fun t211 => (if (t211.length : Int) = (t199.length : Int) then ((attribute_Select.f t199 ([] : List ByteArray)).bind fun t214 => (racewaylaw24_AttributeAll.j0 k t199 a1 ((t214.length : Int) != 0))) else (racewaylaw24_AttributeAll.j0 k t199 a1 true))) else (racewaylaw24_AttributeAll.j0 k t199 a1 true)))
set_option maxHeartbeats 8000000 in
set_option maxRecDepth 100000 in
theorem racewaylaw24_AttributeAll.calls (k : Nat) (A0 : Option Addr) (c0 : Nat) (l0 : List (S33)) (a1 : Int) (r : Bool) (w : World) (hGFp : GlobFp w) (hGMax : GlobMax w) (hr0 : Kd.C k33 w A0 l0.length l0) (hc0 : l0.length ≤ c0) (h : racewaylaw24_AttributeAll.f k l0 a1 = some r) :
    Calls Tryd.prog 8 #[.slice A0 l0.length c0, .int .i64 a1] w fun e w' => e = .returned (.bool r) ∧ Below w.heap.size w w' := by
  have hu33 := Tryd.underlying33
  have HGFp := Aside0.mk hGFp
  clear hGFp
  have HGMax := Aside0.mk hGMax
  clear hGMax
  have HR0 := Aside0.mk hr0
  have HC0 := Aside0.mk hc0
  clear hr0 hc0
  have HB := Aside0.mk (Below.refl w.heap.size w)
  have H : ((racewaylaw24_few.f k l0).bind fun t199 => ((attribute_Select.f t199 (([(⟨#[65, 108, 108]⟩ : ByteArray)] : List ByteArray))).bind fun t205 => (if (t205.length : Int) = (t199.length : Int) then ((attribute_Select.f t199 (([(⟨#[120]⟩ : ByteArray), (⟨#[46, 42]⟩ : ByteArray)] : List ByteArray))).bind fun t211 => (if (t211.length : Int) = (t199.length : Int) then ((attribute_Select.f t199 ([] : List ByteArray)).bind fun t214 => (racewaylaw24_AttributeAll.j0 k t199 a1 ((t214.length : Int) != 0))) else (racewaylaw24_AttributeAll.j0 k t199 a1 true))) else (racewaylaw24_AttributeAll.j0 k t199 a1 true)))) = some r := h
  clear h
  replace H := Option.bind_eq_some_iff.mp H
  obtain ⟨t199, A30, H⟩ := H
  replace H : ((attribute_Select.f t199 (([(⟨#[65, 108, 108]⟩ : ByteArray)] : List ByteArray))).bind fun t205 => (if (t205.length : Int) = (t199.length : Int) then ((attribute_Select.f t199 (([(⟨#[120]⟩ : ByteArray), (⟨#[46, 42]⟩ : ByteArray)] : List ByteArray))).bind fun t211 => (if (t211.length : Int) = (t199.length : Int) then ((attribute_Select.f t199 ([] : List ByteArray)).bind fun t214 => (racewaylaw24_AttributeAll.j0 k t199 a1 ((t214.length : Int) != 0))) else (racewaylaw24_AttributeAll.j0 k t199 a1 true))) else (racewaylaw24_AttributeAll.j0 k t199 a1 true))) = some r := H
  have A3 := Aside0.mk A30
  clear A30
  have HC4 := Aside0.mk H
  clear H
  go_enter Tryd.func8, Tryd.ntmps8
  go_upto_region 2 with (first | ((with_reducible refine gate_callee (f := 17) rfl ?_); refine goesL_ (some 9) rfl rfl Tryd.func17 (by kernel_rfl) rfl #[.slice A0 l0.length c0] rfl (by (try simp only [List.map_toArray, List.map_cons, List.map_nil]); first | done | rfl | (simp only [List.length_drop, List.length_take]; rfl)) ?_; (with_reducible refine (racewaylaw24_few.calls k _ _ l0 t199 _ ?side1 ?side2 A3.out).mono ?_); (case side1 => repeat (first | exact HR0.out | (with_reducible refine Kd.C_alloc ?_ _) | (with_reducible refine Kd.C_drewN ?_ _) | (with_reducible refine Kd.C_drew ?_))); (case side2 => exact HC0.out); rintro e w5 ⟨v200, rfl, ho0, hb⟩; refine ⟨_, rfl, ?_⟩; have n0_ := Aside0.mk (Kd.R_lower ho0 (below_size (by repeat (first | (with_reducible first | exact HB.out | apply below_alloc | apply pw_below_drewN | apply below_drew1) | exact HB.out)))); have n1_ := Aside0.mk (below_step (by repeat (first | (with_reducible first | exact HB.out | apply below_alloc | apply pw_below_drewN | apply below_drew1) | exact HB.out)) hb); clear HB; have HO201 := n0_; have HB := n1_; clear n0_ n1_; (try clear hb); (try clear hb2); (try clear hk); (try clear hi); (try clear ho0)))
  (try simp only [Act.put, List.setIfInBounds_toArray, List.set_cons_zero, List.set_cons_succ])
  go_cut [31] (fun v31 wc => ∃ (kq : Nat) (x31_3 : Bool), v31 = .bool x31_3 ∧ Aside0 (racewaylaw24_AttributeAll.j0 kq t199 a1 x31_3 = some r) ∧ Aside0 (kq ≤ k) ∧ Aside0 (Kd.R k33 33 wc w.heap.size (fun _ => True) v200 t199) ∧ Aside0 (Below w.heap.size w wc))
  case first =>
    have H := HC4.out
    clear HC4
    obtain ⟨y202, hy202⟩ : ∃ y_ : List ByteArray, y_ = (([(⟨#[65, 108, 108]⟩ : ByteArray)] : List ByteArray)) := ⟨_, rfl⟩
    replace H : ((attribute_Select.f t199 y202).bind fun t205 => (if (t205.length : Int) = (t199.length : Int) then ((attribute_Select.f t199 (([(⟨#[120]⟩ : ByteArray), (⟨#[46, 42]⟩ : ByteArray)] : List ByteArray))).bind fun t211 => (if (t211.length : Int) = (t199.length : Int) then ((attribute_Select.f t199 ([] : List ByteArray)).bind fun t214 => (racewaylaw24_AttributeAll.j0 k t199 a1 ((t214.length : Int) != 0))) else (racewaylaw24_AttributeAll.j0 k t199 a1 true))) else (racewaylaw24_AttributeAll.j0 k t199 a1 true))) = some r := by first | (rw [hy202]; with_reducible exact H) | (have H2_ := (Option.bind_some _ _).symm.trans H; rw [hy202]; with_reducible exact H2_) | (have H2_ := (Option.bind_some _ _).symm.trans H; with_reducible exact H2_) | with_reducible exact H | (rw [hy202]; exact H) | exact H
    have Ny202 := Aside0.mk hy202
    clear hy202
    replace H := Option.bind_eq_some_iff.mp H
    obtain ⟨t205, A60, H⟩ := H
    replace H : (if (t205.length : Int) = (t199.length : Int) then ((attribute_Select.f t199 (([(⟨#[120]⟩ : ByteArray), (⟨#[46, 42]⟩ : ByteArray)] : List ByteArray))).bind fun t211 => (if (t211.length : Int) = (t199.length : Int) then ((attribute_Select.f t199 ([] : List ByteArray)).bind fun t214 => (racewaylaw24_AttributeAll.j0 k t199 a1 ((t214.length : Int) != 0))) else (racewaylaw24_AttributeAll.j0 k t199 a1 true))) else (racewaylaw24_AttributeAll.j0 k t199 a1 true)) = some r := H
    have A6 := Aside0.mk A60
    clear A60
    by_cases c7 : (t205.length : Int) = (t199.length : Int)
    · rw [if_pos c7] at H
      have c7b0 : ((t205.length : Int) == (t199.length : Int)) = true := beq_iff_eq.mpr c7
      have c7b1 : ((t205.length : Int) != (t199.length : Int)) = false := bne_eq_false_iff_eq.mpr c7
      have c7b2 : (t205.length == t199.length) = true := by first | simpa using c7 | (simp at c7 ⊢; omega)
      clear c7
      (first | rw [c7b0] | (simp only [i64_w, i32_w]; rw [c7b0]) | skip)
      obtain ⟨y208, hy208⟩ : ∃ y_ : List ByteArray, y_ = (([(⟨#[120]⟩ : ByteArray), (⟨#[46, 42]⟩ : ByteArray)] : List ByteArray)) := ⟨_, rfl⟩
      replace H : ((attribute_Select.f t199 y208).bind fun t211 => (if (t211.length : Int) = (t199.length : Int) then ((attribute_Select.f t199 ([] : List ByteArray)).bind fun t214 => (racewaylaw24_AttributeAll.j0 k t199 a1 ((t214.length : Int) != 0))) else (racewaylaw24_AttributeAll.j0 k t199 a1 true))) = some r := by first | (rw [hy208]; with_reducible exact H) | (have H2_ := (Option.bind_some _ _).symm.trans H; rw [hy208]; with_reducible exact H2_) | (have H2_ := (Option.bind_some _ _).symm.trans H; with_reducible exact H2_) | with_reducible exact H | (rw [hy208]; exact H) | exact H
      have Ny208 := Aside0.mk hy208
      clear hy208
      replace H := Option.bind_eq_some_iff.mp H
      obtain ⟨t211, A80, H⟩ := H
      replace H : (if (t211.length : Int) = (t199.length : Int) then ((attribute_Select.f t199 ([] : List ByteArray)).bind fun t214 => (racewaylaw24_AttributeAll.j0 k t199 a1 ((t214.length : Int) != 0))) else (racewaylaw24_AttributeAll.j0 k t199 a1 true)) = some r := H
      have A8 := Aside0.mk A80
      clear A80
      by_cases c9 : (t211.length : Int) = (t199.length : Int)
      · rw [if_pos c9] at H
        have c9b0 : ((t211.length : Int) == (t199.length : Int)) = true := beq_iff_eq.mpr c9
        have c9b1 : ((t211.length : Int) != (t199.length : Int)) = false := bne_eq_false_iff_eq.mpr c9
        have c9b2 : (t211.length == t199.length) = true := by first | simpa using c9 | (simp at c9 ⊢; omega)
        clear c9
        replace H := Option.bind_eq_some_iff.mp H
        obtain ⟨t214, A100, H⟩ := H
        replace H : (racewaylaw24_AttributeAll.j0 k t199 a1 ((t214.length : Int) != 0)) = some r := H
        have A10 := Aside0.mk A100
        clear A100
        have H' := Aside0.mk H
        clear H
        go_wp2_with (first | ((with_reducible refine gate_dst (N := 11) rfl ?_); (try (refine gate_guard (by rfl) ?_; dsimp only)); refine Kd.R_lit Kd.string _ 9 ?hg (N := 11) ?hd (xs := ([(⟨#[65, 108, 108]⟩ : ByteArray)] : List ByteArray)) (inner := [.string (⟨#[65, 108, 108]⟩ : ByteArray)]) (ok := fun _ => True) (okp := fun _ => True) ?hr ?hp (fun _ hk => hk) trivial (Below.refl _ _) (Nat.le_refl _) (by simp) ?_; (case hd => rfl); (case hg => rfl); (case hr => first | (go_simp; done) | (go_simp; rfl)); (case hp => exact (Reps.one (show Kd.M Kd.string _ _ _ (⟨#[65, 108, 108]⟩ : ByteArray) [.string (⟨#[65, 108, 108]⟩ : ByteArray)] from rfl) (Reps.none _ _))); intro v203 w11 ho12 hb hg_ hnew_; clear hg_ hnew_; (first | rw [← Ny202.out] at ho12 | (simp only [Int.reduceToNat] at ho12; rw [← Ny202.out] at ho12)); have n0_ := Aside0.mk (Kd.R_below (by (with_reducible repeat (first | apply Kd.R_alloc | apply Kd.R_drewN | apply Kd.R_drew)); exact HO201.out) hb); have n1_ := Aside0.mk (Kd.R_lower ho12 (below_size (by repeat (first | (with_reducible first | exact HB.out | apply below_alloc | apply pw_below_drewN | apply below_drew1) | exact HB.out)))); have n2_ := Aside0.mk (below_step (by repeat (first | (with_reducible first | exact HB.out | apply below_alloc | apply pw_below_drewN | apply below_drew1) | exact HB.out)) hb); clear HO201; clear HB; have HO201 := n0_; have HO204 := n1_; have HB := n2_; clear n0_ n1_ n2_; clear hb ho12; obtain ⟨Ao13, co13, eo13⟩ := Kd.R_slice HO201.out; subst eo13; obtain ⟨Ao14, co14, eo14⟩ := Kd.R_slice HO204.out; subst eo14) | ((with_reducible refine gate_callee (f := 24) rfl ?_); refine goesL_ (some 12) rfl rfl Tryd.func24 (by kernel_rfl) rfl #[.slice Ao13 t199.length co13, .slice Ao14 y202.length co14] rfl (by (try simp only [List.map_toArray, List.map_cons, List.map_nil]); first | done | rfl | (simp only [List.length_drop, List.length_take]; rfl)) ?_; (with_reducible refine (attribute_Select.calls _ _ t199 _ _ y202 t205 _ ?side1 ?side2 ?side3 ?side4 A6.out).mono ?_); (case side1 => repeat (first | exact (Kd.R_reads' HO201.out).2.2 | (with_reducible refine Kd.C_alloc ?_ _) | (with_reducible refine Kd.C_drewN ?_ _) | (with_reducible refine Kd.C_drew ?_))); (case side2 => exact (Kd.R_reads' HO201.out).2.1); (case side3 => repeat (first | exact (Kd.R_reads' HO204.out).2.2 | (with_reducible refine Kd.C_alloc ?_ _) | (with_reducible refine Kd.C_drewN ?_ _) | (with_reducible refine Kd.C_drew ?_))); (case side4 => exact (Kd.R_reads' HO204.out).2.1); rintro e w15 ⟨v206, rfl, ho0, hb⟩; refine ⟨_, rfl, ?_⟩; have n0_ := Aside0.mk (Kd.R_elder' (by (with_reducible repeat (first | apply Kd.R_alloc | apply Kd.R_drewN | apply Kd.R_drew)); exact HO201.out) (Kd.R_base ho0) hb); have n1_ := Aside0.mk (Kd.R_below (by (with_reducible repeat (first | apply Kd.R_alloc | apply Kd.R_drewN | apply Kd.R_drew)); exact HO204.out) hb); have n2_ := Aside0.mk (Kd.R_lower (Kd.R_new' ho0 (Kd.R_lt (by (with_reducible repeat (first | apply Kd.R_alloc | apply Kd.R_drewN | apply Kd.R_drew)); exact HO201.out))) (below_size (by repeat (first | (with_reducible first | exact HB.out | apply below_alloc | apply pw_below_drewN | apply below_drew1) | exact HB.out)))); have n3_ := Aside0.mk (below_step (by repeat (first | (with_reducible first | exact HB.out | apply below_alloc | apply pw_below_drewN | apply below_drew1) | exact HB.out)) hb); clear HO201; clear HO204; clear HB; have HO201 := n0_; have HO204 := n1_; have HO207 := n2_; have HB := n3_; clear n0_ n1_ n2_ n3_; (try clear hb); (try clear hb2); (try clear hk); (try clear hi); (try clear ho0); obtain ⟨Ao16, co16, eo16⟩ := Kd.R_slice HO207.out; subst eo16) | ((with_reducible refine gate_dst (N := 19) rfl ?_); (try (refine gate_guard (by rfl) ?_; dsimp only)); refine Kd.R_lit Kd.string _ 9 ?hg (N := 19) ?hd (xs := ([(⟨#[120]⟩ : ByteArray), (⟨#[46, 42]⟩ : ByteArray)] : List ByteArray)) (inner := [.string (⟨#[120]⟩ : ByteArray), .string (⟨#[46, 42]⟩ : ByteArray)]) (ok := fun _ => True) (okp := fun _ => True) ?hr ?hp (fun _ hk => hk) trivial (Below.refl _ _) (Nat.le_refl _) (by simp) ?_; (case hd => rfl); (case hg => rfl); (case hr => first | (go_simp; done) | (go_simp; rfl)); (case hp => exact (Reps.one (show Kd.M Kd.string _ _ _ (⟨#[120]⟩ : ByteArray) [.string (⟨#[120]⟩ : ByteArray)] from rfl) (Reps.one (show Kd.M Kd.string _ _ _ (⟨#[46, 42]⟩ : ByteArray) [.string (⟨#[46, 42]⟩ : ByteArray)] from rfl) (Reps.none _ _)))); intro v209 w17 ho18 hb hg_ hnew_; clear hg_ hnew_; (first | rw [← Ny208.out] at ho18 | (simp only [Int.reduceToNat] at ho18; rw [← Ny208.out] at ho18)); have n0_ := Aside0.mk (Kd.R_below (by (with_reducible repeat (first | apply Kd.R_alloc | apply Kd.R_drewN | apply Kd.R_drew)); exact HO201.out) hb); have n1_ := Aside0.mk (Kd.R_elder' (by (with_reducible repeat (first | apply Kd.R_alloc | apply Kd.R_drewN | apply Kd.R_drew)); exact HO204.out) (Kd.R_base ho18) hb); have n2_ := Aside0.mk (Kd.R_below (by (with_reducible repeat (first | apply Kd.R_alloc | apply Kd.R_drewN | apply Kd.R_drew)); exact HO207.out) hb); have n3_ := Aside0.mk (Kd.R_lower (Kd.R_new' ho18 (Kd.R_lt (by (with_reducible repeat (first | apply Kd.R_alloc | apply Kd.R_drewN | apply Kd.R_drew)); exact HO204.out))) (below_size (by repeat (first | (with_reducible first | exact HB.out | apply below_alloc | apply pw_below_drewN | apply below_drew1) | exact HB.out)))); have n4_ := Aside0.mk (below_step (by repeat (first | (with_reducible first | exact HB.out | apply below_alloc | apply pw_below_drewN | apply below_drew1) | exact HB.out)) hb); clear HO201; clear HO204; clear HO207; clear HB; have HO201 := n0_; have HO204 := n1_; have HO207 := n2_; have HO210 := n3_; have HB := n4_; clear n0_ n1_ n2_ n3_ n4_; clear hb ho18; obtain ⟨Ao19, co19, eo19⟩ := Kd.R_slice HO210.out; subst eo19) | (go_at_call 24; (with_reducible refine (attribute_Select.calls _ _ t199 _ _ y208 t211 _ ?side1 ?side2 ?side3 ?side4 A8.out).mono ?_); (case side1 => repeat (first | exact (Kd.R_reads' HO201.out).2.2 | (with_reducible refine Kd.C_alloc ?_ _) | (with_reducible refine Kd.C_drewN ?_ _) | (with_reducible refine Kd.C_drew ?_))); (case side2 => exact (Kd.R_reads' HO201.out).2.1); (case side3 => repeat (first | exact (Kd.R_reads' HO210.out).2.2 | (with_reducible refine Kd.C_alloc ?_ _) | (with_reducible refine Kd.C_drewN ?_ _) | (with_reducible refine Kd.C_drew ?_))); (case side4 => exact (Kd.R_reads' HO210.out).2.1); rintro e w20 ⟨v212, rfl, ho0, hb⟩; have n0_ := Aside0.mk (Kd.R_elder' (by (with_reducible repeat (first | apply Kd.R_alloc | apply Kd.R_drewN | apply Kd.R_drew)); exact HO201.out) (Kd.R_base ho0) hb); have n1_ := Aside0.mk (Kd.R_below (by (with_reducible repeat (first | apply Kd.R_alloc | apply Kd.R_drewN | apply Kd.R_drew)); exact HO204.out) hb); have n2_ := Aside0.mk (Kd.R_elder' (by (with_reducible repeat (first | apply Kd.R_alloc | apply Kd.R_drewN | apply Kd.R_drew)); exact HO207.out) (Kd.R_base ho0) hb); have n3_ := Aside0.mk (Kd.R_below (by (with_reducible repeat (first | apply Kd.R_alloc | apply Kd.R_drewN | apply Kd.R_drew)); exact HO210.out) hb); have n4_ := Aside0.mk (Kd.R_lower (Kd.R_new' (Kd.R_new' ho0 (Kd.R_lt (by (with_reducible repeat (first | apply Kd.R_alloc | apply Kd.R_drewN | apply Kd.R_drew)); exact HO201.out))) (Kd.R_lt (by (with_reducible repeat (first | apply Kd.R_alloc | apply Kd.R_drewN | apply Kd.R_drew)); exact HO207.out))) (below_size (by repeat (first | (with_reducible first | exact HB.out | apply below_alloc | apply pw_below_drewN | apply below_drew1) | exact HB.out)))); have n5_ := Aside0.mk (below_step (by repeat (first | (with_reducible first | exact HB.out | apply below_alloc | apply pw_below_drewN | apply below_drew1) | exact HB.out)) hb); clear HO201; clear HO204; clear HO207; clear HO210; clear HB; have HO201 := n0_; have HO204 := n1_; have HO207 := n2_; have HO210 := n3_; have HO213 := n4_; have HB := n5_; clear n0_ n1_ n2_ n3_ n4_ n5_; (try clear hb); (try clear hb2); (try clear hk); (try clear hi); (try clear ho0); obtain ⟨Ao21, co21, eo21⟩ := Kd.R_slice HO213.out; subst eo21) | (go_at_call 24; (refine (attribute_Select.calls _ _ t199 _ _ ([] : List ByteArray) t214 _ ?side1 ?side2 ?side3 ?side4 A10.out).mono ?_); (case side1 => repeat (first | exact (Kd.R_reads' HO201.out).2.2 | (with_reducible refine Kd.C_alloc ?_ _) | (with_reducible refine Kd.C_drewN ?_ _) | (with_reducible refine Kd.C_drew ?_))); (case side2 => exact (Kd.R_reads' HO201.out).2.1); (case side3 => exact Kd.C_nil _ _); (case side4 => exact Nat.le_refl _); rintro e w22 ⟨v215, rfl, ho0, hb⟩; have n0_ := Aside0.mk (Kd.R_elder' (by (with_reducible repeat (first | apply Kd.R_alloc | apply Kd.R_drewN | apply Kd.R_drew)); exact HO201.out) (Kd.R_base ho0) hb); have n1_ := Aside0.mk (Kd.R_below (by (with_reducible repeat (first | apply Kd.R_alloc | apply Kd.R_drewN | apply Kd.R_drew)); exact HO204.out) hb); have n2_ := Aside0.mk (Kd.R_elder' (by (with_reducible repeat (first | apply Kd.R_alloc | apply Kd.R_drewN | apply Kd.R_drew)); exact HO207.out) (Kd.R_base ho0) hb); have n3_ := Aside0.mk (Kd.R_below (by (with_reducible repeat (first | apply Kd.R_alloc | apply Kd.R_drewN | apply Kd.R_drew)); exact HO210.out) hb); have n4_ := Aside0.mk (Kd.R_elder' (by (with_reducible repeat (first | apply Kd.R_alloc | apply Kd.R_drewN | apply Kd.R_drew)); exact HO213.out) (Kd.R_base ho0) hb); have n5_ := Aside0.mk (Kd.R_lower (Kd.R_new' (Kd.R_new' (Kd.R_new' ho0 (Kd.R_lt (by (with_reducible repeat (first | apply Kd.R_alloc | apply Kd.R_drewN | apply Kd.R_drew)); exact HO201.out))) (Kd.R_lt (by (with_reducible repeat (first | apply Kd.R_alloc | apply Kd.R_drewN | apply Kd.R_drew)); exact HO207.out))) (Kd.R_lt (by (with_reducible repeat (first | apply Kd.R_alloc | apply Kd.R_drewN | apply Kd.R_drew)); exact HO213.out))) (below_size (by repeat (first | (with_reducible first | exact HB.out | apply below_alloc | apply pw_below_drewN | apply below_drew1) | exact HB.out)))); have n6_ := Aside0.mk (below_step (by repeat (first | (with_reducible first | exact HB.out | apply below_alloc | apply pw_below_drewN | apply below_drew1) | exact HB.out)) hb); clear HO201; clear HO204; clear HO207; clear HO210; clear HO213; clear HB; have HO201 := n0_; have HO204 := n1_; have HO207 := n2_; have HO210 := n3_; have HO213 := n4_; have HO216 := n5_; have HB := n6_; clear n0_ n1_ n2_ n3_ n4_ n5_ n6_; (try clear hb); (try clear hb2); (try clear hk); (try clear hi); (try clear ho0); obtain ⟨Ao23, co23, eo23⟩ := Kd.R_slice HO216.out; subst eo23))
        go_meet
        case rel => exact ⟨_, (((t214.length : Int) != 0)), (by first | rfl | (simp; done) | (simp; decide +kernel) | (simp [*]; done)), (by first | exact H' | (subst_vars; exact H')), ⟨by first | omega | exact Nat.le_refl _⟩, ⟨by (with_reducible repeat (first | apply Kd.R_alloc | apply Kd.R_drewN | apply Kd.R_drew)); exact Kd.R_mono HO201.out (fun _ hk => trivial)⟩, ⟨by repeat (first | (with_reducible first | exact HB.out | apply below_alloc | apply pw_below_drewN | apply below_drew1) | exact HB.out)⟩⟩
      · rw [if_neg c9] at H
        have c9b0 : ((t211.length : Int) == (t199.length : Int)) = false := beq_eq_false_iff_ne.mpr c9
        have c9b1 : ((t211.length : Int) != (t199.length : Int)) = true := bne_iff_ne.mpr c9
        have c9b2 : (t211.length == t199.length) = false := by first | simpa using c9 | (simp at c9 ⊢; omega)
        have H' := Aside0.mk H
        clear H
        go_wp2_with (first | ((with_reducible refine gate_dst (N := 11) rfl ?_); (try (refine gate_guard (by rfl) ?_; dsimp only)); refine Kd.R_lit Kd.string _ 9 ?hg (N := 11) ?hd (xs := ([(⟨#[65, 108, 108]⟩ : ByteArray)] : List ByteArray)) (inner := [.string (⟨#[65, 108, 108]⟩ : ByteArray)]) (ok := fun _ => True) (okp := fun _ => True) ?hr ?hp (fun _ hk => hk) trivial (Below.refl _ _) (Nat.le_refl _) (by simp) ?_; (case hd => rfl); (case hg => rfl); (case hr => first | (go_simp; done) | (go_simp; rfl)); (case hp => exact (Reps.one (show Kd.M Kd.string _ _ _ (⟨#[65, 108, 108]⟩ : ByteArray) [.string (⟨#[65, 108, 108]⟩ : ByteArray)] from rfl) (Reps.none _ _))); intro v203 w24 ho25 hb hg_ hnew_; clear hg_ hnew_; (first | rw [← Ny202.out] at ho25 | (simp only [Int.reduceToNat] at ho25; rw [← Ny202.out] at ho25)); have n0_ := Aside0.mk (Kd.R_below (by (with_reducible repeat (first | apply Kd.R_alloc | apply Kd.R_drewN | apply Kd.R_drew)); exact HO201.out) hb); have n1_ := Aside0.mk (Kd.R_lower ho25 (below_size (by repeat (first | (with_reducible first | exact HB.out | apply below_alloc | apply pw_below_drewN | apply below_drew1) | exact HB.out)))); have n2_ := Aside0.mk (below_step (by repeat (first | (with_reducible first | exact HB.out | apply below_alloc | apply pw_below_drewN | apply below_drew1) | exact HB.out)) hb); clear HO201; clear HB; have HO201 := n0_; have HO204 := n1_; have HB := n2_; clear n0_ n1_ n2_; clear hb ho25; obtain ⟨Ao26, co26, eo26⟩ := Kd.R_slice HO201.out; subst eo26; obtain ⟨Ao27, co27, eo27⟩ := Kd.R_slice HO204.out; subst eo27) | ((with_reducible refine gate_callee (f := 24) rfl ?_); refine goesL_ (some 12) rfl rfl Tryd.func24 (by kernel_rfl) rfl #[.slice Ao26 t199.length co26, .slice Ao27 y202.length co27] rfl (by (try simp only [List.map_toArray, List.map_cons, List.map_nil]); first | done | rfl | (simp only [List.length_drop, List.length_take]; rfl)) ?_; (with_reducible refine (attribute_Select.calls _ _ t199 _ _ y202 t205 _ ?side1 ?side2 ?side3 ?side4 A6.out).mono ?_); (case side1 => repeat (first | exact (Kd.R_reads' HO201.out).2.2 | (with_reducible refine Kd.C_alloc ?_ _) | (with_reducible refine Kd.C_drewN ?_ _) | (with_reducible refine Kd.C_drew ?_))); (case side2 => exact (Kd.R_reads' HO201.out).2.1); (case side3 => repeat (first | exact (Kd.R_reads' HO204.out).2.2 | (with_reducible refine Kd.C_alloc ?_ _) | (with_reducible refine Kd.C_drewN ?_ _) | (with_reducible refine Kd.C_drew ?_))); (case side4 => exact (Kd.R_reads' HO204.out).2.1); rintro e w28 ⟨v206, rfl, ho0, hb⟩; refine ⟨_, rfl, ?_⟩; have n0_ := Aside0.mk (Kd.R_elder' (by (with_reducible repeat (first | apply Kd.R_alloc | apply Kd.R_drewN | apply Kd.R_drew)); exact HO201.out) (Kd.R_base ho0) hb); have n1_ := Aside0.mk (Kd.R_below (by (with_reducible repeat (first | apply Kd.R_alloc | apply Kd.R_drewN | apply Kd.R_drew)); exact HO204.out) hb); have n2_ := Aside0.mk (Kd.R_lower (Kd.R_new' ho0 (Kd.R_lt (by (with_reducible repeat (first | apply Kd.R_alloc | apply Kd.R_drewN | apply Kd.R_drew)); exact HO201.out))) (below_size (by repeat (first | (with_reducible first | exact HB.out | apply below_alloc | apply pw_below_drewN | apply below_drew1) | exact HB.out)))); have n3_ := Aside0.mk (below_step (by repeat (first | (with_reducible first | exact HB.out | apply below_alloc | apply pw_below_drewN | apply below_drew1) | exact HB.out)) hb); clear HO201; clear HO204; clear HB; have HO201 := n0_; have HO204 := n1_; have HO207 := n2_; have HB := n3_; clear n0_ n1_ n2_ n3_; (try clear hb); (try clear hb2); (try clear hk); (try clear hi); (try clear ho0); obtain ⟨Ao29, co29, eo29⟩ := Kd.R_slice HO207.out; subst eo29) | ((with_reducible refine gate_dst (N := 19) rfl ?_); (try (refine gate_guard (by rfl) ?_; dsimp only)); refine Kd.R_lit Kd.string _ 9 ?hg (N := 19) ?hd (xs := ([(⟨#[120]⟩ : ByteArray), (⟨#[46, 42]⟩ : ByteArray)] : List ByteArray)) (inner := [.string (⟨#[120]⟩ : ByteArray), .string (⟨#[46, 42]⟩ : ByteArray)]) (ok := fun _ => True) (okp := fun _ => True) ?hr ?hp (fun _ hk => hk) trivial (Below.refl _ _) (Nat.le_refl _) (by simp) ?_; (case hd => rfl); (case hg => rfl); (case hr => first | (go_simp; done) | (go_simp; rfl)); (case hp => exact (Reps.one (show Kd.M Kd.string _ _ _ (⟨#[120]⟩ : ByteArray) [.string (⟨#[120]⟩ : ByteArray)] from rfl) (Reps.one (show Kd.M Kd.string _ _ _ (⟨#[46, 42]⟩ : ByteArray) [.string (⟨#[46, 42]⟩ : ByteArray)] from rfl) (Reps.none _ _)))); intro v209 w30 ho31 hb hg_ hnew_; clear hg_ hnew_; (first | rw [← Ny208.out] at ho31 | (simp only [Int.reduceToNat] at ho31; rw [← Ny208.out] at ho31)); have n0_ := Aside0.mk (Kd.R_below (by (with_reducible repeat (first | apply Kd.R_alloc | apply Kd.R_drewN | apply Kd.R_drew)); exact HO201.out) hb); have n1_ := Aside0.mk (Kd.R_elder' (by (with_reducible repeat (first | apply Kd.R_alloc | apply Kd.R_drewN | apply Kd.R_drew)); exact HO204.out) (Kd.R_base ho31) hb); have n2_ := Aside0.mk (Kd.R_below (by (with_reducible repeat (first | apply Kd.R_alloc | apply Kd.R_drewN | apply Kd.R_drew)); exact HO207.out) hb); have n3_ := Aside0.mk (Kd.R_lower (Kd.R_new' ho31 (Kd.R_lt (by (with_reducible repeat (first | apply Kd.R_alloc | apply Kd.R_drewN | apply Kd.R_drew)); exact HO204.out))) (below_size (by repeat (first | (with_reducible first | exact HB.out | apply below_alloc | apply pw_below_drewN | apply below_drew1) | exact HB.out)))); have n4_ := Aside0.mk (below_step (by repeat (first | (with_reducible first | exact HB.out | apply below_alloc | apply pw_below_drewN | apply below_drew1) | exact HB.out)) hb); clear HO201; clear HO204; clear HO207; clear HB; have HO201 := n0_; have HO204 := n1_; have HO207 := n2_; have HO210 := n3_; have HB := n4_; clear n0_ n1_ n2_ n3_ n4_; clear hb ho31; obtain ⟨Ao32, co32, eo32⟩ := Kd.R_slice HO210.out; subst eo32) | (go_at_call 24; (with_reducible refine (attribute_Select.calls _ _ t199 _ _ y208 t211 _ ?side1 ?side2 ?side3 ?side4 A8.out).mono ?_); (case side1 => repeat (first | exact (Kd.R_reads' HO201.out).2.2 | (with_reducible refine Kd.C_alloc ?_ _) | (with_reducible refine Kd.C_drewN ?_ _) | (with_reducible refine Kd.C_drew ?_))); (case side2 => exact (Kd.R_reads' HO201.out).2.1); (case side3 => repeat (first | exact (Kd.R_reads' HO210.out).2.2 | (with_reducible refine Kd.C_alloc ?_ _) | (with_reducible refine Kd.C_drewN ?_ _) | (with_reducible refine Kd.C_drew ?_))); (case side4 => exact (Kd.R_reads' HO210.out).2.1); rintro e w33 ⟨v212, rfl, ho0, hb⟩; have n0_ := Aside0.mk (Kd.R_elder' (by (with_reducible repeat (first | apply Kd.R_alloc | apply Kd.R_drewN | apply Kd.R_drew)); exact HO201.out) (Kd.R_base ho0) hb); have n1_ := Aside0.mk (Kd.R_below (by (with_reducible repeat (first | apply Kd.R_alloc | apply Kd.R_drewN | apply Kd.R_drew)); exact HO204.out) hb); have n2_ := Aside0.mk (Kd.R_elder' (by (with_reducible repeat (first | apply Kd.R_alloc | apply Kd.R_drewN | apply Kd.R_drew)); exact HO207.out) (Kd.R_base ho0) hb); have n3_ := Aside0.mk (Kd.R_below (by (with_reducible repeat (first | apply Kd.R_alloc | apply Kd.R_drewN | apply Kd.R_drew)); exact HO210.out) hb); have n4_ := Aside0.mk (Kd.R_lower (Kd.R_new' (Kd.R_new' ho0 (Kd.R_lt (by (with_reducible repeat (first | apply Kd.R_alloc | apply Kd.R_drewN | apply Kd.R_drew)); exact HO201.out))) (Kd.R_lt (by (with_reducible repeat (first | apply Kd.R_alloc | apply Kd.R_drewN | apply Kd.R_drew)); exact HO207.out))) (below_size (by repeat (first | (with_reducible first | exact HB.out | apply below_alloc | apply pw_below_drewN | apply below_drew1) | exact HB.out)))); have n5_ := Aside0.mk (below_step (by repeat (first | (with_reducible first | exact HB.out | apply below_alloc | apply pw_below_drewN | apply below_drew1) | exact HB.out)) hb); clear HO201; clear HO204; clear HO207; clear HO210; clear HB; have HO201 := n0_; have HO204 := n1_; have HO207 := n2_; have HO210 := n3_; have HO213 := n4_; have HB := n5_; clear n0_ n1_ n2_ n3_ n4_ n5_; (try clear hb); (try clear hb2); (try clear hk); (try clear hi); (try clear ho0); obtain ⟨Ao34, co34, eo34⟩ := Kd.R_slice HO213.out; subst eo34))
        go_meet
        case rel => exact ⟨_, (true), (by first | rfl | (simp; done) | (simp; decide +kernel) | (simp [*]; done)), (by first | exact H' | (subst_vars; exact H')), ⟨by first | omega | exact Nat.le_refl _⟩, ⟨by (with_reducible repeat (first | apply Kd.R_alloc | apply Kd.R_drewN | apply Kd.R_drew)); exact Kd.R_mono HO201.out (fun _ hk => trivial)⟩, ⟨by repeat (first | (with_reducible first | exact HB.out | apply below_alloc | apply pw_below_drewN | apply below_drew1) | exact HB.out)⟩⟩
    · rw [if_neg c7] at H
      have c7b0 : ((t205.length : Int) == (t199.length : Int)) = false := beq_eq_false_iff_ne.mpr c7
      have c7b1 : ((t205.length : Int) != (t199.length : Int)) = true := bne_iff_ne.mpr c7
      have c7b2 : (t205.length == t199.length) = false := by first | simpa using c7 | (simp at c7 ⊢; omega)
      (first | rw [c7b0] | (simp only [i64_w, i32_w]; rw [c7b0]) | skip)
      have H' := Aside0.mk H
      clear H
      go_wp2_with (first | ((with_reducible refine gate_dst (N := 11) rfl ?_); (try (refine gate_guard (by rfl) ?_; dsimp only)); refine Kd.R_lit Kd.string _ 9 ?hg (N := 11) ?hd (xs := ([(⟨#[65, 108, 108]⟩ : ByteArray)] : List ByteArray)) (inner := [.string (⟨#[65, 108, 108]⟩ : ByteArray)]) (ok := fun _ => True) (okp := fun _ => True) ?hr ?hp (fun _ hk => hk) trivial (Below.refl _ _) (Nat.le_refl _) (by simp) ?_; (case hd => rfl); (case hg => rfl); (case hr => first | (go_simp; done) | (go_simp; rfl)); (case hp => exact (Reps.one (show Kd.M Kd.string _ _ _ (⟨#[65, 108, 108]⟩ : ByteArray) [.string (⟨#[65, 108, 108]⟩ : ByteArray)] from rfl) (Reps.none _ _))); intro v203 w35 ho36 hb hg_ hnew_; clear hg_ hnew_; (first | rw [← Ny202.out] at ho36 | (simp only [Int.reduceToNat] at ho36; rw [← Ny202.out] at ho36)); have n0_ := Aside0.mk (Kd.R_below (by (with_reducible repeat (first | apply Kd.R_alloc | apply Kd.R_drewN | apply Kd.R_drew)); exact HO201.out) hb); have n1_ := Aside0.mk (Kd.R_lower ho36 (below_size (by repeat (first | (with_reducible first | exact HB.out | apply below_alloc | apply pw_below_drewN | apply below_drew1) | exact HB.out)))); have n2_ := Aside0.mk (below_step (by repeat (first | (with_reducible first | exact HB.out | apply below_alloc | apply pw_below_drewN | apply below_drew1) | exact HB.out)) hb); clear HO201; clear HB; have HO201 := n0_; have HO204 := n1_; have HB := n2_; clear n0_ n1_ n2_; clear hb ho36; obtain ⟨Ao37, co37, eo37⟩ := Kd.R_slice HO201.out; subst eo37; obtain ⟨Ao38, co38, eo38⟩ := Kd.R_slice HO204.out; subst eo38) | ((with_reducible refine gate_callee (f := 24) rfl ?_); refine goesL_ (some 12) rfl rfl Tryd.func24 (by kernel_rfl) rfl #[.slice Ao37 t199.length co37, .slice Ao38 y202.length co38] rfl (by (try simp only [List.map_toArray, List.map_cons, List.map_nil]); first | done | rfl | (simp only [List.length_drop, List.length_take]; rfl)) ?_; (with_reducible refine (attribute_Select.calls _ _ t199 _ _ y202 t205 _ ?side1 ?side2 ?side3 ?side4 A6.out).mono ?_); (case side1 => repeat (first | exact (Kd.R_reads' HO201.out).2.2 | (with_reducible refine Kd.C_alloc ?_ _) | (with_reducible refine Kd.C_drewN ?_ _) | (with_reducible refine Kd.C_drew ?_))); (case side2 => exact (Kd.R_reads' HO201.out).2.1); (case side3 => repeat (first | exact (Kd.R_reads' HO204.out).2.2 | (with_reducible refine Kd.C_alloc ?_ _) | (with_reducible refine Kd.C_drewN ?_ _) | (with_reducible refine Kd.C_drew ?_))); (case side4 => exact (Kd.R_reads' HO204.out).2.1); rintro e w39 ⟨v206, rfl, ho0, hb⟩; refine ⟨_, rfl, ?_⟩; have n0_ := Aside0.mk (Kd.R_elder' (by (with_reducible repeat (first | apply Kd.R_alloc | apply Kd.R_drewN | apply Kd.R_drew)); exact HO201.out) (Kd.R_base ho0) hb); have n1_ := Aside0.mk (Kd.R_below (by (with_reducible repeat (first | apply Kd.R_alloc | apply Kd.R_drewN | apply Kd.R_drew)); exact HO204.out) hb); have n2_ := Aside0.mk (Kd.R_lower (Kd.R_new' ho0 (Kd.R_lt (by (with_reducible repeat (first | apply Kd.R_alloc | apply Kd.R_drewN | apply Kd.R_drew)); exact HO201.out))) (below_size (by repeat (first | (with_reducible first | exact HB.out | apply below_alloc | apply pw_below_drewN | apply below_drew1) | exact HB.out)))); have n3_ := Aside0.mk (below_step (by repeat (first | (with_reducible first | exact HB.out | apply below_alloc | apply pw_below_drewN | apply below_drew1) | exact HB.out)) hb); clear HO201; clear HO204; clear HB; have HO201 := n0_; have HO204 := n1_; have HO207 := n2_; have HB := n3_; clear n0_ n1_ n2_ n3_; (try clear hb); (try clear hb2); (try clear hk); (try clear hi); (try clear ho0); obtain ⟨Ao40, co40, eo40⟩ := Kd.R_slice HO207.out; subst eo40))
      go_meet
      case rel => exact ⟨_, (true), (by first | rfl | (simp; done) | (simp; decide +kernel) | (simp [*]; done)), (by first | exact H' | (subst_vars; exact H')), ⟨by first | omega | exact Nat.le_refl _⟩, ⟨by (with_reducible repeat (first | apply Kd.R_alloc | apply Kd.R_drewN | apply Kd.R_drew)); exact Kd.R_mono HO201.out (fun _ hk => trivial)⟩, ⟨by repeat (first | (with_reducible first | exact HB.out | apply below_alloc | apply pw_below_drewN | apply below_drew1) | exact HB.out)⟩⟩
  case rest =>
    clear HC4
    try clear c1
    try clear c2
    try clear p2
    try clear c7
    try clear c7b0
    try clear c7b1
    try clear c7b2
    try clear c8
    try clear c9
    try clear c9b0
    try clear c9b1
    try clear c9b2
    try clear c17
    try clear c24
    obtain ⟨kq, x31_3, rfl, HA, HJ3, HO_0, HB⟩ := hcut
    cases kq with
    | zero => exact absurd HA.out (by simp [racewaylaw24_AttributeAll.j0])
    | succ kj3 =>
      have H := HA.out
      clear HA
      simp only [racewaylaw24_AttributeAll.j0] at H
      by_cases c41 : x31_3 = true
      · subst c41
        have H1 : (some false) = some r := by rw [if_pos rfl] at H; exact H
        clear H
        have H := H1
        clear H1
        obtain rfl := Option.some.inj H
        go_wp2
        go_ret
        exact ⟨by first | rfl | (simp [errW_none, errW_some] <;> rfl) | (simp [*, errW_none, errW_some] <;> rfl), by repeat (first | (with_reducible first | exact HB.out | apply below_alloc | apply pw_below_drewN | apply below_drew1) | exact HB.out)⟩
      · replace c41 := Bool.eq_false_iff.mpr c41
        subst c41
        have H1 : (if (t199.length : Int) = 0 then ((racewaylaw24_works.f kj3).bind fun t217 => (some t217)) else (if 0 ≤ (Int.tmod (wrap64 ((Int.tmod a1 (t199.length : Int)) + (t199.length : Int))) (t199.length : Int)) then (if (Int.tmod (wrap64 ((Int.tmod a1 (t199.length : Int)) + (t199.length : Int))) (t199.length : Int)) < (t199.length : Int) then ((attribute_Name.f kj3 ((rd_T33 t199 (Int.tmod (wrap64 ((Int.tmod a1 (t199.length : Int)) + (t199.length : Int))) (t199.length : Int))).f0)).bind fun t219 => (if t219 = true then (racewaylaw24_AttributeAll.j1 kj3 t199 ((rd_T33 t199 (Int.tmod (wrap64 ((Int.tmod a1 (t199.length : Int)) + (t199.length : Int))) (t199.length : Int))).f0) (((rd_T33 t199 (Int.tmod (wrap64 ((Int.tmod a1 (t199.length : Int)) + (t199.length : Int))) (t199.length : Int))).f0).toList == ([65, 108, 108] : List UInt8))) else (racewaylaw24_AttributeAll.j1 kj3 t199 ((rd_T33 t199 (Int.tmod (wrap64 ((Int.tmod a1 (t199.length : Int)) + (t199.length : Int))) (t199.length : Int))).f0) true))) else (none)) else (none))) = some r := by rw [if_neg (show ¬ (false = true) by decide)] at H; exact H
        clear H
        have H := H1
        clear H1
        by_cases c42 : (t199.length : Int) = 0
        · rw [if_pos c42] at H
          have c42b0 : ((t199.length : Int) == 0) = true := beq_iff_eq.mpr c42
          have c42b1 : ((t199.length : Int) != 0) = false := bne_eq_false_iff_eq.mpr c42
          clear c42
          replace H := Option.bind_eq_some_iff.mp H
          obtain ⟨t217, A430, H⟩ := H
          replace H : (some t217) = some r := H
          have A43 := Aside0.mk A430
          clear A430
          obtain rfl := Option.some.inj H
          obtain ⟨Ao44, co44, eo44⟩ := Kd.R_slice HO_0.out
          subst eo44
          go_wp2_with (first | ((with_reducible refine gate_callee (f := 16) rfl ?_); refine goesL_ (some 35) rfl rfl Tryd.func16 (by kernel_rfl) rfl #[] rfl (by (try simp only [List.map_toArray, List.map_cons, List.map_nil]); first | done | rfl | (simp only [List.length_drop, List.length_take]; rfl)) ?_; (with_reducible refine (racewaylaw24_works.calls kj3  t217 _ ?side1 ?side2 A43.out).mono ?_); (case side1 => first | exact HGFp.out | exact GlobFp.below HGFp.out (by repeat (first | (with_reducible first | exact HB.out | apply below_alloc | apply pw_below_drewN | apply below_drew1) | exact HB.out)) | exact GlobFp.drawn HGFp.out (by repeat (first | exact Drawn0.refl _ | apply Drawn0.step))); (case side2 => first | exact HGMax.out | exact GlobMax.below HGMax.out (by repeat (first | (with_reducible first | exact HB.out | apply below_alloc | apply pw_below_drewN | apply below_drew1) | exact HB.out)) | exact GlobMax.drawn HGMax.out (by repeat (first | exact Drawn0.refl _ | apply Drawn0.step))); rintro e w45 ⟨rfl, hb⟩; refine ⟨_, rfl, ?_⟩; have n0_ := Aside0.mk (Kd.R_below (by (with_reducible repeat (first | apply Kd.R_alloc | apply Kd.R_drewN | apply Kd.R_drew)); exact HO_0.out) hb); have n1_ := Aside0.mk (below_step (by repeat (first | (with_reducible first | exact HB.out | apply below_alloc | apply pw_below_drewN | apply below_drew1) | exact HB.out)) hb); clear HO_0; clear HB; have HO_0 := n0_; have HB := n1_; clear n0_ n1_; (try clear hb); (try clear hb2); (try clear hk); (try clear hi)))
          go_ret
          exact ⟨by first | rfl | (simp [errW_none, errW_some] <;> rfl) | (simp [*, errW_none, errW_some] <;> rfl), by repeat (first | (with_reducible first | exact HB.out | apply below_alloc | apply pw_below_drewN | apply below_drew1) | exact HB.out)⟩
        · rw [if_neg c42] at H
          have c42b0 : ((t199.length : Int) == 0) = false := beq_eq_false_iff_ne.mpr c42
          have c42b1 : ((t199.length : Int) != 0) = true := bne_iff_ne.mpr c42
          have c42b2 : ¬ (t199 = []) := fun h_ => c42 (by rw [h_]; rfl)
          obtain ⟨ji46, hji46⟩ : ∃ j_ : Int, (Int.tmod (wrap64 ((Int.tmod a1 (t199.length : Int)) + (t199.length : Int))) (t199.length : Int)) = j_ := ⟨_, rfl⟩
          replace H : (if 0 ≤ (ji46) then (if (ji46) < (t199.length : Int) then ((attribute_Name.f kj3 ((rd_T33 t199 (ji46)).f0)).bind fun t219 => (if t219 = true then (racewaylaw24_AttributeAll.j1 kj3 t199 ((rd_T33 t199 (ji46)).f0) (((rd_T33 t199 (ji46)).f0).toList == ([65, 108, 108] : List UInt8))) else (racewaylaw24_AttributeAll.j1 kj3 t199 ((rd_T33 t199 (ji46)).f0) true))) else (none)) else (none)) = some r := by first | (rw [hji46] at H; exact H) | (simp only [hji46] at H ⊢; exact H)
          by_cases c47 : 0 ≤ (ji46)
          · rw [if_pos c47] at H
            have c47b0 : decide (0 ≤ (ji46)) = true := decide_eq_true c47
            clear c47
            by_cases c48 : (ji46) < (t199.length : Int)
            · rw [if_pos c48] at H
              have c48b0 : decide ((ji46) < (t199.length : Int)) = true := decide_eq_true c48
              clear c48
              have HC49 := Aside0.mk H
              clear H
              obtain ⟨Ao50, co50, eo50⟩ := Kd.R_slice HO_0.out
              subst eo50
              have p218 : 0 ≤ ((ji46) : Int) := of_decide_eq_true (by first | (with_reducible assumption) | assumption)
              have q218 : (ji46) < (t199.length : Int) := of_decide_eq_true (by first | (with_reducible assumption) | assumption)
              obtain ⟨ad218, e218, hx218_0, hx218_1, hx218_2⟩ := at_T33 (Kd.R_reads' HO_0.out).2.2 (ji46) p218 q218
              cases e218
              replace p218 := eq_true p218
              replace q218 := eq_true q218
              go_upto_region 7 with (fail)
              go_cut [56] (fun v56 wc => ∃ (kq : Nat) (x56_48 : Bool), v56 = .bool x56_48 ∧ Aside0 (racewaylaw24_AttributeAll.j1 kq t199 ((rd_T33 t199 (ji46)).f0) x56_48 = some r) ∧ Aside0 (kq ≤ kj3) ∧ Aside0 (Kd.R k33 33 wc w.heap.size (fun _ => True) (.slice (some ad218) t199.length co50) t199) ∧ Aside0 (Below w.heap.size w wc))
              case first =>
                have H := HC49.out
                clear HC49
                replace H := Option.bind_eq_some_iff.mp H
                obtain ⟨t219, A510, H⟩ := H
                replace H : (if t219 = true then (racewaylaw24_AttributeAll.j1 kj3 t199 ((rd_T33 t199 (ji46)).f0) (((rd_T33 t199 (ji46)).f0).toList == ([65, 108, 108] : List UInt8))) else (racewaylaw24_AttributeAll.j1 kj3 t199 ((rd_T33 t199 (ji46)).f0) true)) = some r := H
                have A51 := Aside0.mk A510
                clear A510
                by_cases c52 : t219 = true
                · subst c52
                  have H1 : (racewaylaw24_AttributeAll.j1 kj3 t199 ((rd_T33 t199 (ji46)).f0) (((rd_T33 t199 (ji46)).f0).toList == ([65, 108, 108] : List UInt8))) = some r := by rw [if_pos rfl] at H; exact H
                  clear H
                  have H := H1
                  clear H1
                  have H' := Aside0.mk H
                  clear H
                  go_wp2_with (first | ((with_reducible refine gate_callee (f := 12) rfl ?_); refine goesL_ (some 51) rfl rfl Tryd.func12 (by kernel_rfl) rfl #[.string ((rd_T33 t199 (ji46)).f0)] rfl (by (try simp only [List.map_toArray, List.map_cons, List.map_nil]); first | done | (simp only [hji46]; rfl) | rfl | (simp only [List.length_drop, List.length_take]; rfl)) ?_; (with_reducible refine (attribute_Name.calls kj3 ((rd_T33 t199 (ji46)).f0) true _ ?side1 A51.out).mono ?_); (case side1 => first | exact HGMax.out | exact GlobMax.below HGMax.out (by repeat (first | (with_reducible first | exact HB.out | apply below_alloc | apply pw_below_drewN | apply below_drew1) | exact HB.out)) | exact GlobMax.drawn HGMax.out (by repeat (first | exact Drawn0.refl _ | apply Drawn0.step))); rintro e w' ⟨rfl, ⟨nd, rfl⟩⟩; refine ⟨_, rfl, ?_⟩))
                  go_meet
                  case rel => exact ⟨_, ((((rd_T33 t199 (ji46)).f0).toList == ([65, 108, 108] : List UInt8))), (by first | rfl | (simp; done) | (simp only [← hji46] <;> (first | rfl | simp)) | (simp [*]; done)), (by first | exact H' | (subst_vars; exact H')), ⟨by have := HJ3.out; first | omega | exact Nat.le_refl _⟩, ⟨by (with_reducible repeat (first | apply Kd.R_alloc | apply Kd.R_drewN | apply Kd.R_drew)); exact HO_0.out⟩, ⟨by repeat (first | (with_reducible first | exact HB.out | apply below_alloc | apply pw_below_drewN | apply below_drew1) | exact HB.out)⟩⟩
                · replace c52 := Bool.eq_false_iff.mpr c52
                  subst c52
                  have H1 : (racewaylaw24_AttributeAll.j1 kj3 t199 ((rd_T33 t199 (ji46)).f0) true) = some r := by rw [if_neg (show ¬ (false = true) by decide)] at H; exact H
                  clear H
                  have H := H1
                  clear H1
                  have H' := Aside0.mk H
                  clear H
                  go_wp2_with (first | ((with_reducible refine gate_callee (f := 12) rfl ?_); refine goesL_ (some 51) rfl rfl Tryd.func12 (by kernel_rfl) rfl #[.string ((rd_T33 t199 (ji46)).f0)] rfl (by (try simp only [List.map_toArray, List.map_cons, List.map_nil]); first | done | (simp only [hji46]; rfl) | rfl | (simp only [List.length_drop, List.length_take]; rfl)) ?_; (with_reducible refine (attribute_Name.calls kj3 ((rd_T33 t199 (ji46)).f0) false _ ?side1 A51.out).mono ?_); (case side1 => first | exact HGMax.out | exact GlobMax.below HGMax.out (by repeat (first | (with_reducible first | exact HB.out | apply below_alloc | apply pw_below_drewN | apply below_drew1) | exact HB.out)) | exact GlobMax.drawn HGMax.out (by repeat (first | exact Drawn0.refl _ | apply Drawn0.step))); rintro e w' ⟨rfl, ⟨nd, rfl⟩⟩; refine ⟨_, rfl, ?_⟩))
                  go_meet
                  case rel => exact ⟨_, (true), (by first | rfl | (simp; done) | (simp; decide +kernel) | (simp [*]; done)), (by first | exact H' | (subst_vars; exact H')), ⟨by have := HJ3.out; first | omega | exact Nat.le_refl _⟩, ⟨by (with_reducible repeat (first | apply Kd.R_alloc | apply Kd.R_drewN | apply Kd.R_drew)); exact HO_0.out⟩, ⟨by repeat (first | (with_reducible first | exact HB.out | apply below_alloc | apply pw_below_drewN | apply below_drew1) | exact HB.out)⟩⟩
              case rest =>
                clear HC49
                try clear c1
                try clear c2
                try clear p2
                try clear q2
                try clear hx2
                try clear c4
                try clear c5
                try clear p6
                try clear c7
                try clear c7b0
                try clear c7b1
                try clear c7b2
                try clear c8
                try clear c9
                try clear c9b0
                try clear c9b1
                try clear c9b2
                try clear c12
                try clear c16
                try clear c17
                try clear p21
                try clear q21
                try clear hx21
                try clear c24
                try clear c41
                try clear c42
                try clear c42b0
                try clear c42b1
                try clear c42b2
                try clear c47
                try clear c47b0
                try clear c48
                try clear c48b0
                try clear c52
                try clear hx218_0
                try clear hx218_1
                try clear hx218_2
                try clear p2
                try clear p218
                try clear q218
                obtain ⟨kq, x56_48, rfl, HA, HJ48, HO_0, HB⟩ := hcut
                cases kq with
                | zero => exact absurd HA.out (by simp [racewaylaw24_AttributeAll.j1])
                | succ kj48 =>
                  have H := HA.out
                  clear HA
                  simp only [racewaylaw24_AttributeAll.j1] at H
                  by_cases c53 : x56_48 = true
                  · subst c53
                    have H1 : ((racewaylaw24_works.f kj48).bind fun t220 => (some t220)) = some r := by rw [if_pos rfl] at H; exact H
                    clear H
                    have H := H1
                    clear H1
                    replace H := Option.bind_eq_some_iff.mp H
                    obtain ⟨t220, A540, H⟩ := H
                    replace H : (some t220) = some r := H
                    have A54 := Aside0.mk A540
                    clear A540
                    obtain rfl := Option.some.inj H
                    go_wp2_with (first | ((with_reducible refine gate_callee (f := 16) rfl ?_); refine goesL_ (some 57) rfl rfl Tryd.func16 (by kernel_rfl) rfl #[] rfl (by (try simp only [List.map_toArray, List.map_cons, List.map_nil]); first | done | rfl | (simp only [List.length_drop, List.length_take]; rfl)) ?_; (with_reducible refine (racewaylaw24_works.calls kj48  t220 _ ?side1 ?side2 A54.out).mono ?_); (case side1 => first | exact HGFp.out | exact GlobFp.below HGFp.out (by repeat (first | (with_reducible first | exact HB.out | apply below_alloc | apply pw_below_drewN | apply below_drew1) | exact HB.out)) | exact GlobFp.drawn HGFp.out (by repeat (first | exact Drawn0.refl _ | apply Drawn0.step))); (case side2 => first | exact HGMax.out | exact GlobMax.below HGMax.out (by repeat (first | (with_reducible first | exact HB.out | apply below_alloc | apply pw_below_drewN | apply below_drew1) | exact HB.out)) | exact GlobMax.drawn HGMax.out (by repeat (first | exact Drawn0.refl _ | apply Drawn0.step))); rintro e w55 ⟨rfl, hb⟩; refine ⟨_, rfl, ?_⟩; have n0_ := Aside0.mk (Kd.R_below (by (with_reducible repeat (first | apply Kd.R_alloc | apply Kd.R_drewN | apply Kd.R_drew)); exact HO_0.out) hb); have n1_ := Aside0.mk (below_step (by repeat (first | (with_reducible first | exact HB.out | apply below_alloc | apply pw_below_drewN | apply below_drew1) | exact HB.out)) hb); clear HO_0; clear HB; have HO_0 := n0_; have HB := n1_; clear n0_ n1_; (try clear hb); (try clear hb2); (try clear hk); (try clear hi)))
                    go_ret
                    exact ⟨by first | rfl | (simp [errW_none, errW_some] <;> rfl) | (simp only [← hji46]; first | rfl | (simp [errW_none, errW_some] <;> rfl)) | (simp [*, errW_none, errW_some] <;> rfl), by repeat (first | (with_reducible first | exact HB.out | apply below_alloc | apply pw_below_drewN | apply below_drew1) | exact HB.out)⟩
                  · replace c53 := Bool.eq_false_iff.mpr c53
                    subst c53
                    have H1 : ((attribute_Select.f t199 (([((rd_T33 t199 (ji46)).f0)] : List ByteArray))).bind fun t224 => (racewaylaw24_AttributeAll.l0 kj48 ((rd_T33 t199 (ji46)).f0) t224 (t224.length : Int) 0)) = some r := by rw [if_neg (show ¬ (false = true) by decide)] at H; exact H
                    clear H
                    have H := H1
                    clear H1
                    obtain ⟨y221, hy221⟩ : ∃ y_ : List ByteArray, y_ = (([((rd_T33 t199 (ji46)).f0)] : List ByteArray)) := ⟨_, rfl⟩
                    replace H : ((attribute_Select.f t199 y221).bind fun t224 => (racewaylaw24_AttributeAll.l0 kj48 ((rd_T33 t199 (ji46)).f0) t224 (t224.length : Int) 0)) = some r := by first | (rw [hy221]; with_reducible exact H) | (have H2_ := (Option.bind_some _ _).symm.trans H; rw [hy221]; with_reducible exact H2_) | (have H2_ := (Option.bind_some _ _).symm.trans H; with_reducible exact H2_) | with_reducible exact H | (rw [hy221]; exact H) | exact H
                    have Ny221 := Aside0.mk hy221
                    clear hy221
                    replace H := Option.bind_eq_some_iff.mp H
                    obtain ⟨t224, A560, H⟩ := H
                    replace H : (racewaylaw24_AttributeAll.l0 kj48 ((rd_T33 t199 (ji46)).f0) t224 (t224.length : Int) 0) = some r := H
                    have A56 := Aside0.mk A560
                    clear A560
                    have H' := Aside0.mk H
                    clear H
                    go_wp2_with (first | ((with_reducible refine gate_dst (N := 60) rfl ?_); (try (refine gate_guard (by rfl) ?_; dsimp only)); refine Kd.R_lit Kd.string _ 9 ?hg (N := 60) ?hd (xs := ([((rd_T33 t199 (ji46)).f0)] : List ByteArray)) (inner := [.string ((rd_T33 t199 (ji46)).f0)]) (ok := fun _ => True) (okp := fun _ => True) ?hr ?hp (fun _ hk => hk) trivial (Below.refl _ _) (Nat.le_refl _) (by simp) ?_; (case hd => rfl); (case hg => rfl); (case hr => first | (go_simp; done) | (go_simp; rfl)); (case hp => exact (Reps.one (show Kd.M Kd.string _ _ _ ((rd_T33 t199 (ji46)).f0) [.string ((rd_T33 t199 (ji46)).f0)] from rfl) (Reps.none _ _))); intro v222 w57 ho58 hb hg_ hnew_; clear hg_ hnew_; (first | rw [← Ny221.out] at ho58 | (simp only [Int.reduceToNat] at ho58; rw [← Ny221.out] at ho58)); have n0_ := Aside0.mk (Kd.R_below (by (with_reducible repeat (first | apply Kd.R_alloc | apply Kd.R_drewN | apply Kd.R_drew)); exact HO_0.out) hb); have n1_ := Aside0.mk (Kd.R_lower ho58 (below_size (by repeat (first | (with_reducible first | exact HB.out | apply below_alloc | apply pw_below_drewN | apply below_drew1) | exact HB.out)))); have n2_ := Aside0.mk (below_step (by repeat (first | (with_reducible first | exact HB.out | apply below_alloc | apply pw_below_drewN | apply below_drew1) | exact HB.out)) hb); clear HO_0; clear HB; have HO_0 := n0_; have HO223 := n1_; have HB := n2_; clear n0_ n1_ n2_; clear hb ho58; obtain ⟨Ao59, co59, eo59⟩ := Kd.R_slice HO223.out; subst eo59) | ((with_reducible refine gate_callee (f := 24) rfl ?_); refine goesL_ (some 61) rfl rfl Tryd.func24 (by kernel_rfl) rfl #[.slice (some ad218) t199.length co50, .slice Ao59 y221.length co59] rfl (by (try simp only [List.map_toArray, List.map_cons, List.map_nil]); first | done | rfl | (simp only [List.length_drop, List.length_take]; rfl)) ?_; (with_reducible refine (attribute_Select.calls _ _ t199 _ _ y221 t224 _ ?side1 ?side2 ?side3 ?side4 A56.out).mono ?_); (case side1 => repeat (first | exact (Kd.R_reads' HO_0.out).2.2 | (with_reducible refine Kd.C_alloc ?_ _) | (with_reducible refine Kd.C_drewN ?_ _) | (with_reducible refine Kd.C_drew ?_))); (case side2 => exact (Kd.R_reads' HO_0.out).2.1); (case side3 => repeat (first | exact (Kd.R_reads' HO223.out).2.2 | (with_reducible refine Kd.C_alloc ?_ _) | (with_reducible refine Kd.C_drewN ?_ _) | (with_reducible refine Kd.C_drew ?_))); (case side4 => exact (Kd.R_reads' HO223.out).2.1); rintro e w60 ⟨v225, rfl, ho0, hb⟩; refine ⟨_, rfl, ?_⟩; have n0_ := Aside0.mk (Kd.R_elder' (by (with_reducible repeat (first | apply Kd.R_alloc | apply Kd.R_drewN | apply Kd.R_drew)); exact HO_0.out) (Kd.R_base ho0) hb); have n1_ := Aside0.mk (Kd.R_below (by (with_reducible repeat (first | apply Kd.R_alloc | apply Kd.R_drewN | apply Kd.R_drew)); exact HO223.out) hb); have n2_ := Aside0.mk (Kd.R_lower (Kd.R_new' ho0 (Kd.R_lt (by (with_reducible repeat (first | apply Kd.R_alloc | apply Kd.R_drewN | apply Kd.R_drew)); exact HO_0.out))) (below_size (by repeat (first | (with_reducible first | exact HB.out | apply below_alloc | apply pw_below_drewN | apply below_drew1) | exact HB.out)))); have n3_ := Aside0.mk (below_step (by repeat (first | (with_reducible first | exact HB.out | apply below_alloc | apply pw_below_drewN | apply below_drew1) | exact HB.out)) hb); clear HO_0; clear HO223; clear HB; have HO_0 := n0_; have HO223 := n1_; have HO226 := n2_; have HB := n3_; clear n0_ n1_ n2_ n3_; (try clear hb); (try clear hb2); (try clear hk); (try clear hi); (try clear ho0); obtain ⟨Ao61, co61, eo61⟩ := Kd.R_slice HO226.out; subst eo61))
                    go_loopg [63] kj48 (fun kq v63 w' => ∃ (x63_3 : Int), v63 = .int .i64 x63_3 ∧ Aside0 (racewaylaw24_AttributeAll.l0 kq ((rd_T33 t199 (ji46)).f0) t224 (t224.length : Int) x63_3 = some r) ∧ Aside0 (kq ≤ kj48) ∧ Aside0 (Kd.R k33 33 w' w.heap.size (fun _ => True) (.slice Ao61 t224.length co61) t224) ∧ Aside0 (Below w.heap.size w w'))
                    case atStart => exact ⟨(0), (by first | rfl | (simp; done) | (simp; decide +kernel) | (simp [*]; done)), (by first | exact H' | (subst_vars; exact H')), ⟨Nat.le_refl _⟩, ⟨by (with_reducible repeat (first | apply Kd.R_alloc | apply Kd.R_drewN | apply Kd.R_drew)); exact Kd.R_mono HO226.out (fun _ hk => trivial)⟩, ⟨by repeat (first | (with_reducible first | exact HB.out | apply below_alloc | apply pw_below_drewN | apply below_drew1) | exact HB.out)⟩⟩
                    case round =>
                      clear H'
                      try clear c1
                      try clear c2
                      try clear p2
                      try clear q2
                      try clear hx2
                      try clear c4
                      try clear c5
                      try clear p6
                      try clear c7
                      try clear c7b0
                      try clear c7b1
                      try clear c7b2
                      try clear c8
                      try clear c9
                      try clear c9b0
                      try clear c9b1
                      try clear c9b2
                      try clear c12
                      try clear c16
                      try clear c17
                      try clear p21
                      try clear q21
                      try clear hx21
                      try clear c24
                      try clear c41
                      try clear c42
                      try clear c42b0
                      try clear c42b1
                      try clear c42b2
                      try clear c47
                      try clear c47b0
                      try clear c48
                      try clear c48b0
                      try clear c52
                      try clear c53
                      try clear hx218_0
                      try clear hx218_1
                      try clear hx218_2
                      try clear p2
                      try clear p21
                      try clear p218
                      try clear p6
                      try clear q2
                      try clear q21
                      try clear q218
                      obtain ⟨x63_3, rfl, HA, HK3, HO_61, HB⟩ := hrel
                      cases gk with
                      | zero => exact absurd HA.out (by simp [racewaylaw24_AttributeAll.l0])
                      | succ k3 =>
                        have H := HA.out
                        clear HA
                        simp only [racewaylaw24_AttributeAll.l0] at H
                        by_cases c62 : x63_3 < (t224.length : Int)
                        · rw [if_pos c62] at H
                          have c62b0 : decide (x63_3 < (t224.length : Int)) = true := decide_eq_true c62
                          clear c62
                          by_cases c63 : 0 ≤ x63_3
                          · rw [if_pos c63] at H
                            have c63b0 : decide (0 ≤ x63_3) = true := decide_eq_true c63
                            clear c63
                            by_cases c64 : x63_3 < (t224.length : Int)
                            · rw [if_pos c64] at H
                              have c64b0 : decide (x63_3 < (t224.length : Int)) = true := decide_eq_true c64
                              clear c64
                              by_cases c65 : ((rd_T33 t224 x63_3).f0).toList = ((rd_T33 t199 (ji46)).f0).toList
                              · rw [if_pos c65] at H
                                have c65b0 : (((rd_T33 t224 x63_3).f0).toList == ((rd_T33 t199 (ji46)).f0).toList) = true := beq_iff_eq.mpr c65
                                have c65b1 : (((rd_T33 t224 x63_3).f0).toList != ((rd_T33 t199 (ji46)).f0).toList) = false := bne_eq_false_iff_eq.mpr c65
                                clear c65
                                have H' := Aside0.mk H
                                clear H
                                have p227 : 0 ≤ (x63_3 : Int) := of_decide_eq_true (by first | (with_reducible assumption) | assumption)
                                have q227 : x63_3 < (t224.length : Int) := of_decide_eq_true (by first | (with_reducible assumption) | assumption)
                                obtain ⟨ad227, e227, hx227_0, hx227_1, hx227_2⟩ := at_T33 (Kd.R_reads' HO_61.out).2.2 x63_3 p227 q227
                                cases e227
                                replace p227 := eq_true p227
                                replace q227 := eq_true q227
                                go_wp2_with (first | ((with_reducible refine gate_dst (N := 7) rfl ?_); (try (refine gate_guard (by rfl) ?_; dsimp only)); refine box_event ?hg (N := 7) ?hd (cs := #[.string (⟨#[]⟩ : ByteArray), .string (⟨#[]⟩ : ByteArray), .string (⟨#[]⟩ : ByteArray)]) (t := 33) ?hr ?_; (case hd => rfl); (case hg => rfl); (case hr => first | (go_simp; done) | (go_simp; rfl)); intro gb228 hg w66 hbox hb; have n0_ := Aside0.mk (Kd.R_below (Kd.R_elderB (by (with_reducible repeat (first | apply Kd.R_alloc | apply Kd.R_drewN | apply Kd.R_drew)); exact HO_61.out) gb228 (Nat.le_of_eq hg.symm)) hb); have n1_ := Aside0.mk (below_step (by repeat (first | (with_reducible first | exact HB.out | apply below_alloc | apply pw_below_drewN | apply below_drew1) | exact HB.out)) hb); have n2_ := Aside0.mk (hbox); have n3_ := Aside0.mk ((by rw [hg]; exact (below_size (by repeat (first | (with_reducible first | exact HB.out | apply below_alloc | apply pw_below_drewN | apply below_drew1) | exact HB.out))) : w.heap.size ≤ gb228)); have n4_ := Aside0.mk ((by rw [hg]; exact (below_size (by repeat (first | (with_reducible first | exact HB.out | apply below_alloc | apply pw_below_drewN | apply below_drew1) | exact HB.out))) : w.heap.size ≤ gb228)); clear HO_61; clear HB; have HO_61 := n0_; have HB := n1_; have BK228 := n2_; have GW228 := n3_; have GE228 := n4_; clear n0_ n1_ n2_ n3_ n4_; clear hb hbox hg; have hcz67_0 : w66.cell? ⟨gb228, 0, none⟩ = some (.string (⟨#[]⟩ : ByteArray)) := (blk_cell BK228.out 0).trans rfl; have hcz67_1 : w66.cell? ⟨gb228, 1, none⟩ = some (.string (⟨#[]⟩ : ByteArray)) := (blk_cell BK228.out 1).trans rfl; have hcz67_2 : w66.cell? ⟨gb228, 2, none⟩ = some (.string (⟨#[]⟩ : ByteArray)) := (blk_cell BK228.out 2).trans rfl; have hfz67_0 := blk_frozen BK228.out 0; have hfz67_1 := blk_frozen BK228.out 1; have hfz67_2 := blk_frozen BK228.out 2))
                                go_roundg k3
                                case measure => have := HJ3.out; have := HJ48.out; have := HK3.out; omega
                                case rel => exact ⟨(wrap64 (x63_3 + 1)), (by first | rfl | (simp; done) | (simp; decide +kernel) | (simp [*]; done)), (by first | exact H' | (subst_vars; exact H')), ⟨by have := HJ3.out; have := HJ48.out; have := HK3.out; omega⟩, ⟨by (with_reducible repeat (first | apply Kd.R_alloc | apply Kd.R_drewN | apply Kd.R_drew)); exact Kd.R_mono (Kd.R_far (p := ⟨gb228, 2, none⟩) (Kd.R_far (p := ⟨gb228, 1, none⟩) (Kd.R_far (p := ⟨gb228, 0, none⟩) (Kd.R_mono HO_61.out (fun k_ hk => (⟨hk, hk.2⟩ : _ ∧ k_ ≠ gb228))) (fun _ hk => hk.2) (.string ((rd_T33 t224 x63_3).f0))) (fun _ hk => hk.2) (.string ((rd_T33 t224 x63_3).f1))) (fun _ hk => hk.2) (.string ((rd_T33 t224 x63_3).f2))) (fun _ hk => trivial)⟩, ⟨by repeat (first | (with_reducible first | exact HB.out | apply below_alloc | apply pw_below_drewN | apply below_drew1 | refine below_set ?_ GE228.out) | exact HB.out)⟩⟩
                              · rw [if_neg c65] at H
                                have c65b0 : (((rd_T33 t224 x63_3).f0).toList == ((rd_T33 t199 (ji46)).f0).toList) = false := beq_eq_false_iff_ne.mpr c65
                                have c65b1 : (((rd_T33 t224 x63_3).f0).toList != ((rd_T33 t199 (ji46)).f0).toList) = true := bne_iff_ne.mpr c65
                                obtain rfl := Option.some.inj H
                                have p227 : 0 ≤ (x63_3 : Int) := of_decide_eq_true (by first | (with_reducible assumption) | assumption)
                                have q227 : x63_3 < (t224.length : Int) := of_decide_eq_true (by first | (with_reducible assumption) | assumption)
                                obtain ⟨ad227, e227, hx227_0, hx227_1, hx227_2⟩ := at_T33 (Kd.R_reads' HO_61.out).2.2 x63_3 p227 q227
                                cases e227
                                replace p227 := eq_true p227
                                replace q227 := eq_true q227
                                go_wp2_with (first | ((with_reducible refine gate_dst (N := 7) rfl ?_); (try (refine gate_guard (by rfl) ?_; dsimp only)); refine box_event ?hg (N := 7) ?hd (cs := #[.string (⟨#[]⟩ : ByteArray), .string (⟨#[]⟩ : ByteArray), .string (⟨#[]⟩ : ByteArray)]) (t := 33) ?hr ?_; (case hd => rfl); (case hg => rfl); (case hr => first | (go_simp; done) | (go_simp; rfl)); intro gb228 hg w68 hbox hb; have n0_ := Aside0.mk (Kd.R_below (Kd.R_elderB (by (with_reducible repeat (first | apply Kd.R_alloc | apply Kd.R_drewN | apply Kd.R_drew)); exact HO_61.out) gb228 (Nat.le_of_eq hg.symm)) hb); have n1_ := Aside0.mk (below_step (by repeat (first | (with_reducible first | exact HB.out | apply below_alloc | apply pw_below_drewN | apply below_drew1) | exact HB.out)) hb); have n2_ := Aside0.mk (hbox); have n3_ := Aside0.mk ((by rw [hg]; exact (below_size (by repeat (first | (with_reducible first | exact HB.out | apply below_alloc | apply pw_below_drewN | apply below_drew1) | exact HB.out))) : w.heap.size ≤ gb228)); have n4_ := Aside0.mk ((by rw [hg]; exact (below_size (by repeat (first | (with_reducible first | exact HB.out | apply below_alloc | apply pw_below_drewN | apply below_drew1) | exact HB.out))) : w.heap.size ≤ gb228)); clear HO_61; clear HB; have HO_61 := n0_; have HB := n1_; have BK228 := n2_; have GW228 := n3_; have GE228 := n4_; clear n0_ n1_ n2_ n3_ n4_; clear hb hbox hg; have hcz69_0 : w68.cell? ⟨gb228, 0, none⟩ = some (.string (⟨#[]⟩ : ByteArray)) := (blk_cell BK228.out 0).trans rfl; have hcz69_1 : w68.cell? ⟨gb228, 1, none⟩ = some (.string (⟨#[]⟩ : ByteArray)) := (blk_cell BK228.out 1).trans rfl; have hcz69_2 : w68.cell? ⟨gb228, 2, none⟩ = some (.string (⟨#[]⟩ : ByteArray)) := (blk_cell BK228.out 2).trans rfl; have hfz69_0 := blk_frozen BK228.out 0; have hfz69_1 := blk_frozen BK228.out 1; have hfz69_2 := blk_frozen BK228.out 2))
                                go_ret
                                exact ⟨by first | rfl | (simp [errW_none, errW_some] <;> rfl) | (simp only [← hji46]; first | rfl | (simp [errW_none, errW_some] <;> rfl)) | (simp [*, errW_none, errW_some] <;> rfl), by repeat (first | (with_reducible first | exact HB.out | apply below_alloc | apply pw_below_drewN | apply below_drew1 | refine below_set ?_ GE228.out) | exact HB.out)⟩
                            · rw [if_neg c64] at H
                              exact absurd H (by simp)
                          · rw [if_neg c63] at H
                            exact absurd H (by simp)
                        · rw [if_neg c62] at H
                          have c62b0 : decide (x63_3 < (t224.length : Int)) = false := decide_eq_false c62
                          clear c62
                          replace H := Option.bind_eq_some_iff.mp H
                          obtain ⟨t229, A700, H⟩ := H
                          replace H : (some t229) = some r := H
                          have A70 := Aside0.mk A700
                          clear A700
                          obtain rfl := Option.some.inj H
                          go_wp2_with (first | ((with_reducible refine gate_callee (f := 16) rfl ?_); refine goesL_ (some 72) rfl rfl Tryd.func16 (by kernel_rfl) rfl #[] rfl (by (try simp only [List.map_toArray, List.map_cons, List.map_nil]); first | done | rfl | (simp only [List.length_drop, List.length_take]; rfl)) ?_; (with_reducible refine (racewaylaw24_works.calls k3  t229 _ ?side1 ?side2 A70.out).mono ?_); (case side1 => first | exact HGFp.out | exact GlobFp.below HGFp.out (by repeat (first | (with_reducible first | exact HB.out | apply below_alloc | apply pw_below_drewN | apply below_drew1) | exact HB.out)) | exact GlobFp.drawn HGFp.out (by repeat (first | exact Drawn0.refl _ | apply Drawn0.step))); (case side2 => first | exact HGMax.out | exact GlobMax.below HGMax.out (by repeat (first | (with_reducible first | exact HB.out | apply below_alloc | apply pw_below_drewN | apply below_drew1) | exact HB.out)) | exact GlobMax.drawn HGMax.out (by repeat (first | exact Drawn0.refl _ | apply Drawn0.step))); rintro e w71 ⟨rfl, hb⟩; refine ⟨_, rfl, ?_⟩; have n0_ := Aside0.mk (Kd.R_below (by (with_reducible repeat (first | apply Kd.R_alloc | apply Kd.R_drewN | apply Kd.R_drew)); exact HO_61.out) hb); have n1_ := Aside0.mk (below_step (by repeat (first | (with_reducible first | exact HB.out | apply below_alloc | apply pw_below_drewN | apply below_drew1) | exact HB.out)) hb); clear HO_61; clear HB; have HO_61 := n0_; have HB := n1_; clear n0_ n1_; (try clear hb); (try clear hb2); (try clear hk); (try clear hi)))
                          go_ret
                          exact ⟨by first | rfl | (simp [errW_none, errW_some] <;> rfl) | (simp only [← hji46]; first | rfl | (simp [errW_none, errW_some] <;> rfl)) | (simp [*, errW_none, errW_some] <;> rfl), by repeat (first | (with_reducible first | exact HB.out | apply below_alloc | apply pw_below_drewN | apply below_drew1) | exact HB.out)⟩
            · rw [if_neg c48] at H
              exact absurd H (by simp)
          · rw [if_neg c47] at H
            exact absurd H (by simp)

end Go.Proofs.YtolpefnedpgaaaaDoor.X

namespace Go.Proofs.YtolpefnedpgaaaaDoor.Pure
open Go.RowKit Go.Proofs.YtolpefnedpgaaaaDoor.X Go.Proofs.YtolpefnedpgaaaaDoorW.PrintWords Go.Proofs.YtolpefnedpgaaaaDoorW.PrintLast
set_option linter.unusedVariables false
set_option linter.unusedSimpArgs false
theorem select_eq (L : List S33) (hL : small L) (P : List ByteArray) (h1 : P.length ≤ 10) (h2 : ∀ p ∈ P, p.size ≤ 100) : attribute_Select.f L P = some (L.filter fun x => P.any (fitsB x.f0)) := by
  unfold attribute_Select.f
  rw [if_pos ⟨by have := hL.1; omega, by omega, fun p hp => by have := h2 p hp; omega⟩]
theorem no_star (p : ByteArray) (h : nameB p = true) : Lib.hasSuffix p.data.toList [46, 42] = false ∧ (p.toList == ([46, 42] : List UInt8)) = false := by
  have hall : p.data.toList.all letter8 = true := by
    unfold nameB at h
    simp only [Bool.and_eq_true] at h
    exact h.1.1.1.1.1.2
  have h42 : (42 : UInt8) ∉ p.data.toList := fun hm => by
    have := List.all_eq_true.1 hall 42 hm
    revert this
    decide
  refine ⟨?_, ?_⟩
  · rw [Bool.eq_false_iff]
    intro hs
    unfold Lib.hasSuffix at hs
    rw [List.isSuffixOf_iff_suffix] at hs
    exact h42 (hs.subset (by simp))
  · rw [beq_eq_false_iff_ne, ByteArray.toList_eq]
    intro he
    rw [he] at h42
    exact h42 (by simp)
theorem all_l0 (nm : ByteArray) (L : List S33) (hL : ∀ x ∈ L, x.f0.toList = nm.toList) (h14 : L.length ≤ 14) : ∀ (d k i : Nat), i + d = L.length → 5000 + d < k → racewaylaw24_AttributeAll.l0 k nm L (L.length : Int) (i : Int) = some true := by
  intro d
  induction d with
  | zero =>
    intro k i h hk
    obtain ⟨k, rfl⟩ : ∃ m, k = m + 1 := ⟨k - 1, by omega⟩
    simp only [racewaylaw24_AttributeAll.l0]
    rw [if_neg (by omega), works_eq k (by omega)]
    rfl
  | succ d ih =>
    intro k i h hk
    obtain ⟨k, rfl⟩ : ∃ m, k = m + 1 := ⟨k - 1, by omega⟩
    simp only [racewaylaw24_AttributeAll.l0]
    rw [if_pos (by omega), if_pos (by omega), if_pos (by omega), rd33, if_pos, w64 (by omega) (by omega), show ((i : Int) + 1) = ((i + 1 : Nat) : Int) by omega]
    · exact ih k (i + 1) (by omega) (by omega)
    · apply hL
      simp only [List.getD, List.getElem?_eq_getElem (show i < L.length by omega), Option.getD_some]
      exact List.getElem_mem _
theorem all_j1 (L : List S33) (hL : small L) (nm : ByteArray) (hn : nm.size ≤ 100) (b : Bool) (hb : b = false → nameB nm = true ∧ nm.toList ≠ ([65, 108, 108] : List UInt8)) (k : Nat) (hk : 6000 < k) : racewaylaw24_AttributeAll.j1 k L nm b = some true := by
  obtain ⟨k, rfl⟩ : ∃ m, k = m + 1 := ⟨k - 1, by omega⟩
  simp only [racewaylaw24_AttributeAll.j1]
  cases b
  · obtain ⟨h1, h2⟩ := hb rfl
    obtain ⟨h3, h4⟩ := no_star nm h1
    rw [select_eq L hL [nm] (by simp) (by simpa using hn)]
    simp only [Bool.false_eq_true, if_false, Option.bind_some]
    refine all_l0 nm _ (fun x hx => ?_) (Nat.le_trans (List.length_filter_le _ _) hL.1) _ k 0 (Nat.zero_add _) (by have := List.length_filter_le (fun x : S33 => [nm].any (fitsB x.f0)) L; have := hL.1; omega)
    have := (List.mem_filter.1 hx).2
    simp only [List.any_cons, List.any_nil, Bool.or_false] at this
    unfold fitsB at this
    rw [h3, h4] at this
    have h5 : (nm.toList == ([65, 108, 108] : List UInt8)) = false := by simpa using h2
    rw [h5] at this
    simpa using this
  · rw [if_pos rfl, works_eq k (by omega)]
    rfl
theorem all_j0 (L : List S33) (hL : small L) (a : Int) (h0 : -9223372036854775808 ≤ a) (h1 : a ≤ 9223372036854775807) (k : Nat) (hk : 6010 < k) : racewaylaw24_AttributeAll.j0 k L a false = some true := by
  obtain ⟨k, rfl⟩ : ∃ m, k = m + 1 := ⟨k - 1, by omega⟩
  have h14 := hL.1
  simp only [racewaylaw24_AttributeAll.j0, Bool.false_eq_true, if_false]
  by_cases hz : (L.length : Int) = 0
  · rw [if_pos hz, works_eq k (by omega)]
    rfl
  · rw [if_neg hz]
    have hpos : (0 : Int) < (L.length : Int) := by omega
    have t1 := Int.tmod_lt_of_pos a hpos
    have t0 : -(L.length : Int) < Int.tmod a (L.length : Int) := by
      have := Int.tmod_lt_of_pos (-a) hpos
      rw [Int.neg_tmod] at this
      omega
    rw [w64 (by omega) (by omega)]
    generalize Int.tmod a (L.length : Int) = r at t0 t1
    have u1 := Int.tmod_lt_of_pos (r + (L.length : Int)) hpos
    have u0 := Int.tmod_nonneg (L.length : Int) (show 0 ≤ r + (L.length : Int) by omega)
    generalize Int.tmod (r + (L.length : Int)) (L.length : Int) = q at u0 u1
    obtain ⟨q, rfl⟩ := Int.eq_ofNat_of_zero_le u0
    rw [if_pos u0, if_pos u1, rd33]
    have hs := small_at hL q (by omega)
    generalize (L.getD q z33).f0 = nm at hs
    rw [Name_eq nm (by omega) k (by omega)]
    simp only [Option.bind_some]
    cases hnm : nameB nm
    · simp only [Bool.false_eq_true, if_false]
      exact all_j1 L hL nm hs.1 true (fun h => by simp at h) k (by omega)
    · simp only [if_true]
      exact all_j1 L hL nm hs.1 _ (fun h => ⟨hnm, by simpa using h⟩) k (by omega)
theorem AttributeAll : ∀ (l : List S33) (a : Int), l.length ≤ maxLen → (Lit.int .i64 a).wf = true → ∃ k, racewaylaw24_AttributeAll.f k l a = some true := by
  intro l a _ ha
  have hr : -9223372036854775808 ≤ a ∧ a ≤ 9223372036854775807 := by
    simp [Lit.wf, IntKind.min, IntKind.max, IntKind.signed, IntKind.bits] at ha
    omega
  have key : ∀ k, 7000 < k → racewaylaw24_AttributeAll.f k l a = some true := by
    intro k hk
    have hL := fewB_small l
    unfold racewaylaw24_AttributeAll.f
    rw [few_eq l k (by omega)]
    generalize fewB l = L at hL
    simp only [Option.bind_some]
    rw [select_eq L hL [⟨#[65, 108, 108]⟩] (by simp) (by decide), select_eq L hL [⟨#[120]⟩, ⟨#[46, 42]⟩] (by simp) (by decide), select_eq L hL [] (by simp) (by simp)]
    have e1 : (L.filter fun x => [(⟨#[65, 108, 108]⟩ : ByteArray)].any (fitsB x.f0)) = L := by
      rw [List.filter_eq_self]
      intro x _
      simp only [List.any_cons, List.any_nil, Bool.or_false]
      unfold fitsB
      rw [show ((⟨#[65, 108, 108]⟩ : ByteArray).toList == ([65, 108, 108] : List UInt8)) = true by decide +kernel]
      rfl
    have e2 : (L.filter fun x => [(⟨#[120]⟩ : ByteArray), ⟨#[46, 42]⟩].any (fitsB x.f0)) = L := by
      rw [List.filter_eq_self]
      intro x _
      simp only [List.any_cons, List.any_nil, Bool.or_false]
      have : fitsB x.f0 ⟨#[46, 42]⟩ = true := by
        unfold fitsB
        rw [show ((⟨#[46, 42]⟩ : ByteArray).toList == ([46, 42] : List UInt8)) = true by decide +kernel]
        simp
      rw [this]; simp
    have e3 : (L.filter fun x => ([] : List ByteArray).any (fitsB x.f0)) = [] := by simp
    rw [e1, e2, e3]
    simp only [Option.bind_some, if_true]
    exact all_j0 L hL a hr.1 hr.2 k (by omega)
  exact ⟨7001, key 7001 (by omega)⟩
end Go.Proofs.YtolpefnedpgaaaaDoor.Pure

