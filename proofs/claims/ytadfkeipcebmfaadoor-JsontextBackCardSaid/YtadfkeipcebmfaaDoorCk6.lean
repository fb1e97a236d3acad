/-
  What the claim's law rests on, part 6 of 7: printed walks, externals, plain lemmas; conditions: none of its own.
-/
import Derived.Handed
import Derived.HandedShaped
import Derived.Lib.LaidU8T
import Derived.Lib.TrimUEq
import Derived.Lib.ValidLaws
import Derived.Test.YtadfkeipcebmfaaDoorCk5
namespace Go.Proofs.YtadfkeipcebmfaaDoor.X
open Go.RowKit Go.Proofs.YtadfkeipcebmfaaDoorW.PrintWords Go.Proofs.YtadfkeipcebmfaaDoorW.PrintLast Go.Proofs.YtadfkeipcebmfaaDoorW.PrintMore
attribute [local go_sem] max2_int min2_int max_two min_two max_three min_three max_four min_four   -- for this text's walks alone
set_option linter.unusedVariables false
set_option linter.unusedSimpArgs false

mutual
def racewaylaw25_JsontextBack.j0 : Nat → List (S46) → Option (Bool)
  | 0, _ => none
  | k + 1, x1 => (jsontext_Print.f x1).bind fun bt182 => (if bt182.2 = 0 then (racewaylaw25_JsontextBack.j1 k x1 bt182.1 (decide ((bt182.1.size : Int) ≤ 65536))) else (racewaylaw25_JsontextBack.j1 k x1 bt182.1 false))
def racewaylaw25_JsontextBack.j1 : Nat → List (S46) → ByteArray → Bool → Option (Bool)
  | 0, _, _, _ => none
  | k + 1, x1, x15, x88 => if x88 = true then ((jsontext_Parse.f x15).bind fun bt184 => (if bt184.2.2 = 0 then ((racewayref25_Same.f k x1 bt184.1).bind fun t189 => (if t189 = true then ((racewaylaw25_works.f).bind fun t190 => (some t190)) else (some false))) else (some false))) else ((racewaylaw25_works.f).bind fun t191 => (some t191))
end
def racewaylaw25_JsontextBack.f (k : Nat) (a0 : ByteArray) (l1 : List (S46)) : Option (Bool) := if 0 ≤ (mn (a0.size : Int) 2000) then (if (mn (a0.size : Int) 2000) ≤ (a0.size : Int) then ((racewaylaw25_few.f k l1).bind fun t163 => ((jsontext_Parse.f (a0.extract 0 ((mn (a0.size : Int) 2000) : Int).toNat)).bind fun bt166 => (if bt166.2.2 = 0 then ((jsontext_Print.f bt166.1).bind fun bt171 => ((jsontext_Parse.f bt171.1).bind fun bt173 => ((jsontext_Print.f bt173.1).bind fun bt178 => ((jsontext_Check.f k bt166.1).bind fun t180 => (if t180 = 0 then (if bt171.2 = 0 then (if bt173.2.2 = 0 then (if bt178.2 = 0 then ((racewayref25_Same.f k bt166.1 bt173.1).bind fun t181 => (if t181 = true then (if bt171.1.toList = bt178.1.toList then (racewaylaw25_JsontextBack.j0 k t163) else (some false)) else (some false))) else (some false)) else (some false)) else (some false)) else (some false)))))) else (racewaylaw25_JsontextBack.j0 k t163)))) else (none)) else (none)
def racewaylaw25_JsontextBack.T1 : Bool × List (List Nat × List Nat) := (true, [([], []), ([], []), ([1], [1]), ([2], [2]), ([0, 3], [0, 3]), ([], []), ([5], [5]), ([4, 6, 0, 1, 2, 3, 4], [0, 1, 4]), ([6, 7, 0, 1, 2, 3, 4, 5, 6, 7], [5, 6])])
def racewaylaw25_JsontextBack.B1 : List Nat := [0, 0, 2, 6, 15, 0, 32, 127, 255]
theorem racewaylaw25_JsontextBack.tab1 : rtab .any (opsOf Tryd.f4 1) = racewaylaw25_JsontextBack.T1 := by kernel_rfl
theorem racewaylaw25_JsontextBack.bits1 : waitsOk racewaylaw25_JsontextBack.T1.2 racewaylaw25_JsontextBack.B1 = true := by kernel_rfl
set_option maxHeartbeats 8000000 in
set_option maxRecDepth 100000 in
theorem racewaylaw25_JsontextBack.calls (k : Nat) (a0 : ByteArray) (A1 : Option Addr) (c1 : Nat) (l1 : List (S46)) (r : Bool) (w : World) (hGU8 : GlobU8 w) (hr1 : Kd.C k46 w A1 l1.length l1) (hc1 : l1.length ≤ c1) (h : racewaylaw25_JsontextBack.f k a0 l1 = some r) :
    Calls Tryd.prog 4 #[.string a0, .slice A1 l1.length c1] w fun e w' => e = .returned (.bool r) ∧ Below w.heap.size w w' := by
  have HGU8 := Aside0.mk hGU8
  clear hGU8
  have HR1 := Aside0.mk hr1
  have HC1 := Aside0.mk hc1
  clear hr1 hc1
  have HB := Aside0.mk (Below.refl w.heap.size w)
  have H : (if 0 ≤ (mn (a0.size : Int) 2000) then (if (mn (a0.size : Int) 2000) ≤ (a0.size : Int) then ((racewaylaw25_few.f k l1).bind fun t163 => ((jsontext_Parse.f (a0.extract 0 ((mn (a0.size : Int) 2000) : Int).toNat)).bind fun bt166 => (if bt166.2.2 = 0 then ((jsontext_Print.f bt166.1).bind fun bt171 => ((jsontext_Parse.f bt171.1).bind fun bt173 => ((jsontext_Print.f bt173.1).bind fun bt178 => ((jsontext_Check.f k bt166.1).bind fun t180 => (if t180 = 0 then (if bt171.2 = 0 then (if bt173.2.2 = 0 then (if bt178.2 = 0 then ((racewayref25_Same.f k bt166.1 bt173.1).bind fun t181 => (if t181 = true then (if bt171.1.toList = bt178.1.toList then (racewaylaw25_JsontextBack.j0 k t163) else (some false)) else (some false))) else (some false)) else (some false)) else (some false)) else (some false)))))) else (racewaylaw25_JsontextBack.j0 k t163)))) else (none)) else (none)) = some r := h
  clear h
  obtain ⟨ji3, hji3⟩ : ∃ j_ : Int, (mn (a0.size : Int) 2000) = j_ := ⟨_, rfl⟩
  replace H : (if 0 ≤ (ji3) then (if (ji3) ≤ (a0.size : Int) then ((racewaylaw25_few.f k l1).bind fun t163 => ((jsontext_Parse.f (a0.extract 0 ((ji3) : Int).toNat)).bind fun bt166 => (if bt166.2.2 = 0 then ((jsontext_Print.f bt166.1).bind fun bt171 => ((jsontext_Parse.f bt171.1).bind fun bt173 => ((jsontext_Print.f bt173.1).bind fun bt178 => ((jsontext_Check.f k bt166.1).bind fun t180 => (if t180 = 0 then (if bt171.2 = 0 then (if bt173.2.2 = 0 then (if bt178.2 = 0 then ((racewayref25_Same.f k bt166.1 bt173.1).bind fun t181 => (if t181 = true then (if bt171.1.toList = bt178.1.toList then (racewaylaw25_JsontextBack.j0 k t163) else (some false)) else (some false))) else (some false)) else (some false)) else (some false)) else (some false)))))) else (racewaylaw25_JsontextBack.j0 k t163)))) else (none)) else (none)) = some r := by first | (rw [hji3] at H; exact H) | (simp only [hji3] at H ⊢; exact H)
  (try (have hji3h : ji3 ≤ 2000 := by (rw [← hji3]; unfold mn; (repeat' split) <;> omega)))
  (try (have hji3g : ji3 ≤ 64 := by omega))
  (try (have hji3l : 0 ≤ ji3 := by (rw [← hji3]; unfold mn; (repeat' split) <;> omega)))
  (try (have hji3m : 0 ≤ ji3 := by omega))
  have hji3_ : (if 2000 < (a0.size : Int) then 2000 else (a0.size : Int)) = ji3 := hji3
  by_cases c4 : 0 ≤ (ji3)
  · rw [if_pos c4] at H
    have c4b0 := eq_true c4
    have c4b1 : decide (0 ≤ (ji3)) = true := decide_eq_true c4
    clear c4
    by_cases c5 : (ji3) ≤ (a0.size : Int)
    · rw [if_pos c5] at H
      have c5b0 := eq_true c5
      have c5b1 : decide ((ji3) ≤ (a0.size : Int)) = true := decide_eq_true c5
      clear c5
      replace H := Option.bind_eq_some_iff.mp H
      obtain ⟨t163, A60, H⟩ := H
      replace H : ((jsontext_Parse.f (a0.extract 0 ((ji3) : Int).toNat)).bind fun bt166 => (if bt166.2.2 = 0 then ((jsontext_Print.f bt166.1).bind fun bt171 => ((jsontext_Parse.f bt171.1).bind fun bt173 => ((jsontext_Print.f bt173.1).bind fun bt178 => ((jsontext_Check.f k bt166.1).bind fun t180 => (if t180 = 0 then (if bt171.2 = 0 then (if bt173.2.2 = 0 then (if bt178.2 = 0 then ((racewayref25_Same.f k bt166.1 bt173.1).bind fun t181 => (if t181 = true then (if bt171.1.toList = bt178.1.toList then (racewaylaw25_JsontextBack.j0 k t163) else (some false)) else (some false))) else (some false)) else (some false)) else (some false)) else (some false)))))) else (racewaylaw25_JsontextBack.j0 k t163))) = some r := H
      have A6 := Aside0.mk A60
      clear A60
      replace H := Option.bind_eq_some_iff.mp H
      obtain ⟨⟨t166, t167, t168⟩, A70, H⟩ := H
      replace H : (if t168 = 0 then ((jsontext_Print.f t166).bind fun bt171 => ((jsontext_Parse.f bt171.1).bind fun bt173 => ((jsontext_Print.f bt173.1).bind fun bt178 => ((jsontext_Check.f k t166).bind fun t180 => (if t180 = 0 then (if bt171.2 = 0 then (if bt173.2.2 = 0 then (if bt178.2 = 0 then ((racewayref25_Same.f k t166 bt173.1).bind fun t181 => (if t181 = true then (if bt171.1.toList = bt178.1.toList then (racewaylaw25_JsontextBack.j0 k t163) else (some false)) else (some false))) else (some false)) else (some false)) else (some false)) else (some false)))))) else (racewaylaw25_JsontextBack.j0 k t163)) = some r := H
      have A7 := Aside0.mk A70
      clear A70
      have HC8 := Aside0.mk H
      clear H
      go_enter Tryd.func4, Tryd.ntmps4
      try go_wp2
      have n0_ := Aside0.mk (below_drew1 HB.out)
      clear HB
      have HB := n0_
      clear n0_
      refine start_ (n := 9) (S := fun w' => True) (ds := []) #[false, false, false, false, false, false, false, false, false] (by kernel_rfl) rfl rfl trivial (fun hHeld => ?_); refine with_tabW racewaylaw25_JsontextBack.tab1 racewaylaw25_JsontextBack.bits1 (fun HT_ HW_ => ?_)
      generalize w.drew = w9 at HB hHeld ⊢
      refine pure_ (i := 0) (N := some 20) (v := ?_) (a' := ?_) #[true, false, false, false, false, false, false, false, false] rfl rfl (any_of HT_.out (by kernel_rfl)) (fun _ _ _ h => h) (Or.inl ⟨by rfl, ?_⟩) ?_ ?_
      rotate_left
      · intro w'
        go_simp
        with_reducible rfl
      rotate_left
      · simp only [Act.put, List.setIfInBounds_toArray, List.set_cons_zero, List.set_cons_succ, i64_w, i32_w]
        rfl
      refine pure_ (i := 1) (N := some 21) (v := ?_) (a' := ?_) #[true, true, false, false, false, false, false, false, false] rfl rfl (any_of HT_.out (by kernel_rfl)) (fun _ _ _ h => h) (Or.inl ⟨by rfl, ?_⟩) ?_ ?_
      rotate_left
      · intro w'
        go_simp
        with_reducible rfl
      rotate_left
      · simp only [Act.put, List.setIfInBounds_toArray, List.set_cons_zero, List.set_cons_succ, i64_w, i32_w]
        rfl
      refine pure_ (i := 2) (N := some 22) (v := ?_) (a' := ?_) #[true, true, true, false, false, false, false, false, false] rfl rfl (any_of HT_.out (by kernel_rfl)) (fun _ _ _ h => h) (Or.inl ⟨by rfl, ?_⟩) ?_ ?_
      rotate_left
      · intro w'
        go_simp
        with_reducible rfl
      rotate_left
      · simp only [Act.put, List.setIfInBounds_toArray, List.set_cons_zero, List.set_cons_succ, i64_w, i32_w]
        rfl
      refine pure_ (i := 3) (N := some 23) (v := ?_) (a' := ?_) #[true, true, true, true, false, false, false, false, false] rfl rfl (any_of HT_.out (by kernel_rfl)) (fun _ _ _ h => h) (Or.inl ⟨by rfl, ?_⟩) ?_ ?_
      rotate_left
      · intro w'
        go_simp
        with_reducible rfl
      rotate_left
      · simp only [Act.put, List.setIfInBounds_toArray, List.set_cons_zero, List.set_cons_succ, i64_w, i32_w]
        rfl
      refine pure_ (i := 4) (N := some 24) (v := ?_) (a' := ?_) #[true, true, true, true, true, false, false, false, false] rfl rfl (any_of HT_.out (by kernel_rfl)) (fun _ _ _ h => h) (Or.inl ⟨by rfl, ?_⟩) ?_ ?_
      rotate_left
      · intro w'
        go_simp
        with_reducible rfl
      rotate_left
      · simp only [Act.put, List.setIfInBounds_toArray, List.set_cons_zero, List.set_cons_succ, i64_w, i32_w]
        rfl
      refine pure_ (i := 5) (N := some 25) (v := ?_) (a' := ?_) #[true, true, true, true, true, true, false, false, false] rfl rfl (any_of HT_.out (by kernel_rfl)) (fun _ _ _ h => h) (Or.inl ⟨by rfl, ?_⟩) ?_ ?_
      rotate_left
      · intro w'
        go_simp
        with_reducible rfl
      rotate_left
      · simp only [Act.put, List.setIfInBounds_toArray, List.set_cons_zero, List.set_cons_succ, i64_w, i32_w]
        rfl
      refine one_ (i := 6) (N := some 26) #[true, true, true, true, true, true, true, false, false] rfl rfl (one_of HT_.out (by kernel_rfl)) (by decide) (fun K hK => ?_)
      refine goes_ Tryd.func14 (by kernel_rfl) rfl #[.slice A1 l1.length c1] (by rfl) rfl rfl (by (try simp only [List.map_toArray, List.map_cons, List.map_nil]); first | done | rfl | (simp only [List.length_drop, List.length_take]; rfl)) ?_
      with_reducible refine (racewaylaw25_few.calls k _ _ l1 t163 _ ?side1 ?side2 A6.out).mono ?_
      (case side1 => repeat (first | exact (Kd.C_below HR1.out HB.out) | (with_reducible refine Kd.C_alloc ?_ _) | (with_reducible refine Kd.C_drewN ?_ _) | (with_reducible refine Kd.C_drew ?_)))
      (case side2 => exact HC1.out)
      rintro e w10 ⟨v164, rfl, ho0, hb⟩
      refine ⟨_, rfl, ?_⟩
      have n0_ := Aside0.mk (Kd.R_lower ho0 (below_size (by repeat (first | (with_reducible first | exact HB.out | apply below_alloc | apply pw_below_drewN | apply below_drew1) | exact HB.out))))
      have n1_ := Aside0.mk (below_step (by repeat (first | (with_reducible first | exact HB.out | apply below_alloc | apply pw_below_drewN | apply below_drew1) | exact HB.out)) hb)
      clear HB
      have HO165 := n0_
      have HB := n1_
      clear n0_ n1_
      (try clear hb)
      (try clear hb2)
      (try clear hk)
      (try clear hi)
      (try clear ho0)
      refine hK.out _ _ trivial (fun hHeld => ?_)
      clear hK K
      refine norm_ (a' := ?_) ?_ ?_
      rotate_left
      · show Act.put _ (some 26) _ = _
        simp only [Act.put, List.setIfInBounds_toArray, List.set_cons_zero, List.set_cons_succ, i64_w, i32_w]
        rfl
      refine pure_ (i := 7) (N := some 0) (v := ?_) (a' := ?_) #[true, true, true, true, true, true, true, true, false] rfl rfl (any_of HT_.out (by kernel_rfl)) (fun _ _ _ h => h) (Or.inl ⟨by rfl, ?_⟩) ?_ ?_
      rotate_left
      · intro w'
        go_simp
        with_reducible rfl
      rotate_left
      · simp only [Act.put, List.setIfInBounds_toArray, List.set_cons_zero, List.set_cons_succ, i64_w, i32_w]
        rfl
      refine pure_ (i := 8) (N := some 1) (v := ?_) (a' := ?_) #[true, true, true, true, true, true, true, true, true] rfl rfl (any_of HT_.out (by kernel_rfl)) (fun _ _ _ h => h) (Or.inl ⟨by rfl, ?_⟩) ?_ ?_
      rotate_left
      · intro w'
        go_simp
        with_reducible rfl
      rotate_left
      · simp only [Act.put, List.setIfInBounds_toArray, List.set_cons_zero, List.set_cons_succ, i64_w, i32_w]
        rfl
      refine done_ (done_of HT_.out (by kernel_rfl)) ?_
      go_upto_if 34 with (first | ((with_reducible refine gate_callee (f := 10) rfl ?_); refine goesL_ (some 29) rfl rfl Tryd.func10 (by kernel_rfl) rfl #[.string (a0.extract 0 ((ji3) : Int).toNat)] rfl (by (try simp only [List.map_toArray, List.map_cons, List.map_nil]); first | done | (simp only [hji3]; rfl) | rfl | (simp only [List.length_drop, List.length_take]; rfl)) ?_; (with_reducible refine (jsontext_Parse.calls (a0.extract 0 ((ji3) : Int).toNat) t166 t167 t168 _ ?side1 A7.out).mono ?_); (case side1 => first | exact HGU8.out | exact GlobU8.below HGU8.out (by repeat (first | (with_reducible first | exact HB.out | apply below_alloc | apply pw_below_drewN | apply below_drew1) | exact HB.out)) | exact GlobU8.drawn HGU8.out (by repeat (first | exact Drawn0.refl _ | apply Drawn0.step))); rintro e w11 ⟨v169, rfl, ho0, hb⟩; refine ⟨_, rfl, ?_⟩; have n0_ := Aside0.mk (Kd.R_elder' (by (with_reducible repeat (first | apply Kd.R_alloc | apply Kd.R_drewN | apply Kd.R_drew)); exact HO165.out) (Kd.R_base ho0) hb); have n1_ := Aside0.mk (Kd.R_lower (Kd.R_new' ho0 (Kd.R_lt (by (with_reducible repeat (first | apply Kd.R_alloc | apply Kd.R_drewN | apply Kd.R_drew)); exact HO165.out))) (below_size (by repeat (first | (with_reducible first | exact HB.out | apply below_alloc | apply pw_below_drewN | apply below_drew1) | exact HB.out)))); have n2_ := Aside0.mk (below_step (by repeat (first | (with_reducible first | exact HB.out | apply below_alloc | apply pw_below_drewN | apply below_drew1) | exact HB.out)) hb); clear HO165; clear HB; have HO165 := n0_; have HO170 := n1_; have HB := n2_; clear n0_ n1_ n2_; (try clear hb); (try clear hb2); (try clear hk); (try clear hi); (try clear ho0)))
      (try simp only [Act.put, List.setIfInBounds_toArray, List.set_cons_zero, List.set_cons_succ])
      go_cut [] (fun wc => ∃ (kq : Nat), Aside0 (racewaylaw25_JsontextBack.j0 kq t163 = some r) ∧ Aside0 (kq ≤ k) ∧ Aside0 (Kd.R k46 46 wc w.heap.size (fun _ => True) v164 t163) ∧ Aside0 (Below w.heap.size w wc))
      case first =>
        have H := HC8.out
        clear HC8
        by_cases c12 : t168 = 0
        · rw [if_pos c12] at H
          have c12b0 : (t168 == 0) = true := beq_iff_eq.mpr c12
          have c12b1 : (t168 != 0) = false := bne_eq_false_iff_eq.mpr c12
          clear c12
          (first | rw [c12b0] | (simp only [i64_w, i32_w]; rw [c12b0]) | skip)
          replace H := Option.bind_eq_some_iff.mp H
          obtain ⟨⟨t171, t172⟩, A130, H⟩ := H
          replace H : ((jsontext_Parse.f t171).bind fun bt173 => ((jsontext_Print.f bt173.1).bind fun bt178 => ((jsontext_Check.f k t166).bind fun t180 => (if t180 = 0 then (if t172 = 0 then (if bt173.2.2 = 0 then (if bt178.2 = 0 then ((racewayref25_Same.f k t166 bt173.1).bind fun t181 => (if t181 = true then (if t171.toList = bt178.1.toList then (racewaylaw25_JsontextBack.j0 k t163) else (some false)) else (some false))) else (some false)) else (some false)) else (some false)) else (some false))))) = some r := H
          have A13 := Aside0.mk A130
          clear A130
          replace H := Option.bind_eq_some_iff.mp H
          obtain ⟨⟨t173, t174, t175⟩, A140, H⟩ := H
          replace H : ((jsontext_Print.f t173).bind fun bt178 => ((jsontext_Check.f k t166).bind fun t180 => (if t180 = 0 then (if t172 = 0 then (if t175 = 0 then (if bt178.2 = 0 then ((racewayref25_Same.f k t166 t173).bind fun t181 => (if t181 = true then (if t171.toList = bt178.1.toList then (racewaylaw25_JsontextBack.j0 k t163) else (some false)) else (some false))) else (some false)) else (some false)) else (some false)) else (some false)))) = some r := H
          have A14 := Aside0.mk A140
          clear A140
          replace H := Option.bind_eq_some_iff.mp H
          obtain ⟨⟨t178, t179⟩, A150, H⟩ := H
          replace H : ((jsontext_Check.f k t166).bind fun t180 => (if t180 = 0 then (if t172 = 0 then (if t175 = 0 then (if t179 = 0 then ((racewayref25_Same.f k t166 t173).bind fun t181 => (if t181 = true then (if t171.toList = t178.toList then (racewaylaw25_JsontextBack.j0 k t163) else (some false)) else (some false))) else (some false)) else (some false)) else (some false)) else (some false))) = some r := H
          have A15 := Aside0.mk A150
          clear A150
          replace H := Option.bind_eq_some_iff.mp H
          obtain ⟨t180, A160, H⟩ := H
          replace H : (if t180 = 0 then (if t172 = 0 then (if t175 = 0 then (if t179 = 0 then ((racewayref25_Same.f k t166 t173).bind fun t181 => (if t181 = true then (if t171.toList = t178.toList then (racewaylaw25_JsontextBack.j0 k t163) else (some false)) else (some false))) else (some false)) else (some false)) else (some false)) else (some false)) = some r := H
          have A16 := Aside0.mk A160
          clear A160
          by_cases c17 : t180 = 0
          · rw [if_pos c17] at H
            have c17b0 : (t180 == 0) = true := beq_iff_eq.mpr c17
            have c17b1 : (t180 != 0) = false := bne_eq_false_iff_eq.mpr c17
            clear c17
            by_cases c18 : t172 = 0
            · rw [if_pos c18] at H
              have c18b0 : (t172 == 0) = true := beq_iff_eq.mpr c18
              have c18b1 : (t172 != 0) = false := bne_eq_false_iff_eq.mpr c18
              clear c18
              by_cases c19 : t175 = 0
              · rw [if_pos c19] at H
                have c19b0 : (t175 == 0) = true := beq_iff_eq.mpr c19
                have c19b1 : (t175 != 0) = false := bne_eq_false_iff_eq.mpr c19
                clear c19
                by_cases c20 : t179 = 0
                · rw [if_pos c20] at H
                  have c20b0 : (t179 == 0) = true := beq_iff_eq.mpr c20
                  have c20b1 : (t179 != 0) = false := bne_eq_false_iff_eq.mpr c20
                  clear c20
                  replace H := Option.bind_eq_some_iff.mp H
                  obtain ⟨t181, A210, H⟩ := H
                  replace H : (if t181 = true then (if t171.toList = t178.toList then (racewaylaw25_JsontextBack.j0 k t163) else (some false)) else (some false)) = some r := H
                  have A21 := Aside0.mk A210
                  clear A210
                  by_cases c22 : t181 = true
                  · subst c22
                    have H1 : (if t171.toList = t178.toList then (racewaylaw25_JsontextBack.j0 k t163) else (some false)) = some r := by rw [if_pos rfl] at H; exact H
                    clear H
                    have H := H1
                    clear H1
                    by_cases c23 : t171.toList = t178.toList
                    · rw [if_pos c23] at H
                      have c23b0 : (t171.toList == t178.toList) = true := beq_iff_eq.mpr c23
                      have c23b1 : (t171.toList != t178.toList) = false := bne_eq_false_iff_eq.mpr c23
                      clear c23
                      have H' := Aside0.mk H
                      clear H
                      obtain ⟨Ao24, co24, eo24⟩ := Kd.R_slice HO170.out
                      subst eo24
                      go_wp2_with (first | ((with_reducible refine gate_callee (f := 15) rfl ?_); refine goesL_ (some 37) rfl rfl Tryd.func15 (by kernel_rfl) rfl #[.slice Ao24 t166.length co24] rfl (by (try simp only [List.map_toArray, List.map_cons, List.map_nil]); first | done | rfl | (simp only [List.length_drop, List.length_take]; rfl)) ?_; (with_reducible refine (jsontext_Print.calls _ _ t166 t171 t172 _ ?side3 ?side1 ?side2 A13.out).mono ?_); (case side1 => repeat (first | exact (Kd.R_reads' HO170.out).2.2 | (with_reducible refine Kd.C_alloc ?_ _) | (with_reducible refine Kd.C_drewN ?_ _) | (with_reducible refine Kd.C_drew ?_))); (case side2 => exact (Kd.R_reads' HO170.out).2.1); (case side3 => first | exact HGU8.out | exact GlobU8.below HGU8.out (by repeat (first | (with_reducible first | exact HB.out | apply below_alloc | apply pw_below_drewN | apply below_drew1) | exact HB.out)) | exact GlobU8.drawn HGU8.out (by repeat (first | exact Drawn0.refl _ | apply Drawn0.step))); rintro e w25 ⟨rfl, hb⟩; refine ⟨_, rfl, ?_⟩; have n0_ := Aside0.mk (Kd.R_below (by (with_reducible repeat (first | apply Kd.R_alloc | apply Kd.R_drewN | apply Kd.R_drew)); exact HO165.out) hb); have n1_ := Aside0.mk (Kd.R_below (by (with_reducible repeat (first | apply Kd.R_alloc | apply Kd.R_drewN | apply Kd.R_drew)); exact HO170.out) hb); have n2_ := Aside0.mk (below_step (by repeat (first | (with_reducible first | exact HB.out | apply below_alloc | apply pw_below_drewN | apply below_drew1) | exact HB.out)) hb); clear HO165; clear HO170; clear HB; have HO165 := n0_; have HO170 := n1_; have HB := n2_; clear n0_ n1_ n2_; (try clear hb); (try clear hb2); (try clear hk); (try clear hi)) | ((with_reducible refine gate_callee (f := 10) rfl ?_); refine goesL_ (some 42) rfl rfl Tryd.func10 (by kernel_rfl) rfl #[.string t171] rfl (by (try simp only [List.map_toArray, List.map_cons, List.map_nil]); first | done | rfl | (simp only [List.length_drop, List.length_take]; rfl)) ?_; (with_reducible refine (jsontext_Parse.calls t171 t173 t174 t175 _ ?side1 A14.out).mono ?_); (case side1 => first | exact HGU8.out | exact GlobU8.below HGU8.out (by repeat (first | (with_reducible first | exact HB.out | apply below_alloc | apply pw_below_drewN | apply below_drew1) | exact HB.out)) | exact GlobU8.drawn HGU8.out (by repeat (first | exact Drawn0.refl _ | apply Drawn0.step))); rintro e w26 ⟨v176, rfl, ho0, hb⟩; refine ⟨_, rfl, ?_⟩; have n0_ := Aside0.mk (Kd.R_elder' (by (with_reducible repeat (first | apply Kd.R_alloc | apply Kd.R_drewN | apply Kd.R_drew)); exact HO165.out) (Kd.R_base ho0) hb); have n1_ := Aside0.mk (Kd.R_elder' (by (with_reducible repeat (first | apply Kd.R_alloc | apply Kd.R_drewN | apply Kd.R_drew)); exact HO170.out) (Kd.R_base ho0) hb); have n2_ := Aside0.mk (Kd.R_lower (Kd.R_new' (Kd.R_new' ho0 (Kd.R_lt (by (with_reducible repeat (first | apply Kd.R_alloc | apply Kd.R_drewN | apply Kd.R_drew)); exact HO165.out))) (Kd.R_lt (by (with_reducible repeat (first | apply Kd.R_alloc | apply Kd.R_drewN | apply Kd.R_drew)); exact HO170.out))) (below_size (by repeat (first | (with_reducible first | exact HB.out | apply below_alloc | apply pw_below_drewN | apply below_drew1) | exact HB.out)))); have n3_ := Aside0.mk (below_step (by repeat (first | (with_reducible first | exact HB.out | apply below_alloc | apply pw_below_drewN | apply below_drew1) | exact HB.out)) hb); clear HO165; clear HO170; clear HB; have HO165 := n0_; have HO170 := n1_; have HO177 := n2_; have HB := n3_; clear n0_ n1_ n2_ n3_; (try clear hb); (try clear hb2); (try clear hk); (try clear hi); (try clear ho0); obtain ⟨Ao27, co27, eo27⟩ := Kd.R_slice HO177.out; subst eo27) | ((with_reducible refine gate_callee (f := 15) rfl ?_); refine goesL_ (some 48) rfl rfl Tryd.func15 (by kernel_rfl) rfl #[.slice Ao27 t173.length co27] rfl (by (try simp only [List.map_toArray, List.map_cons, List.map_nil]); first | done | rfl | (simp only [List.length_drop, List.length_take]; rfl)) ?_; (with_reducible refine (jsontext_Print.calls _ _ t173 t178 t179 _ ?side3 ?side1 ?side2 A15.out).mono ?_); (case side1 => repeat (first | exact (Kd.R_reads' HO177.out).2.2 | (with_reducible refine Kd.C_alloc ?_ _) | (with_reducible refine Kd.C_drewN ?_ _) | (with_reducible refine Kd.C_drew ?_))); (case side2 => exact (Kd.R_reads' HO177.out).2.1); (case side3 => first | exact HGU8.out | exact GlobU8.below HGU8.out (by repeat (first | (with_reducible first | exact HB.out | apply below_alloc | apply pw_below_drewN | apply below_drew1) | exact HB.out)) | exact GlobU8.drawn HGU8.out (by repeat (first | exact Drawn0.refl _ | apply Drawn0.step))); rintro e w28 ⟨rfl, hb⟩; refine ⟨_, rfl, ?_⟩; have n0_ := Aside0.mk (Kd.R_below (by (with_reducible repeat (first | apply Kd.R_alloc | apply Kd.R_drewN | apply Kd.R_drew)); exact HO165.out) hb); have n1_ := Aside0.mk (Kd.R_below (by (with_reducible repeat (first | apply Kd.R_alloc | apply Kd.R_drewN | apply Kd.R_drew)); exact HO170.out) hb); have n2_ := Aside0.mk (Kd.R_below (by (with_reducible repeat (first | apply Kd.R_alloc | apply Kd.R_drewN | apply Kd.R_drew)); exact HO177.out) hb); have n3_ := Aside0.mk (below_step (by repeat (first | (with_reducible first | exact HB.out | apply below_alloc | apply pw_below_drewN | apply below_drew1) | exact HB.out)) hb); clear HO165; clear HO170; clear HO177; clear HB; have HO165 := n0_; have HO170 := n1_; have HO177 := n2_; have HB := n3_; clear n0_ n1_ n2_ n3_; (try clear hb); (try clear hb2); (try clear hk); (try clear hi)) | ((with_reducible refine gate_callee (f := 16) rfl ?_); refine goesL_ (some 52) rfl rfl Tryd.func16 (by kernel_rfl) rfl #[.slice Ao24 t166.length co24] rfl (by (try simp only [List.map_toArray, List.map_cons, List.map_nil]); first | done | rfl | (simp only [List.length_drop, List.length_take]; rfl)) ?_; (with_reducible refine (jsontext_Check.calls k _ _ t166 t180 _ ?side3 ?side1 ?side2 A16.out).mono ?_); (case side1 => repeat (first | exact (Kd.R_reads' HO170.out).2.2 | (with_reducible refine Kd.C_alloc ?_ _) | (with_reducible refine Kd.C_drewN ?_ _) | (with_reducible refine Kd.C_drew ?_))); (case side2 => exact (Kd.R_reads' HO170.out).2.1); (case side3 => first | exact HGU8.out | exact GlobU8.below HGU8.out (by repeat (first | (with_reducible first | exact HB.out | apply below_alloc | apply pw_below_drewN | apply below_drew1) | exact HB.out)) | exact GlobU8.drawn HGU8.out (by repeat (first | exact Drawn0.refl _ | apply Drawn0.step))); rintro e w29 ⟨rfl, hb⟩; refine ⟨_, rfl, ?_⟩; have n0_ := Aside0.mk (Kd.R_below (by (with_reducible repeat (first | apply Kd.R_alloc | apply Kd.R_drewN | apply Kd.R_drew)); exact HO165.out) hb); have n1_ := Aside0.mk (Kd.R_below (by (with_reducible repeat (first | apply Kd.R_alloc | apply Kd.R_drewN | apply Kd.R_drew)); exact HO170.out) hb); have n2_ := Aside0.mk (Kd.R_below (by (with_reducible repeat (first | apply Kd.R_alloc | apply Kd.R_drewN | apply Kd.R_drew)); exact HO177.out) hb); have n3_ := Aside0.mk (below_step (by repeat (first | (with_reducible first | exact HB.out | apply below_alloc | apply pw_below_drewN | apply below_drew1) | exact HB.out)) hb); clear HO165; clear HO170; clear HO177; clear HB; have HO165 := n0_; have HO170 := n1_; have HO177 := n2_; have HB := n3_; clear n0_ n1_ n2_ n3_; (try clear hb); (try clear hb2); (try clear hk); (try clear hi)) | (go_at_call 12; (with_reducible refine (racewayref25_Same.calls k _ _ t166 _ _ t173 true _ ?side1 ?side2 ?side3 ?side4 A21.out).mono ?_); (case side1 => repeat (first | exact (Kd.R_reads' HO170.out).2.2 | (with_reducible refine Kd.C_alloc ?_ _) | (with_reducible refine Kd.C_drewN ?_ _) | (with_reducible refine Kd.C_drew ?_))); (case side2 => exact (Kd.R_reads' HO170.out).2.1); (case side3 => repeat (first | exact (Kd.R_reads' HO177.out).2.2 | (with_reducible refine Kd.C_alloc ?_ _) | (with_reducible refine Kd.C_drewN ?_ _) | (with_reducible refine Kd.C_drew ?_))); (case side4 => exact (Kd.R_reads' HO177.out).2.1); rintro e w' ⟨rfl, ⟨nd, rfl⟩⟩))
                      go_meet
                      case rel => exact ⟨_, (by first | exact H' | (subst_vars; exact H')), ⟨by first | omega | exact Nat.le_refl _⟩, ⟨by (with_reducible repeat (first | apply Kd.R_alloc | apply Kd.R_drewN | apply Kd.R_drew)); exact Kd.R_mono HO165.out (fun _ hk => trivial)⟩, ⟨by repeat (first | (with_reducible first | exact HB.out | apply below_alloc | apply pw_below_drewN | apply below_drew1) | exact HB.out)⟩⟩
                    · rw [if_neg c23] at H
                      have c23b0 : (t171.toList == t178.toList) = false := beq_eq_false_iff_ne.mpr c23
                      have c23b1 : (t171.toList != t178.toList) = true := bne_iff_ne.mpr c23
                      obtain rfl := Option.some.inj H
                      obtain ⟨Ao30, co30, eo30⟩ := Kd.R_slice HO170.out
                      subst eo30
                      go_wp2_with (first | ((with_reducible refine gate_callee (f := 15) rfl ?_); refine goesL_ (some 37) rfl rfl Tryd.func15 (by kernel_rfl) rfl #[.slice Ao30 t166.length co30] rfl (by (try simp only [List.map_toArray, List.map_cons, List.map_nil]); first | done | rfl | (simp only [List.length_drop, List.length_take]; rfl)) ?_; (with_reducible refine (jsontext_Print.calls _ _ t166 t171 t172 _ ?side3 ?side1 ?side2 A13.out).mono ?_); (case side1 => repeat (first | exact (Kd.R_reads' HO170.out).2.2 | (with_reducible refine Kd.C_alloc ?_ _) | (with_reducible refine Kd.C_drewN ?_ _) | (with_reducible refine Kd.C_drew ?_))); (case side2 => exact (Kd.R_reads' HO170.out).2.1); (case side3 => first | exact HGU8.out | exact GlobU8.below HGU8.out (by repeat (first | (with_reducible first | exact HB.out | apply below_alloc | apply pw_below_drewN | apply below_drew1) | exact HB.out)) | exact GlobU8.drawn HGU8.out (by repeat (first | exact Drawn0.refl _ | apply Drawn0.step))); rintro e w31 ⟨rfl, hb⟩; refine ⟨_, rfl, ?_⟩; have n0_ := Aside0.mk (Kd.R_below (by (with_reducible repeat (first | apply Kd.R_alloc | apply Kd.R_drewN | apply Kd.R_drew)); exact HO165.out) hb); have n1_ := Aside0.mk (Kd.R_below (by (with_reducible repeat (first | apply Kd.R_alloc | apply Kd.R_drewN | apply Kd.R_drew)); exact HO170.out) hb); have n2_ := Aside0.mk (below_step (by repeat (first | (with_reducible first | exact HB.out | apply below_alloc | apply pw_below_drewN | apply below_drew1) | exact HB.out)) hb); clear HO165; clear HO170; clear HB; have HO165 := n0_; have HO170 := n1_; have HB := n2_; clear n0_ n1_ n2_; (try clear hb); (try clear hb2); (try clear hk); (try clear hi)) | ((with_reducible refine gate_callee (f := 10) rfl ?_); refine goesL_ (some 42) rfl rfl Tryd.func10 (by kernel_rfl) rfl #[.string t171] rfl (by (try simp only [List.map_toArray, List.map_cons, List.map_nil]); first | done | rfl | (simp only [List.length_drop, List.length_take]; rfl)) ?_; (with_reducible refine (jsontext_Parse.calls t171 t173 t174 t175 _ ?side1 A14.out).mono ?_); (case side1 => first | exact HGU8.out | exact GlobU8.below HGU8.out (by repeat (first | (with_reducible first | exact HB.out | apply below_alloc | apply pw_below_drewN | apply below_drew1) | exact HB.out)) | exact GlobU8.drawn HGU8.out (by repeat (first | exact Drawn0.refl _ | apply Drawn0.step))); rintro e w32 ⟨v176, rfl, ho0, hb⟩; refine ⟨_, rfl, ?_⟩; have n0_ := Aside0.mk (Kd.R_elder' (by (with_reducible repeat (first | apply Kd.R_alloc | apply Kd.R_drewN | apply Kd.R_drew)); exact HO165.out) (Kd.R_base ho0) hb); have n1_ := Aside0.mk (Kd.R_elder' (by (with_reducible repeat (first | apply Kd.R_alloc | apply Kd.R_drewN | apply Kd.R_drew)); exact HO170.out) (Kd.R_base ho0) hb); have n2_ := Aside0.mk (Kd.R_lower (Kd.R_new' (Kd.R_new' ho0 (Kd.R_lt (by (with_reducible repeat (first | apply Kd.R_alloc | apply Kd.R_drewN | apply Kd.R_drew)); exact HO165.out))) (Kd.R_lt (by (with_reducible repeat (first | apply Kd.R_alloc | apply Kd.R_drewN | apply Kd.R_drew)); exact HO170.out))) (below_size (by repeat (first | (with_reducible first | exact HB.out | apply below_alloc | apply pw_below_drewN | apply below_drew1) | exact HB.out)))); have n3_ := Aside0.mk (below_step (by repeat (first | (with_reducible first | exact HB.out | apply below_alloc | apply pw_below_drewN | apply below_drew1) | exact HB.out)) hb); clear HO165; clear HO170; clear HB; have HO165 := n0_; have HO170 := n1_; have HO177 := n2_; have HB := n3_; clear n0_ n1_ n2_ n3_; (try clear hb); (try clear hb2); (try clear hk); (try clear hi); (try clear ho0); obtain ⟨Ao33, co33, eo33⟩ := Kd.R_slice HO177.out; subst eo33) | ((with_reducible refine gate_callee (f := 15) rfl ?_); refine goesL_ (some 48) rfl rfl Tryd.func15 (by kernel_rfl) rfl #[.slice Ao33 t173.length co33] rfl (by (try simp only [List.map_toArray, List.map_cons, List.map_nil]); first | done | rfl | (simp only [List.length_drop, List.length_take]; rfl)) ?_; (with_reducible refine (jsontext_Print.calls _ _ t173 t178 t179 _ ?side3 ?side1 ?side2 A15.out).mono ?_); (case side1 => repeat (first | exact (Kd.R_reads' HO177.out).2.2 | (with_reducible refine Kd.C_alloc ?_ _) | (with_reducible refine Kd.C_drewN ?_ _) | (with_reducible refine Kd.C_drew ?_))); (case side2 => exact (Kd.R_reads' HO177.out).2.1); (case side3 => first | exact HGU8.out | exact GlobU8.below HGU8.out (by repeat (first | (with_reducible first | exact HB.out | apply below_alloc | apply pw_below_drewN | apply below_drew1) | exact HB.out)) | exact GlobU8.drawn HGU8.out (by repeat (first | exact Drawn0.refl _ | apply Drawn0.step))); rintro e w34 ⟨rfl, hb⟩; refine ⟨_, rfl, ?_⟩; have n0_ := Aside0.mk (Kd.R_below (by (with_reducible repeat (first | apply Kd.R_alloc | apply Kd.R_drewN | apply Kd.R_drew)); exact HO165.out) hb); have n1_ := Aside0.mk (Kd.R_below (by (with_reducible repeat (first | apply Kd.R_alloc | apply Kd.R_drewN | apply Kd.R_drew)); exact HO170.out) hb); have n2_ := Aside0.mk (Kd.R_below (by (with_reducible repeat (first | apply Kd.R_alloc | apply Kd.R_drewN | apply Kd.R_drew)); exact HO177.out) hb); have n3_ := Aside0.mk (below_step (by repeat (first | (with_reducible first | exact HB.out | apply below_alloc | apply pw_below_drewN | apply below_drew1) | exact HB.out)) hb); clear HO165; clear HO170; clear HO177; clear HB; have HO165 := n0_; have HO170 := n1_; have HO177 := n2_; have HB := n3_; clear n0_ n1_ n2_ n3_; (try clear hb); (try clear hb2); (try clear hk); (try clear hi)) | ((with_reducible refine gate_callee (f := 16) rfl ?_); refine goesL_ (some 52) rfl rfl Tryd.func16 (by kernel_rfl) rfl #[.slice Ao30 t166.length co30] rfl (by (try simp only [List.map_toArray, List.map_cons, List.map_nil]); first | done | rfl | (simp only [List.length_drop, List.length_take]; rfl)) ?_; (with_reducible refine (jsontext_Check.calls k _ _ t166 t180 _ ?side3 ?side1 ?side2 A16.out).mono ?_); (case side1 => repeat (first | exact (Kd.R_reads' HO170.out).2.2 | (with_reducible refine Kd.C_alloc ?_ _) | (with_reducible refine Kd.C_drewN ?_ _) | (with_reducible refine Kd.C_drew ?_))); (case side2 => exact (Kd.R_reads' HO170.out).2.1); (case side3 => first | exact HGU8.out | exact GlobU8.below HGU8.out (by repeat (first | (with_reducible first | exact HB.out | apply below_alloc | apply pw_below_drewN | apply below_drew1) | exact HB.out)) | exact GlobU8.drawn HGU8.out (by repeat (first | exact Drawn0.refl _ | apply Drawn0.step))); rintro e w35 ⟨rfl, hb⟩; refine ⟨_, rfl, ?_⟩; have n0_ := Aside0.mk (Kd.R_below (by (with_reducible repeat (first | apply Kd.R_alloc | apply Kd.R_drewN | apply Kd.R_drew)); exact HO165.out) hb); have n1_ := Aside0.mk (Kd.R_below (by (with_reducible repeat (first | apply Kd.R_alloc | apply Kd.R_drewN | apply Kd.R_drew)); exact HO170.out) hb); have n2_ := Aside0.mk (Kd.R_below (by (with_reducible repeat (first | apply Kd.R_alloc | apply Kd.R_drewN | apply Kd.R_drew)); exact HO177.out) hb); have n3_ := Aside0.mk (below_step (by repeat (first | (with_reducible first | exact HB.out | apply below_alloc | apply pw_below_drewN | apply below_drew1) | exact HB.out)) hb); clear HO165; clear HO170; clear HO177; clear HB; have HO165 := n0_; have HO170 := n1_; have HO177 := n2_; have HB := n3_; clear n0_ n1_ n2_ n3_; (try clear hb); (try clear hb2); (try clear hk); (try clear hi)) | (go_at_call 12; (with_reducible refine (racewayref25_Same.calls k _ _ t166 _ _ t173 true _ ?side1 ?side2 ?side3 ?side4 A21.out).mono ?_); (case side1 => repeat (first | exact (Kd.R_reads' HO170.out).2.2 | (with_reducible refine Kd.C_alloc ?_ _) | (with_reducible refine Kd.C_drewN ?_ _) | (with_reducible refine Kd.C_drew ?_))); (case side2 => exact (Kd.R_reads' HO170.out).2.1); (case side3 => repeat (first | exact (Kd.R_reads' HO177.out).2.2 | (with_reducible refine Kd.C_alloc ?_ _) | (with_reducible refine Kd.C_drewN ?_ _) | (with_reducible refine Kd.C_drew ?_))); (case side4 => exact (Kd.R_reads' HO177.out).2.1); rintro e w' ⟨rfl, ⟨nd, rfl⟩⟩))
                      go_ret
                      exact ⟨by first | rfl | (simp [errW_none, errW_some] <;> rfl) | (simp only [← hji3]; first | rfl | (simp [errW_none, errW_some] <;> rfl)) | (simp [*, errW_none, errW_some] <;> rfl), by repeat (first | (with_reducible first | exact HB.out | apply below_alloc | apply pw_below_drewN | apply below_drew1) | exact HB.out)⟩
                  · replace c22 := Bool.eq_false_iff.mpr c22
                    subst c22
                    have H1 : (some false) = some r := by rw [if_neg (show ¬ (false = true) by decide)] at H; exact H
                    clear H
                    have H := H1
                    clear H1
                    obtain rfl := Option.some.inj H
                    obtain ⟨Ao36, co36, eo36⟩ := Kd.R_slice HO170.out
                    subst eo36
                    go_wp2_with (first | ((with_reducible refine gate_callee (f := 15) rfl ?_); refine goesL_ (some 37) rfl rfl Tryd.func15 (by kernel_rfl) rfl #[.slice Ao36 t166.length co36] rfl (by (try simp only [List.map_toArray, List.map_cons, List.map_nil]); first | done | rfl | (simp only [List.length_drop, List.length_take]; rfl)) ?_; (with_reducible refine (jsontext_Print.calls _ _ t166 t171 t172 _ ?side3 ?side1 ?side2 A13.out).mono ?_); (case side1 => repeat (first | exact (Kd.R_reads' HO170.out).2.2 | (with_reducible refine Kd.C_alloc ?_ _) | (with_reducible refine Kd.C_drewN ?_ _) | (with_reducible refine Kd.C_drew ?_))); (case side2 => exact (Kd.R_reads' HO170.out).2.1); (case side3 => first | exact HGU8.out | exact GlobU8.below HGU8.out (by repeat (first | (with_reducible first | exact HB.out | apply below_alloc | apply pw_below_drewN | apply below_drew1) | exact HB.out)) | exact GlobU8.drawn HGU8.out (by repeat (first | exact Drawn0.refl _ | apply Drawn0.step))); rintro e w37 ⟨rfl, hb⟩; refine ⟨_, rfl, ?_⟩; have n0_ := Aside0.mk (Kd.R_below (by (with_reducible repeat (first | apply Kd.R_alloc | apply Kd.R_drewN | apply Kd.R_drew)); exact HO165.out) hb); have n1_ := Aside0.mk (Kd.R_below (by (with_reducible repeat (first | apply Kd.R_alloc | apply Kd.R_drewN | apply Kd.R_drew)); exact HO170.out) hb); have n2_ := Aside0.mk (below_step (by repeat (first | (with_reducible first | exact HB.out | apply below_alloc | apply pw_below_drewN | apply below_drew1) | exact HB.out)) hb); clear HO165; clear HO170; clear HB; have HO165 := n0_; have HO170 := n1_; have HB := n2_; clear n0_ n1_ n2_; (try clear hb); (try clear hb2); (try clear hk); (try clear hi)) | ((with_reducible refine gate_callee (f := 10) rfl ?_); refine goesL_ (some 42) rfl rfl Tryd.func10 (by kernel_rfl) rfl #[.string t171] rfl (by (try simp only [List.map_toArray, List.map_cons, List.map_nil]); first | done | rfl | (simp only [List.length_drop, List.length_take]; rfl)) ?_; (with_reducible refine (jsontext_Parse.calls t171 t173 t174 t175 _ ?side1 A14.out).mono ?_); (case side1 => first | exact HGU8.out | exact GlobU8.below HGU8.out (by repeat (first | (with_reducible first | exact HB.out | apply below_alloc | apply pw_below_drewN | apply below_drew1) | exact HB.out)) | exact GlobU8.drawn HGU8.out (by repeat (first | exact Drawn0.refl _ | apply Drawn0.step))); rintro e w38 ⟨v176, rfl, ho0, hb⟩; refine ⟨_, rfl, ?_⟩; have n0_ := Aside0.mk (Kd.R_elder' (by (with_reducible repeat (first | apply Kd.R_alloc | apply Kd.R_drewN | apply Kd.R_drew)); exact HO165.out) (Kd.R_base ho0) hb); have n1_ := Aside0.mk (Kd.R_elder' (by (with_reducible repeat (first | apply Kd.R_alloc | apply Kd.R_drewN | apply Kd.R_drew)); exact HO170.out) (Kd.R_base ho0) hb); have n2_ := Aside0.mk (Kd.R_lower (Kd.R_new' (Kd.R_new' ho0 (Kd.R_lt (by (with_reducible repeat (first | apply Kd.R_alloc | apply Kd.R_drewN | apply Kd.R_drew)); exact HO165.out))) (Kd.R_lt (by (with_reducible repeat (first | apply Kd.R_alloc | apply Kd.R_drewN | apply Kd.R_drew)); exact HO170.out))) (below_size (by repeat (first | (with_reducible first | exact HB.out | apply below_alloc | apply pw_below_drewN | apply below_drew1) | exact HB.out)))); have n3_ := Aside0.mk (below_step (by repeat (first | (with_reducible first | exact HB.out | apply below_alloc | apply pw_below_drewN | apply below_drew1) | exact HB.out)) hb); clear HO165; clear HO170; clear HB; have HO165 := n0_; have HO170 := n1_; have HO177 := n2_; have HB := n3_; clear n0_ n1_ n2_ n3_; (try clear hb); (try clear hb2); (try clear hk); (try clear hi); (try clear ho0); obtain ⟨Ao39, co39, eo39⟩ := Kd.R_slice HO177.out; subst eo39) | ((with_reducible refine gate_callee (f := 15) rfl ?_); refine goesL_ (some 48) rfl rfl Tryd.func15 (by kernel_rfl) rfl #[.slice Ao39 t173.length co39] rfl (by (try simp only [List.map_toArray, List.map_cons, List.map_nil]); first | done | rfl | (simp only [List.length_drop, List.length_take]; rfl)) ?_; (with_reducible refine (jsontext_Print.calls _ _ t173 t178 t179 _ ?side3 ?side1 ?side2 A15.out).mono ?_); (case side1 => repeat (first | exact (Kd.R_reads' HO177.out).2.2 | (with_reducible refine Kd.C_alloc ?_ _) | (with_reducible refine Kd.C_drewN ?_ _) | (with_reducible refine Kd.C_drew ?_))); (case side2 => exact (Kd.R_reads' HO177.out).2.1); (case side3 => first | exact HGU8.out | exact GlobU8.below HGU8.out (by repeat (first | (with_reducible first | exact HB.out | apply below_alloc | apply pw_below_drewN | apply below_drew1) | exact HB.out)) | exact GlobU8.drawn HGU8.out (by repeat (first | exact Drawn0.refl _ | apply Drawn0.step))); rintro e w40 ⟨rfl, hb⟩; refine ⟨_, rfl, ?_⟩; have n0_ := Aside0.mk (Kd.R_below (by (with_reducible repeat (first | apply Kd.R_alloc | apply Kd.R_drewN | apply Kd.R_drew)); exact HO165.out) hb); have n1_ := Aside0.mk (Kd.R_below (by (with_reducible repeat (first | apply Kd.R_alloc | apply Kd.R_drewN | apply Kd.R_drew)); exact HO170.out) hb); have n2_ := Aside0.mk (Kd.R_below (by (with_reducible repeat (first | apply Kd.R_alloc | apply Kd.R_drewN | apply Kd.R_drew)); exact HO177.out) hb); have n3_ := Aside0.mk (below_step (by repeat (first | (with_reducible first | exact HB.out | apply below_alloc | apply pw_below_drewN | apply below_drew1) | exact HB.out)) hb); clear HO165; clear HO170; clear HO177; clear HB; have HO165 := n0_; have HO170 := n1_; have HO177 := n2_; have HB := n3_; clear n0_ n1_ n2_ n3_; (try clear hb); (try clear hb2); (try clear hk); (try clear hi)) | ((with_reducible refine gate_callee (f := 16) rfl ?_); refine goesL_ (some 52) rfl rfl Tryd.func16 (by kernel_rfl) rfl #[.slice Ao36 t166.length co36] rfl (by (try simp only [List.map_toArray, List.map_cons, List.map_nil]); first | done | rfl | (simp only [List.length_drop, List.length_take]; rfl)) ?_; (with_reducible refine (jsontext_Check.calls k _ _ t166 t180 _ ?side3 ?side1 ?side2 A16.out).mono ?_); (case side1 => repeat (first | exact (Kd.R_reads' HO170.out).2.2 | (with_reducible refine Kd.C_alloc ?_ _) | (with_reducible refine Kd.C_drewN ?_ _) | (with_reducible refine Kd.C_drew ?_))); (case side2 => exact (Kd.R_reads' HO170.out).2.1); (case side3 => first | exact HGU8.out | exact GlobU8.below HGU8.out (by repeat (first | (with_reducible first | exact HB.out | apply below_alloc | apply pw_below_drewN | apply below_drew1) | exact HB.out)) | exact GlobU8.drawn HGU8.out (by repeat (first | exact Drawn0.refl _ | apply Drawn0.step))); rintro e w41 ⟨rfl, hb⟩; refine ⟨_, rfl, ?_⟩; have n0_ := Aside0.mk (Kd.R_below (by (with_reducible repeat (first | apply Kd.R_alloc | apply Kd.R_drewN | apply Kd.R_drew)); exact HO165.out) hb); have n1_ := Aside0.mk (Kd.R_below (by (with_reducible repeat (first | apply Kd.R_alloc | apply Kd.R_drewN | apply Kd.R_drew)); exact HO170.out) hb); have n2_ := Aside0.mk (Kd.R_below (by (with_reducible repeat (first | apply Kd.R_alloc | apply Kd.R_drewN | apply Kd.R_drew)); exact HO177.out) hb); have n3_ := Aside0.mk (below_step (by repeat (first | (with_reducible first | exact HB.out | apply below_alloc | apply pw_below_drewN | apply below_drew1) | exact HB.out)) hb); clear HO165; clear HO170; clear HO177; clear HB; have HO165 := n0_; have HO170 := n1_; have HO177 := n2_; have HB := n3_; clear n0_ n1_ n2_ n3_; (try clear hb); (try clear hb2); (try clear hk); (try clear hi)) | (go_at_call 12; (with_reducible refine (racewayref25_Same.calls k _ _ t166 _ _ t173 false _ ?side1 ?side2 ?side3 ?side4 A21.out).mono ?_); (case side1 => repeat (first | exact (Kd.R_reads' HO170.out).2.2 | (with_reducible refine Kd.C_alloc ?_ _) | (with_reducible refine Kd.C_drewN ?_ _) | (with_reducible refine Kd.C_drew ?_))); (case side2 => exact (Kd.R_reads' HO170.out).2.1); (case side3 => repeat (first | exact (Kd.R_reads' HO177.out).2.2 | (with_reducible refine Kd.C_alloc ?_ _) | (with_reducible refine Kd.C_drewN ?_ _) | (with_reducible refine Kd.C_drew ?_))); (case side4 => exact (Kd.R_reads' HO177.out).2.1); rintro e w' ⟨rfl, ⟨nd, rfl⟩⟩))
                    go_ret
                    exact ⟨by first | rfl | (simp [errW_none, errW_some] <;> rfl) | (simp only [← hji3]; first | rfl | (simp [errW_none, errW_some] <;> rfl)) | (simp [*, errW_none, errW_some] <;> rfl), by repeat (first | (with_reducible first | exact HB.out | apply below_alloc | apply pw_below_drewN | apply below_drew1) | exact HB.out)⟩
                · rw [if_neg c20] at H
                  have c20b0 : (t179 == 0) = false := beq_eq_false_iff_ne.mpr c20
                  have c20b1 : (t179 != 0) = true := bne_iff_ne.mpr c20
                  obtain rfl := Option.some.inj H
                  obtain ⟨Ao42, co42, eo42⟩ := Kd.R_slice HO170.out
                  subst eo42
                  go_wp2_with (first | ((with_reducible refine gate_callee (f := 15) rfl ?_); refine goesL_ (some 37) rfl rfl Tryd.func15 (by kernel_rfl) rfl #[.slice Ao42 t166.length co42] rfl (by (try simp only [List.map_toArray, List.map_cons, List.map_nil]); first | done | rfl | (simp only [List.length_drop, List.length_take]; rfl)) ?_; (with_reducible refine (jsontext_Print.calls _ _ t166 t171 t172 _ ?side3 ?side1 ?side2 A13.out).mono ?_); (case side1 => repeat (first | exact (Kd.R_reads' HO170.out).2.2 | (with_reducible refine Kd.C_alloc ?_ _) | (with_reducible refine Kd.C_drewN ?_ _) | (with_reducible refine Kd.C_drew ?_))); (case side2 => exact (Kd.R_reads' HO170.out).2.1); (case side3 => first | exact HGU8.out | exact GlobU8.below HGU8.out (by repeat (first | (with_reducible first | exact HB.out | apply below_alloc | apply pw_below_drewN | apply below_drew1) | exact HB.out)) | exact GlobU8.drawn HGU8.out (by repeat (first | exact Drawn0.refl _ | apply Drawn0.step))); rintro e w43 ⟨rfl, hb⟩; refine ⟨_, rfl, ?_⟩; have n0_ := Aside0.mk (Kd.R_below (by (with_reducible repeat (first | apply Kd.R_alloc | apply Kd.R_drewN | apply Kd.R_drew)); exact HO165.out) hb); have n1_ := Aside0.mk (Kd.R_below (by (with_reducible repeat (first | apply Kd.R_alloc | apply Kd.R_drewN | apply Kd.R_drew)); exact HO170.out) hb); have n2_ := Aside0.mk (below_step (by repeat (first | (with_reducible first | exact HB.out | apply below_alloc | apply pw_below_drewN | apply below_drew1) | exact HB.out)) hb); clear HO165; clear HO170; clear HB; have HO165 := n0_; have HO170 := n1_; have HB := n2_; clear n0_ n1_ n2_; (try clear hb); (try clear hb2); (try clear hk); (try clear hi)) | ((with_reducible refine gate_callee (f := 10) rfl ?_); refine goesL_ (some 42) rfl rfl Tryd.func10 (by kernel_rfl) rfl #[.string t171] rfl (by (try simp only [List.map_toArray, List.map_cons, List.map_nil]); first | done | rfl | (simp only [List.length_drop, List.length_take]; rfl)) ?_; (with_reducible refine (jsontext_Parse.calls t171 t173 t174 t175 _ ?side1 A14.out).mono ?_); (case side1 => first | exact HGU8.out | exact GlobU8.below HGU8.out (by repeat (first | (with_reducible first | exact HB.out | apply below_alloc | apply pw_below_drewN | apply below_drew1) | exact HB.out)) | exact GlobU8.drawn HGU8.out (by repeat (first | exact Drawn0.refl _ | apply Drawn0.step))); rintro e w44 ⟨v176, rfl, ho0, hb⟩; refine ⟨_, rfl, ?_⟩; have n0_ := Aside0.mk (Kd.R_elder' (by (with_reducible repeat (first | apply Kd.R_alloc | apply Kd.R_drewN | apply Kd.R_drew)); exact HO165.out) (Kd.R_base ho0) hb); have n1_ := Aside0.mk (Kd.R_elder' (by (with_reducible repeat (first | apply Kd.R_alloc | apply Kd.R_drewN | apply Kd.R_drew)); exact HO170.out) (Kd.R_base ho0) hb); have n2_ := Aside0.mk (Kd.R_lower (Kd.R_new' (Kd.R_new' ho0 (Kd.R_lt (by (with_reducible repeat (first | apply Kd.R_alloc | apply Kd.R_drewN | apply Kd.R_drew)); exact HO165.out))) (Kd.R_lt (by (with_reducible repeat (first | apply Kd.R_alloc | apply Kd.R_drewN | apply Kd.R_drew)); exact HO170.out))) (below_size (by repeat (first | (with_reducible first | exact HB.out | apply below_alloc | apply pw_below_drewN | apply below_drew1) | exact HB.out)))); have n3_ := Aside0.mk (below_step (by repeat (first | (with_reducible first | exact HB.out | apply below_alloc | apply pw_below_drewN | apply below_drew1) | exact HB.out)) hb); clear HO165; clear HO170; clear HB; have HO165 := n0_; have HO170 := n1_; have HO177 := n2_; have HB := n3_; clear n0_ n1_ n2_ n3_; (try clear hb); (try clear hb2); (try clear hk); (try clear hi); (try clear ho0); obtain ⟨Ao45, co45, eo45⟩ := Kd.R_slice HO177.out; subst eo45) | ((with_reducible refine gate_callee (f := 15) rfl ?_); refine goesL_ (some 48) rfl rfl Tryd.func15 (by kernel_rfl) rfl #[.slice Ao45 t173.length co45] rfl (by (try simp only [List.map_toArray, List.map_cons, List.map_nil]); first | done | rfl | (simp only [List.length_drop, List.length_take]; rfl)) ?_; (with_reducible refine (jsontext_Print.calls _ _ t173 t178 t179 _ ?side3 ?side1 ?side2 A15.out).mono ?_); (case side1 => repeat (first | exact (Kd.R_reads' HO177.out).2.2 | (with_reducible refine Kd.C_alloc ?_ _) | (with_reducible refine Kd.C_drewN ?_ _) | (with_reducible refine Kd.C_drew ?_))); (case side2 => exact (Kd.R_reads' HO177.out).2.1); (case side3 => first | exact HGU8.out | exact GlobU8.below HGU8.out (by repeat (first | (with_reducible first | exact HB.out | apply below_alloc | apply pw_below_drewN | apply below_drew1) | exact HB.out)) | exact GlobU8.drawn HGU8.out (by repeat (first | exact Drawn0.refl _ | apply Drawn0.step))); rintro e w46 ⟨rfl, hb⟩; refine ⟨_, rfl, ?_⟩; have n0_ := Aside0.mk (Kd.R_below (by (with_reducible repeat (first | apply Kd.R_alloc | apply Kd.R_drewN | apply Kd.R_drew)); exact HO165.out) hb); have n1_ := Aside0.mk (Kd.R_below (by (with_reducible repeat (first | apply Kd.R_alloc | apply Kd.R_drewN | apply Kd.R_drew)); exact HO170.out) hb); have n2_ := Aside0.mk (Kd.R_below (by (with_reducible repeat (first | apply Kd.R_alloc | apply Kd.R_drewN | apply Kd.R_drew)); exact HO177.out) hb); have n3_ := Aside0.mk (below_step (by repeat (first | (with_reducible first | exact HB.out | apply below_alloc | apply pw_below_drewN | apply below_drew1) | exact HB.out)) hb); clear HO165; clear HO170; clear HO177; clear HB; have HO165 := n0_; have HO170 := n1_; have HO177 := n2_; have HB := n3_; clear n0_ n1_ n2_ n3_; (try clear hb); (try clear hb2); (try clear hk); (try clear hi)) | ((with_reducible refine gate_callee (f := 16) rfl ?_); refine goesL_ (some 52) rfl rfl Tryd.func16 (by kernel_rfl) rfl #[.slice Ao42 t166.length co42] rfl (by (try simp only [List.map_toArray, List.map_cons, List.map_nil]); first | done | rfl | (simp only [List.length_drop, List.length_take]; rfl)) ?_; (with_reducible refine (jsontext_Check.calls k _ _ t166 t180 _ ?side3 ?side1 ?side2 A16.out).mono ?_); (case side1 => repeat (first | exact (Kd.R_reads' HO170.out).2.2 | (with_reducible refine Kd.C_alloc ?_ _) | (with_reducible refine Kd.C_drewN ?_ _) | (with_reducible refine Kd.C_drew ?_))); (case side2 => exact (Kd.R_reads' HO170.out).2.1); (case side3 => first | exact HGU8.out | exact GlobU8.below HGU8.out (by repeat (first | (with_reducible first | exact HB.out | apply below_alloc | apply pw_below_drewN | apply below_drew1) | exact HB.out)) | exact GlobU8.drawn HGU8.out (by repeat (first | exact Drawn0.refl _ | apply Drawn0.step))); rintro e w47 ⟨rfl, hb⟩; refine ⟨_, rfl, ?_⟩; have n0_ := Aside0.mk (Kd.R_below (by (with_reducible repeat (first | apply Kd.R_alloc | apply Kd.R_drewN | apply Kd.R_drew)); exact HO165.out) hb); have n1_ := Aside0.mk (Kd.R_below (by (with_reducible repeat (first | apply Kd.R_alloc | apply Kd.R_drewN | apply Kd.R_drew)); exact HO170.out) hb); have n2_ := Aside0.mk (Kd.R_below (by (with_reducible repeat (first | apply Kd.R_alloc | apply Kd.R_drewN | apply Kd.R_drew)); exact HO177.out) hb); have n3_ := Aside0.mk (below_step (by repeat (first | (with_reducible first | exact HB.out | apply below_alloc | apply pw_below_drewN | apply below_drew1) | exact HB.out)) hb); clear HO165; clear HO170; clear HO177; clear HB; have HO165 := n0_; have HO170 := n1_; have HO177 := n2_; have HB := n3_; clear n0_ n1_ n2_ n3_; (try clear hb); (try clear hb2); (try clear hk); (try clear hi)))
                  go_ret
                  exact ⟨by first | rfl | (simp [errW_none, errW_some] <;> rfl) | (simp only [← hji3]; first | rfl | (simp [errW_none, errW_some] <;> rfl)) | (simp [*, errW_none, errW_some] <;> rfl), by repeat (first | (with_reducible first | exact HB.out | apply below_alloc | apply pw_below_drewN | apply below_drew1) | exact HB.out)⟩
              · rw [if_neg c19] at H
                have c19b0 : (t175 == 0) = false := beq_eq_false_iff_ne.mpr c19
                have c19b1 : (t175 != 0) = true := bne_iff_ne.mpr c19
                obtain rfl := Option.some.inj H
                obtain ⟨Ao48, co48, eo48⟩ := Kd.R_slice HO170.out
                subst eo48
                go_wp2_with (first | ((with_reducible refine gate_callee (f := 15) rfl ?_); refine goesL_ (some 37) rfl rfl Tryd.func15 (by kernel_rfl) rfl #[.slice Ao48 t166.length co48] rfl (by (try simp only [List.map_toArray, List.map_cons, List.map_nil]); first | done | rfl | (simp only [List.length_drop, List.length_take]; rfl)) ?_; (with_reducible refine (jsontext_Print.calls _ _ t166 t171 t172 _ ?side3 ?side1 ?side2 A13.out).mono ?_); (case side1 => repeat (first | exact (Kd.R_reads' HO170.out).2.2 | (with_reducible refine Kd.C_alloc ?_ _) | (with_reducible refine Kd.C_drewN ?_ _) | (with_reducible refine Kd.C_drew ?_))); (case side2 => exact (Kd.R_reads' HO170.out).2.1); (case side3 => first | exact HGU8.out | exact GlobU8.below HGU8.out (by repeat (first | (with_reducible first | exact HB.out | apply below_alloc | apply pw_below_drewN | apply below_drew1) | exact HB.out)) | exact GlobU8.drawn HGU8.out (by repeat (first | exact Drawn0.refl _ | apply Drawn0.step))); rintro e w49 ⟨rfl, hb⟩; refine ⟨_, rfl, ?_⟩; have n0_ := Aside0.mk (Kd.R_below (by (with_reducible repeat (first | apply Kd.R_alloc | apply Kd.R_drewN | apply Kd.R_drew)); exact HO165.out) hb); have n1_ := Aside0.mk (Kd.R_below (by (with_reducible repeat (first | apply Kd.R_alloc | apply Kd.R_drewN | apply Kd.R_drew)); exact HO170.out) hb); have n2_ := Aside0.mk (below_step (by repeat (first | (with_reducible first | exact HB.out | apply below_alloc | apply pw_below_drewN | apply below_drew1) | exact HB.out)) hb); clear HO165; clear HO170; clear HB; have HO165 := n0_; have HO170 := n1_; have HB := n2_; clear n0_ n1_ n2_; (try clear hb); (try clear hb2); (try clear hk); (try clear hi)) | ((with_reducible refine gate_callee (f := 10) rfl ?_); refine goesL_ (some 42) rfl rfl Tryd.func10 (by kernel_rfl) rfl #[.string t171] rfl (by (try simp only [List.map_toArray, List.map_cons, List.map_nil]); first | done | rfl | (simp only [List.length_drop, List.length_take]; rfl)) ?_; (with_reducible refine (jsontext_Parse.calls t171 t173 t174 t175 _ ?side1 A14.out).mono ?_); (case side1 => first | exact HGU8.out | exact GlobU8.below HGU8.out (by repeat (first | (with_reducible first | exact HB.out | apply below_alloc | apply pw_below_drewN | apply below_drew1) | exact HB.out)) | exact GlobU8.drawn HGU8.out (by repeat (first | exact Drawn0.refl _ | apply Drawn0.step))); rintro e w50 ⟨v176, rfl, ho0, hb⟩; refine ⟨_, rfl, ?_⟩; have n0_ := Aside0.mk (Kd.R_elder' (by (with_reducible repeat (first | apply Kd.R_alloc | apply Kd.R_drewN | apply Kd.R_drew)); exact HO165.out) (Kd.R_base ho0) hb); have n1_ := Aside0.mk (Kd.R_elder' (by (with_reducible repeat (first | apply Kd.R_alloc | apply Kd.R_drewN | apply Kd.R_drew)); exact HO170.out) (Kd.R_base ho0) hb); have n2_ := Aside0.mk (Kd.R_lower (Kd.R_new' (Kd.R_new' ho0 (Kd.R_lt (by (with_reducible repeat (first | apply Kd.R_alloc | apply Kd.R_drewN | apply Kd.R_drew)); exact HO165.out))) (Kd.R_lt (by (with_reducible repeat (first | apply Kd.R_alloc | apply Kd.R_drewN | apply Kd.R_drew)); exact HO170.out))) (below_size (by repeat (first | (with_reducible first | exact HB.out | apply below_alloc | apply pw_below_drewN | apply below_drew1) | exact HB.out)))); have n3_ := Aside0.mk (below_step (by repeat (first | (with_reducible first | exact HB.out | apply below_alloc | apply pw_below_drewN | apply below_drew1) | exact HB.out)) hb); clear HO165; clear HO170; clear HB; have HO165 := n0_; have HO170 := n1_; have HO177 := n2_; have HB := n3_; clear n0_ n1_ n2_ n3_; (try clear hb); (try clear hb2); (try clear hk); (try clear hi); (try clear ho0); obtain ⟨Ao51, co51, eo51⟩ := Kd.R_slice HO177.out; subst eo51) | ((with_reducible refine gate_callee (f := 15) rfl ?_); refine goesL_ (some 48) rfl rfl Tryd.func15 (by kernel_rfl) rfl #[.slice Ao51 t173.length co51] rfl (by (try simp only [List.map_toArray, List.map_cons, List.map_nil]); first | done | rfl | (simp only [List.length_drop, List.length_take]; rfl)) ?_; (with_reducible refine (jsontext_Print.calls _ _ t173 t178 t179 _ ?side3 ?side1 ?side2 A15.out).mono ?_); (case side1 => repeat (first | exact (Kd.R_reads' HO177.out).2.2 | (with_reducible refine Kd.C_alloc ?_ _) | (with_reducible refine Kd.C_drewN ?_ _) | (with_reducible refine Kd.C_drew ?_))); (case side2 => exact (Kd.R_reads' HO177.out).2.1); (case side3 => first | exact HGU8.out | exact GlobU8.below HGU8.out (by repeat (first | (with_reducible first | exact HB.out | apply below_alloc | apply pw_below_drewN | apply below_drew1) | exact HB.out)) | exact GlobU8.drawn HGU8.out (by repeat (first | exact Drawn0.refl _ | apply Drawn0.step))); rintro e w52 ⟨rfl, hb⟩; refine ⟨_, rfl, ?_⟩; have n0_ := Aside0.mk (Kd.R_below (by (with_reducible repeat (first | apply Kd.R_alloc | apply Kd.R_drewN | apply Kd.R_drew)); exact HO165.out) hb); have n1_ := Aside0.mk (Kd.R_below (by (with_reducible repeat (first | apply Kd.R_alloc | apply Kd.R_drewN | apply Kd.R_drew)); exact HO170.out) hb); have n2_ := Aside0.mk (Kd.R_below (by (with_reducible repeat (first | apply Kd.R_alloc | apply Kd.R_drewN | apply Kd.R_drew)); exact HO177.out) hb); have n3_ := Aside0.mk (below_step (by repeat (first | (with_reducible first | exact HB.out | apply below_alloc | apply pw_below_drewN | apply below_drew1) | exact HB.out)) hb); clear HO165; clear HO170; clear HO177; clear HB; have HO165 := n0_; have HO170 := n1_; have HO177 := n2_; have HB := n3_; clear n0_ n1_ n2_ n3_; (try clear hb); (try clear hb2); (try clear hk); (try clear hi)) | ((with_reducible refine gate_callee (f := 16) rfl ?_); refine goesL_ (some 52) rfl rfl Tryd.func16 (by kernel_rfl) rfl #[.slice Ao48 t166.length co48] rfl (by (try simp only [List.map_toArray, List.map_cons, List.map_nil]); first | done | rfl | (simp only [List.length_drop, List.length_take]; rfl)) ?_; (with_reducible refine (jsontext_Check.calls k _ _ t166 t180 _ ?side3 ?side1 ?side2 A16.out).mono ?_); (case side1 => repeat (first | exact (Kd.R_reads' HO170.out).2.2 | (with_reducible refine Kd.C_alloc ?_ _) | (with_reducible refine Kd.C_drewN ?_ _) | (with_reducible refine Kd.C_drew ?_))); (case side2 => exact (Kd.R_reads' HO170.out).2.1); (case side3 => first | exact HGU8.out | exact GlobU8.below HGU8.out (by repeat (first | (with_reducible first | exact HB.out | apply below_alloc | apply pw_below_drewN | apply below_drew1) | exact HB.out)) | exact GlobU8.drawn HGU8.out (by repeat (first | exact Drawn0.refl _ | apply Drawn0.step))); rintro e w53 ⟨rfl, hb⟩; refine ⟨_, rfl, ?_⟩; have n0_ := Aside0.mk (Kd.R_below (by (with_reducible repeat (first | apply Kd.R_alloc | apply Kd.R_drewN | apply Kd.R_drew)); exact HO165.out) hb); have n1_ := Aside0.mk (Kd.R_below (by (with_reducible repeat (first | apply Kd.R_alloc | apply Kd.R_drewN | apply Kd.R_drew)); exact HO170.out) hb); have n2_ := Aside0.mk (Kd.R_below (by (with_reducible repeat (first | apply Kd.R_alloc | apply Kd.R_drewN | apply Kd.R_drew)); exact HO177.out) hb); have n3_ := Aside0.mk (below_step (by repeat (first | (with_reducible first | exact HB.out | apply below_alloc | apply pw_below_drewN | apply below_drew1) | exact HB.out)) hb); clear HO165; clear HO170; clear HO177; clear HB; have HO165 := n0_; have HO170 := n1_; have HO177 := n2_; have HB := n3_; clear n0_ n1_ n2_ n3_; (try clear hb); (try clear hb2); (try clear hk); (try clear hi)))
                go_ret
                exact ⟨by first | rfl | (simp [errW_none, errW_some] <;> rfl) | (simp only [← hji3]; first | rfl | (simp [errW_none, errW_some] <;> rfl)) | (simp [*, errW_none, errW_some] <;> rfl), by repeat (first | (with_reducible first | exact HB.out | apply below_alloc | apply pw_below_drewN | apply below_drew1) | exact HB.out)⟩
            · rw [if_neg c18] at H
              have c18b0 : (t172 == 0) = false := beq_eq_false_iff_ne.mpr c18
              have c18b1 : (t172 != 0) = true := bne_iff_ne.mpr c18
              obtain rfl := Option.some.inj H
              obtain ⟨Ao54, co54, eo54⟩ := Kd.R_slice HO170.out
              subst eo54
              go_wp2_with (first | ((with_reducible refine gate_callee (f := 15) rfl ?_); refine goesL_ (some 37) rfl rfl Tryd.func15 (by kernel_rfl) rfl #[.slice Ao54 t166.length co54] rfl (by (try simp only [List.map_toArray, List.map_cons, List.map_nil]); first | done | rfl | (simp only [List.length_drop, List.length_take]; rfl)) ?_; (with_reducible refine (jsontext_Print.calls _ _ t166 t171 t172 _ ?side3 ?side1 ?side2 A13.out).mono ?_); (case side1 => repeat (first | exact (Kd.R_reads' HO170.out).2.2 | (with_reducible refine Kd.C_alloc ?_ _) | (with_reducible refine Kd.C_drewN ?_ _) | (with_reducible refine Kd.C_drew ?_))); (case side2 => exact (Kd.R_reads' HO170.out).2.1); (case side3 => first | exact HGU8.out | exact GlobU8.below HGU8.out (by repeat (first | (with_reducible first | exact HB.out | apply below_alloc | apply pw_below_drewN | apply below_drew1) | exact HB.out)) | exact GlobU8.drawn HGU8.out (by repeat (first | exact Drawn0.refl _ | apply Drawn0.step))); rintro e w55 ⟨rfl, hb⟩; refine ⟨_, rfl, ?_⟩; have n0_ := Aside0.mk (Kd.R_below (by (with_reducible repeat (first | apply Kd.R_alloc | apply Kd.R_drewN | apply Kd.R_drew)); exact HO165.out) hb); have n1_ := Aside0.mk (Kd.R_below (by (with_reducible repeat (first | apply Kd.R_alloc | apply Kd.R_drewN | apply Kd.R_drew)); exact HO170.out) hb); have n2_ := Aside0.mk (below_step (by repeat (first | (with_reducible first | exact HB.out | apply below_alloc | apply pw_below_drewN | apply below_drew1) | exact HB.out)) hb); clear HO165; clear HO170; clear HB; have HO165 := n0_; have HO170 := n1_; have HB := n2_; clear n0_ n1_ n2_; (try clear hb); (try clear hb2); (try clear hk); (try clear hi)) | ((with_reducible refine gate_callee (f := 10) rfl ?_); refine goesL_ (some 42) rfl rfl Tryd.func10 (by kernel_rfl) rfl #[.string t171] rfl (by (try simp only [List.map_toArray, List.map_cons, List.map_nil]); first | done | rfl | (simp only [List.length_drop, List.length_take]; rfl)) ?_; (with_reducible refine (jsontext_Parse.calls t171 t173 t174 t175 _ ?side1 A14.out).mono ?_); (case side1 => first | exact HGU8.out | exact GlobU8.below HGU8.out (by repeat (first | (with_reducible first | exact HB.out | apply below_alloc | apply pw_below_drewN | apply below_drew1) | exact HB.out)) | exact GlobU8.drawn HGU8.out (by repeat (first | exact Drawn0.refl _ | apply Drawn0.step))); rintro e w56 ⟨v176, rfl, ho0, hb⟩; refine ⟨_, rfl, ?_⟩; have n0_ := Aside0.mk (Kd.R_elder' (by (with_reducible repeat (first | apply Kd.R_alloc | apply Kd.R_drewN | apply Kd.R_drew)); exact HO165.out) (Kd.R_base ho0) hb); have n1_ := Aside0.mk (Kd.R_elder' (by (with_reducible repeat (first | apply Kd.R_alloc | apply Kd.R_drewN | apply Kd.R_drew)); exact HO170.out) (Kd.R_base ho0) hb); have n2_ := Aside0.mk (Kd.R_lower (Kd.R_new' (Kd.R_new' ho0 (Kd.R_lt (by (with_reducible repeat (first | apply Kd.R_alloc | apply Kd.R_drewN | apply Kd.R_drew)); exact HO165.out))) (Kd.R_lt (by (with_reducible repeat (first | apply Kd.R_alloc | apply Kd.R_drewN | apply Kd.R_drew)); exact HO170.out))) (below_size (by repeat (first | (with_reducible first | exact HB.out | apply below_alloc | apply pw_below_drewN | apply below_drew1) | exact HB.out)))); have n3_ := Aside0.mk (below_step (by repeat (first | (with_reducible first | exact HB.out | apply below_alloc | apply pw_below_drewN | apply below_drew1) | exact HB.out)) hb); clear HO165; clear HO170; clear HB; have HO165 := n0_; have HO170 := n1_; have HO177 := n2_; have HB := n3_; clear n0_ n1_ n2_ n3_; (try clear hb); (try clear hb2); (try clear hk); (try clear hi); (try clear ho0); obtain ⟨Ao57, co57, eo57⟩ := Kd.R_slice HO177.out; subst eo57) | ((with_reducible refine gate_callee (f := 15) rfl ?_); refine goesL_ (some 48) rfl rfl Tryd.func15 (by kernel_rfl) rfl #[.slice Ao57 t173.length co57] rfl (by (try simp only [List.map_toArray, List.map_cons, List.map_nil]); first | done | rfl | (simp only [List.length_drop, List.length_take]; rfl)) ?_; (with_reducible refine (jsontext_Print.calls _ _ t173 t178 t179 _ ?side3 ?side1 ?side2 A15.out).mono ?_); (case side1 => repeat (first | exact (Kd.R_reads' HO177.out).2.2 | (with_reducible refine Kd.C_alloc ?_ _) | (with_reducible refine Kd.C_drewN ?_ _) | (with_reducible refine Kd.C_drew ?_))); (case side2 => exact (Kd.R_reads' HO177.out).2.1); (case side3 => first | exact HGU8.out | exact GlobU8.below HGU8.out (by repeat (first | (with_reducible first | exact HB.out | apply below_alloc | apply pw_below_drewN | apply below_drew1) | exact HB.out)) | exact GlobU8.drawn HGU8.out (by repeat (first | exact Drawn0.refl _ | apply Drawn0.step))); rintro e w58 ⟨rfl, hb⟩; refine ⟨_, rfl, ?_⟩; have n0_ := Aside0.mk (Kd.R_below (by (with_reducible repeat (first | apply Kd.R_alloc | apply Kd.R_drewN | apply Kd.R_drew)); exact HO165.out) hb); have n1_ := Aside0.mk (Kd.R_below (by (with_reducible repeat (first | apply Kd.R_alloc | apply Kd.R_drewN | apply Kd.R_drew)); exact HO170.out) hb); have n2_ := Aside0.mk (Kd.R_below (by (with_reducible repeat (first | apply Kd.R_alloc | apply Kd.R_drewN | apply Kd.R_drew)); exact HO177.out) hb); have n3_ := Aside0.mk (below_step (by repeat (first | (with_reducible first | exact HB.out | apply below_alloc | apply pw_below_drewN | apply below_drew1) | exact HB.out)) hb); clear HO165; clear HO170; clear HO177; clear HB; have HO165 := n0_; have HO170 := n1_; have HO177 := n2_; have HB := n3_; clear n0_ n1_ n2_ n3_; (try clear hb); (try clear hb2); (try clear hk); (try clear hi)) | ((with_reducible refine gate_callee (f := 16) rfl ?_); refine goesL_ (some 52) rfl rfl Tryd.func16 (by kernel_rfl) rfl #[.slice Ao54 t166.length co54] rfl (by (try simp only [List.map_toArray, List.map_cons, List.map_nil]); first | done | rfl | (simp only [List.length_drop, List.length_take]; rfl)) ?_; (with_reducible refine (jsontext_Check.calls k _ _ t166 t180 _ ?side3 ?side1 ?side2 A16.out).mono ?_); (case side1 => repeat (first | exact (Kd.R_reads' HO170.out).2.2 | (with_reducible refine Kd.C_alloc ?_ _) | (with_reducible refine Kd.C_drewN ?_ _) | (with_reducible refine Kd.C_drew ?_))); (case side2 => exact (Kd.R_reads' HO170.out).2.1); (case side3 => first | exact HGU8.out | exact GlobU8.below HGU8.out (by repeat (first | (with_reducible first | exact HB.out | apply below_alloc | apply pw_below_drewN | apply below_drew1) | exact HB.out)) | exact GlobU8.drawn HGU8.out (by repeat (first | exact Drawn0.refl _ | apply Drawn0.step))); rintro e w59 ⟨rfl, hb⟩; refine ⟨_, rfl, ?_⟩; have n0_ := Aside0.mk (Kd.R_below (by (with_reducible repeat (first | apply Kd.R_alloc | apply Kd.R_drewN | apply Kd.R_drew)); exact HO165.out) hb); have n1_ := Aside0.mk (Kd.R_below (by (with_reducible repeat (first | apply Kd.R_alloc | apply Kd.R_drewN | apply Kd.R_drew)); exact HO170.out) hb); have n2_ := Aside0.mk (Kd.R_below (by (with_reducible repeat (first | apply Kd.R_alloc | apply Kd.R_drewN | apply Kd.R_drew)); exact HO177.out) hb); have n3_ := Aside0.mk (below_step (by repeat (first | (with_reducible first | exact HB.out | apply below_alloc | apply pw_below_drewN | apply below_drew1) | exact HB.out)) hb); clear HO165; clear HO170; clear HO177; clear HB; have HO165 := n0_; have HO170 := n1_; have HO177 := n2_; have HB := n3_; clear n0_ n1_ n2_ n3_; (try clear hb); (try clear hb2); (try clear hk); (try clear hi)))
              go_ret
              exact ⟨by first | rfl | (simp [errW_none, errW_some] <;> rfl) | (simp only [← hji3]; first | rfl | (simp [errW_none, errW_some] <;> rfl)) | (simp [*, errW_none, errW_some] <;> rfl), by repeat (first | (with_reducible first | exact HB.out | apply below_alloc | apply pw_below_drewN | apply below_drew1) | exact HB.out)⟩
          · rw [if_neg c17] at H
            have c17b0 : (t180 == 0) = false := beq_eq_false_iff_ne.mpr c17
            have c17b1 : (t180 != 0) = true := bne_iff_ne.mpr c17
            obtain rfl := Option.some.inj H
            obtain ⟨Ao60, co60, eo60⟩ := Kd.R_slice HO170.out
            subst eo60
            go_wp2_with (first | ((with_reducible refine gate_callee (f := 15) rfl ?_); refine goesL_ (some 37) rfl rfl Tryd.func15 (by kernel_rfl) rfl #[.slice Ao60 t166.length co60] rfl (by (try simp only [List.map_toArray, List.map_cons, List.map_nil]); first | done | rfl | (simp only [List.length_drop, List.length_take]; rfl)) ?_; (with_reducible refine (jsontext_Print.calls _ _ t166 t171 t172 _ ?side3 ?side1 ?side2 A13.out).mono ?_); (case side1 => repeat (first | exact (Kd.R_reads' HO170.out).2.2 | (with_reducible refine Kd.C_alloc ?_ _) | (with_reducible refine Kd.C_drewN ?_ _) | (with_reducible refine Kd.C_drew ?_))); (case side2 => exact (Kd.R_reads' HO170.out).2.1); (case side3 => first | exact HGU8.out | exact GlobU8.below HGU8.out (by repeat (first | (with_reducible first | exact HB.out | apply below_alloc | apply pw_below_drewN | apply below_drew1) | exact HB.out)) | exact GlobU8.drawn HGU8.out (by repeat (first | exact Drawn0.refl _ | apply Drawn0.step))); rintro e w61 ⟨rfl, hb⟩; refine ⟨_, rfl, ?_⟩; have n0_ := Aside0.mk (Kd.R_below (by (with_reducible repeat (first | apply Kd.R_alloc | apply Kd.R_drewN | apply Kd.R_drew)); exact HO165.out) hb); have n1_ := Aside0.mk (Kd.R_below (by (with_reducible repeat (first | apply Kd.R_alloc | apply Kd.R_drewN | apply Kd.R_drew)); exact HO170.out) hb); have n2_ := Aside0.mk (below_step (by repeat (first | (with_reducible first | exact HB.out | apply below_alloc | apply pw_below_drewN | apply below_drew1) | exact HB.out)) hb); clear HO165; clear HO170; clear HB; have HO165 := n0_; have HO170 := n1_; have HB := n2_; clear n0_ n1_ n2_; (try clear hb); (try clear hb2); (try clear hk); (try clear hi)) | ((with_reducible refine gate_callee (f := 10) rfl ?_); refine goesL_ (some 42) rfl rfl Tryd.func10 (by kernel_rfl) rfl #[.string t171] rfl (by (try simp only [List.map_toArray, List.map_cons, List.map_nil]); first | done | rfl | (simp only [List.length_drop, List.length_take]; rfl)) ?_; (with_reducible refine (jsontext_Parse.calls t171 t173 t174 t175 _ ?side1 A14.out).mono ?_); (case side1 => first | exact HGU8.out | exact GlobU8.below HGU8.out (by repeat (first | (with_reducible first | exact HB.out | apply below_alloc | apply pw_below_drewN | apply below_drew1) | exact HB.out)) | exact GlobU8.drawn HGU8.out (by repeat (first | exact Drawn0.refl _ | apply Drawn0.step))); rintro e w62 ⟨v176, rfl, ho0, hb⟩; refine ⟨_, rfl, ?_⟩; have n0_ := Aside0.mk (Kd.R_elder' (by (with_reducible repeat (first | apply Kd.R_alloc | apply Kd.R_drewN | apply Kd.R_drew)); exact HO165.out) (Kd.R_base ho0) hb); have n1_ := Aside0.mk (Kd.R_elder' (by (with_reducible repeat (first | apply Kd.R_alloc | apply Kd.R_drewN | apply Kd.R_drew)); exact HO170.out) (Kd.R_base ho0) hb); have n2_ := Aside0.mk (Kd.R_lower (Kd.R_new' (Kd.R_new' ho0 (Kd.R_lt (by (with_reducible repeat (first | apply Kd.R_alloc | apply Kd.R_drewN | apply Kd.R_drew)); exact HO165.out))) (Kd.R_lt (by (with_reducible repeat (first | apply Kd.R_alloc | apply Kd.R_drewN | apply Kd.R_drew)); exact HO170.out))) (below_size (by repeat (first | (with_reducible first | exact HB.out | apply below_alloc | apply pw_below_drewN | apply below_drew1) | exact HB.out)))); have n3_ := Aside0.mk (below_step (by repeat (first | (with_reducible first | exact HB.out | apply below_alloc | apply pw_below_drewN | apply below_drew1) | exact HB.out)) hb); clear HO165; clear HO170; clear HB; have HO165 := n0_; have HO170 := n1_; have HO177 := n2_; have HB := n3_; clear n0_ n1_ n2_ n3_; (try clear hb); (try clear hb2); (try clear hk); (try clear hi); (try clear ho0); obtain ⟨Ao63, co63, eo63⟩ := Kd.R_slice HO177.out; subst eo63) | ((with_reducible refine gate_callee (f := 15) rfl ?_); refine goesL_ (some 48) rfl rfl Tryd.func15 (by kernel_rfl) rfl #[.slice Ao63 t173.length co63] rfl (by (try simp only [List.map_toArray, List.map_cons, List.map_nil]); first | done | rfl | (simp only [List.length_drop, List.length_take]; rfl)) ?_; (with_reducible refine (jsontext_Print.calls _ _ t173 t178 t179 _ ?side3 ?side1 ?side2 A15.out).mono ?_); (case side1 => repeat (first | exact (Kd.R_reads' HO177.out).2.2 | (with_reducible refine Kd.C_alloc ?_ _) | (with_reducible refine Kd.C_drewN ?_ _) | (with_reducible refine Kd.C_drew ?_))); (case side2 => exact (Kd.R_reads' HO177.out).2.1); (case side3 => first | exact HGU8.out | exact GlobU8.below HGU8.out (by repeat (first | (with_reducible first | exact HB.out | apply below_alloc | apply pw_below_drewN | apply below_drew1) | exact HB.out)) | exact GlobU8.drawn HGU8.out (by repeat (first | exact Drawn0.refl _ | apply Drawn0.step))); rintro e w64 ⟨rfl, hb⟩; refine ⟨_, rfl, ?_⟩; have n0_ := Aside0.mk (Kd.R_below (by (with_reducible repeat (first | apply Kd.R_alloc | apply Kd.R_drewN | apply Kd.R_drew)); exact HO165.out) hb); have n1_ := Aside0.mk (Kd.R_below (by (with_reducible repeat (first | apply Kd.R_alloc | apply Kd.R_drewN | apply Kd.R_drew)); exact HO170.out) hb); have n2_ := Aside0.mk (Kd.R_below (by (with_reducible repeat (first | apply Kd.R_alloc | apply Kd.R_drewN | apply Kd.R_drew)); exact HO177.out) hb); have n3_ := Aside0.mk (below_step (by repeat (first | (with_reducible first | exact HB.out | apply below_alloc | apply pw_below_drewN | apply below_drew1) | exact HB.out)) hb); clear HO165; clear HO170; clear HO177; clear HB; have HO165 := n0_; have HO170 := n1_; have HO177 := n2_; have HB := n3_; clear n0_ n1_ n2_ n3_; (try clear hb); (try clear hb2); (try clear hk); (try clear hi)) | ((with_reducible refine gate_callee (f := 16) rfl ?_); refine goesL_ (some 52) rfl rfl Tryd.func16 (by kernel_rfl) rfl #[.slice Ao60 t166.length co60] rfl (by (try simp only [List.map_toArray, List.map_cons, List.map_nil]); first | done | rfl | (simp only [List.length_drop, List.length_take]; rfl)) ?_; (with_reducible refine (jsontext_Check.calls k _ _ t166 t180 _ ?side3 ?side1 ?side2 A16.out).mono ?_); (case side1 => repeat (first | exact (Kd.R_reads' HO170.out).2.2 | (with_reducible refine Kd.C_alloc ?_ _) | (with_reducible refine Kd.C_drewN ?_ _) | (with_reducible refine Kd.C_drew ?_))); (case side2 => exact (Kd.R_reads' HO170.out).2.1); (case side3 => first | exact HGU8.out | exact GlobU8.below HGU8.out (by repeat (first | (with_reducible first | exact HB.out | apply below_alloc | apply pw_below_drewN | apply below_drew1) | exact HB.out)) | exact GlobU8.drawn HGU8.out (by repeat (first | exact Drawn0.refl _ | apply Drawn0.step))); rintro e w65 ⟨rfl, hb⟩; refine ⟨_, rfl, ?_⟩; have n0_ := Aside0.mk (Kd.R_below (by (with_reducible repeat (first | apply Kd.R_alloc | apply Kd.R_drewN | apply Kd.R_drew)); exact HO165.out) hb); have n1_ := Aside0.mk (Kd.R_below (by (with_reducible repeat (first | apply Kd.R_alloc | apply Kd.R_drewN | apply Kd.R_drew)); exact HO170.out) hb); have n2_ := Aside0.mk (Kd.R_below (by (with_reducible repeat (first | apply Kd.R_alloc | apply Kd.R_drewN | apply Kd.R_drew)); exact HO177.out) hb); have n3_ := Aside0.mk (below_step (by repeat (first | (with_reducible first | exact HB.out | apply below_alloc | apply pw_below_drewN | apply below_drew1) | exact HB.out)) hb); clear HO165; clear HO170; clear HO177; clear HB; have HO165 := n0_; have HO170 := n1_; have HO177 := n2_; have HB := n3_; clear n0_ n1_ n2_ n3_; (try clear hb); (try clear hb2); (try clear hk); (try clear hi)))
            go_ret
            exact ⟨by first | rfl | (simp [errW_none, errW_some] <;> rfl) | (simp only [← hji3]; first | rfl | (simp [errW_none, errW_some] <;> rfl)) | (simp [*, errW_none, errW_some] <;> rfl), by repeat (first | (with_reducible first | exact HB.out | apply below_alloc | apply pw_below_drewN | apply below_drew1) | exact HB.out)⟩
        · rw [if_neg c12] at H
          have c12b0 : (t168 == 0) = false := beq_eq_false_iff_ne.mpr c12
          have c12b1 : (t168 != 0) = true := bne_iff_ne.mpr c12
          (first | rw [c12b0] | (simp only [i64_w, i32_w]; rw [c12b0]) | skip)
          have H' := Aside0.mk H
          clear H
          go_wp2
          go_meet
          case rel => exact ⟨_, (by first | exact H' | (subst_vars; exact H')), ⟨by first | omega | exact Nat.le_refl _⟩, ⟨by (with_reducible repeat (first | apply Kd.R_alloc | apply Kd.R_drewN | apply Kd.R_drew)); exact Kd.R_mono HO165.out (fun _ hk => trivial)⟩, ⟨by repeat (first | (with_reducible first | exact HB.out | apply below_alloc | apply pw_below_drewN | apply below_drew1) | exact HB.out)⟩⟩
      case rest =>
        clear HC8
        try clear c1
        try clear c2
        try clear p2
        try clear c4
        try clear c4b0
        try clear c4b1
        try clear c5
        try clear c5b0
        try clear c5b1
        try clear c10
        try clear c12
        try clear c12b0
        try clear c12b1
        try clear c14
        try clear c15
        try clear c16
        try clear c17
        try clear c17b0
        try clear c17b1
        try clear c18
        try clear c18b0
        try clear c18b1
        try clear c19
        try clear c19b0
        try clear c19b1
        try clear c20
        try clear c20b0
        try clear c20b1
        try clear c22
        try clear c23
        try clear c23b0
        try clear c23b1
        obtain ⟨kq, HA, HJ7, HO_1, HB⟩ := hcut
        cases kq with
        | zero => exact absurd HA.out (by simp [racewaylaw25_JsontextBack.j0])
        | succ kj7 =>
          have H := HA.out
          clear HA
          simp only [racewaylaw25_JsontextBack.j0] at H
          replace H := Option.bind_eq_some_iff.mp H
          obtain ⟨⟨t182, t183⟩, A660, H⟩ := H
          replace H : (if t183 = 0 then (racewaylaw25_JsontextBack.j1 kj7 t163 t182 (decide ((t182.size : Int) ≤ 65536))) else (racewaylaw25_JsontextBack.j1 kj7 t163 t182 false)) = some r := H
          have A66 := Aside0.mk A660
          clear A660
          have HC67 := Aside0.mk H
          clear H
          obtain ⟨Ao68, co68, eo68⟩ := Kd.R_slice HO_1.out
          subst eo68
          go_upto_region 10 with (first | ((with_reducible refine gate_callee (f := 15) rfl ?_); refine goesL_ (some 79) rfl rfl Tryd.func15 (by kernel_rfl) rfl #[.slice Ao68 t163.length co68] rfl (by (try simp only [List.map_toArray, List.map_cons, List.map_nil]); first | done | rfl | (simp only [List.length_drop, List.length_take]; rfl)) ?_; (with_reducible refine (jsontext_Print.calls _ _ t163 t182 t183 _ ?side3 ?side1 ?side2 A66.out).mono ?_); (case side1 => repeat (first | exact (Kd.R_reads' HO_1.out).2.2 | (with_reducible refine Kd.C_alloc ?_ _) | (with_reducible refine Kd.C_drewN ?_ _) | (with_reducible refine Kd.C_drew ?_))); (case side2 => exact (Kd.R_reads' HO_1.out).2.1); (case side3 => first | exact HGU8.out | exact GlobU8.below HGU8.out (by repeat (first | (with_reducible first | exact HB.out | apply below_alloc | apply pw_below_drewN | apply below_drew1) | exact HB.out)) | exact GlobU8.drawn HGU8.out (by repeat (first | exact Drawn0.refl _ | apply Drawn0.step))); rintro e w69 ⟨rfl, hb⟩; refine ⟨_, rfl, ?_⟩; have n0_ := Aside0.mk (Kd.R_below (by (with_reducible repeat (first | apply Kd.R_alloc | apply Kd.R_drewN | apply Kd.R_drew)); exact HO_1.out) hb); have n1_ := Aside0.mk (below_step (by repeat (first | (with_reducible first | exact HB.out | apply below_alloc | apply pw_below_drewN | apply below_drew1) | exact HB.out)) hb); clear HO_1; clear HB; have HO_1 := n0_; have HB := n1_; clear n0_ n1_; (try clear hb); (try clear hb2); (try clear hk); (try clear hi)))
          (try simp only [Act.put, List.setIfInBounds_toArray, List.set_cons_zero, List.set_cons_succ])
          go_cut [88] (fun v88 wc => ∃ (kq : Nat) (x88_66 : Bool), v88 = .bool x88_66 ∧ Aside0 (racewaylaw25_JsontextBack.j1 kq t163 t182 x88_66 = some r) ∧ Aside0 (kq ≤ kj7) ∧ Aside0 (Kd.R k46 46 wc w.heap.size (fun _ => True) (.slice Ao68 t163.length co68) t163) ∧ Aside0 (Below w.heap.size w wc))
          case first =>
            have H := HC67.out
            clear HC67
            by_cases c70 : t183 = 0
            · rw [if_pos c70] at H
              have c70b0 : (t183 == 0) = true := beq_iff_eq.mpr c70
              have c70b1 : (t183 != 0) = false := bne_eq_false_iff_eq.mpr c70
              clear c70
              (first | rw [c70b0] | (simp only [i64_w, i32_w]; rw [c70b0]) | skip)
              have H' := Aside0.mk H
              clear H
              go_wp2
              go_meet
              case rel => exact ⟨_, (decide ((t182.size : Int) ≤ 65536)), (by first | rfl | (simp; done) | (simp; decide +kernel) | (simp [*]; done)), (by first | exact H' | (subst_vars; exact H')), ⟨by have := HJ7.out; first | omega | exact Nat.le_refl _⟩, ⟨by (with_reducible repeat (first | apply Kd.R_alloc | apply Kd.R_drewN | apply Kd.R_drew)); exact HO_1.out⟩, ⟨by repeat (first | (with_reducible first | exact HB.out | apply below_alloc | apply pw_below_drewN | apply below_drew1) | exact HB.out)⟩⟩
            · rw [if_neg c70] at H
              have c70b0 : (t183 == 0) = false := beq_eq_false_iff_ne.mpr c70
              have c70b1 : (t183 != 0) = true := bne_iff_ne.mpr c70
              (first | rw [c70b0] | (simp only [i64_w, i32_w]; rw [c70b0]) | skip)
              have H' := Aside0.mk H
              clear H
              go_wp2
              go_meet
              case rel => exact ⟨_, (false), (by first | rfl | (simp; done) | (simp; decide +kernel) | (simp [*]; done)), (by first | exact H' | (subst_vars; exact H')), ⟨by have := HJ7.out; first | omega | exact Nat.le_refl _⟩, ⟨by (with_reducible repeat (first | apply Kd.R_alloc | apply Kd.R_drewN | apply Kd.R_drew)); exact HO_1.out⟩, ⟨by repeat (first | (with_reducible first | exact HB.out | apply below_alloc | apply pw_below_drewN | apply below_drew1) | exact HB.out)⟩⟩
          case rest =>
            clear HC67
            try clear c1
            try clear c2
            try clear p2
            try clear c4
            try clear c4b0
            try clear c4b1
            try clear c5
            try clear c5b0
            try clear c5b1
            try clear c7
            try clear c10
            try clear c12
            try clear c12b0
            try clear c12b1
            try clear c14
            try clear c15
            try clear c16
            try clear c17
            try clear c17b0
            try clear c17b1
            try clear c18
            try clear c18b0
            try clear c18b1
            try clear c19
            try clear c19b0
            try clear c19b1
            try clear c20
            try clear c20b0
            try clear c20b1
            try clear c22
            try clear c23
            try clear c23b0
            try clear c23b1
            try clear c70
            try clear c70b0
            try clear c70b1
            try clear p2
            obtain ⟨kq, x88_66, rfl, HA, HJ66, HO_1, HB⟩ := hcut
            cases kq with
            | zero => exact absurd HA.out (by simp [racewaylaw25_JsontextBack.j1])
            | succ kj66 =>
              have H := HA.out
              clear HA
              simp only [racewaylaw25_JsontextBack.j1] at H
              by_cases c71 : x88_66 = true
              · subst c71
                have H1 : ((jsontext_Parse.f t182).bind fun bt184 => (if bt184.2.2 = 0 then ((racewayref25_Same.f kj66 t163 bt184.1).bind fun t189 => (if t189 = true then ((racewaylaw25_works.f).bind fun t190 => (some t190)) else (some false))) else (some false))) = some r := by rw [if_pos rfl] at H; exact H
                clear H
                have H := H1
                clear H1
                replace H := Option.bind_eq_some_iff.mp H
                obtain ⟨⟨t184, t185, t186⟩, A720, H⟩ := H
                replace H : (if t186 = 0 then ((racewayref25_Same.f kj66 t163 t184).bind fun t189 => (if t189 = true then ((racewaylaw25_works.f).bind fun t190 => (some t190)) else (some false))) else (some false)) = some r := H
                have A72 := Aside0.mk A720
                clear A720
                by_cases c73 : t186 = 0
                · rw [if_pos c73] at H
                  have c73b0 : (t186 == 0) = true := beq_iff_eq.mpr c73
                  have c73b1 : (t186 != 0) = false := bne_eq_false_iff_eq.mpr c73
                  clear c73
                  replace H := Option.bind_eq_some_iff.mp H
                  obtain ⟨t189, A740, H⟩ := H
                  replace H : (if t189 = true then ((racewaylaw25_works.f).bind fun t190 => (some t190)) else (some false)) = some r := H
                  have A74 := Aside0.mk A740
                  clear A740
                  by_cases c75 : t189 = true
                  · subst c75
                    have H1 : ((racewaylaw25_works.f).bind fun t190 => (some t190)) = some r := by rw [if_pos rfl] at H; exact H
                    clear H
                    have H := H1
                    clear H1
                    replace H := Option.bind_eq_some_iff.mp H
                    obtain ⟨t190, A760, H⟩ := H
                    replace H : (some t190) = some r := H
                    have A76 := Aside0.mk A760
                    clear A760
                    obtain rfl := Option.some.inj H
                    go_wp2_with (first | ((with_reducible refine gate_callee (f := 10) rfl ?_); refine goesL_ (some 91) rfl rfl Tryd.func10 (by kernel_rfl) rfl #[.string t182] rfl (by (try simp only [List.map_toArray, List.map_cons, List.map_nil]); first | done | rfl | (simp only [List.length_drop, List.length_take]; rfl)) ?_; (with_reducible refine (jsontext_Parse.calls t182 t184 t185 t186 _ ?side1 A72.out).mono ?_); (case side1 => first | exact HGU8.out | exact GlobU8.below HGU8.out (by repeat (first | (with_reducible first | exact HB.out | apply below_alloc | apply pw_below_drewN | apply below_drew1) | exact HB.out)) | exact GlobU8.drawn HGU8.out (by repeat (first | exact Drawn0.refl _ | apply Drawn0.step))); rintro e w77 ⟨v187, rfl, ho0, hb⟩; refine ⟨_, rfl, ?_⟩; have n0_ := Aside0.mk (Kd.R_elder' (by (with_reducible repeat (first | apply Kd.R_alloc | apply Kd.R_drewN | apply Kd.R_drew)); exact HO_1.out) (Kd.R_base ho0) hb); have n1_ := Aside0.mk (Kd.R_lower (Kd.R_new' ho0 (Kd.R_lt (by (with_reducible repeat (first | apply Kd.R_alloc | apply Kd.R_drewN | apply Kd.R_drew)); exact HO_1.out))) (below_size (by repeat (first | (with_reducible first | exact HB.out | apply below_alloc | apply pw_below_drewN | apply below_drew1) | exact HB.out)))); have n2_ := Aside0.mk (below_step (by repeat (first | (with_reducible first | exact HB.out | apply below_alloc | apply pw_below_drewN | apply below_drew1) | exact HB.out)) hb); clear HO_1; clear HB; have HO_1 := n0_; have HO188 := n1_; have HB := n2_; clear n0_ n1_ n2_; (try clear hb); (try clear hb2); (try clear hk); (try clear hi); (try clear ho0); obtain ⟨Ao78, co78, eo78⟩ := Kd.R_slice HO188.out; subst eo78) | (go_at_call 12; (with_reducible refine (racewayref25_Same.calls kj66 _ _ t163 _ _ t184 true _ ?side1 ?side2 ?side3 ?side4 A74.out).mono ?_); (case side1 => repeat (first | exact (Kd.R_reads' HO_1.out).2.2 | (with_reducible refine Kd.C_alloc ?_ _) | (with_reducible refine Kd.C_drewN ?_ _) | (with_reducible refine Kd.C_drew ?_))); (case side2 => exact (Kd.R_reads' HO_1.out).2.1); (case side3 => repeat (first | exact (Kd.R_reads' HO188.out).2.2 | (with_reducible refine Kd.C_alloc ?_ _) | (with_reducible refine Kd.C_drewN ?_ _) | (with_reducible refine Kd.C_drew ?_))); (case side4 => exact (Kd.R_reads' HO188.out).2.1); rintro e w' ⟨rfl, ⟨nd, rfl⟩⟩) | ((with_reducible refine gate_callee (f := 13) rfl ?_); refine goesL_ (some 103) rfl rfl Tryd.func13 (by kernel_rfl) rfl #[] rfl (by (try simp only [List.map_toArray, List.map_cons, List.map_nil]); first | done | rfl | (simp only [List.length_drop, List.length_take]; rfl)) ?_; (with_reducible refine (racewaylaw25_works.calls  t190 _ ?side1 A76.out).mono ?_); (case side1 => first | exact HGU8.out | exact GlobU8.below HGU8.out (by repeat (first | (with_reducible first | exact HB.out | apply below_alloc | apply pw_below_drewN | apply below_drew1) | exact HB.out)) | exact GlobU8.drawn HGU8.out (by repeat (first | exact Drawn0.refl _ | apply Drawn0.step))); rintro e w79 ⟨rfl, hb⟩; refine ⟨_, rfl, ?_⟩; have n0_ := Aside0.mk (Kd.R_below (by (with_reducible repeat (first | apply Kd.R_alloc | apply Kd.R_drewN | apply Kd.R_drew)); exact HO_1.out) hb); have n1_ := Aside0.mk (Kd.R_below (by (with_reducible repeat (first | apply Kd.R_alloc | apply Kd.R_drewN | apply Kd.R_drew)); exact HO188.out) hb); have n2_ := Aside0.mk (below_step (by repeat (first | (with_reducible first | exact HB.out | apply below_alloc | apply pw_below_drewN | apply below_drew1) | exact HB.out)) hb); clear HO_1; clear HO188; clear HB; have HO_1 := n0_; have HO188 := n1_; have HB := n2_; clear n0_ n1_ n2_; (try clear hb); (try clear hb2); (try clear hk); (try clear hi)))
                    go_ret
                    exact ⟨by first | rfl | (simp [errW_none, errW_some] <;> rfl) | (simp only [← hji3]; first | rfl | (simp [errW_none, errW_some] <;> rfl)) | (simp [*, errW_none, errW_some] <;> rfl), by repeat (first | (with_reducible first | exact HB.out | apply below_alloc | apply pw_below_drewN | apply below_drew1) | exact HB.out)⟩
                  · replace c75 := Bool.eq_false_iff.mpr c75
                    subst c75
                    have H1 : (some false) = some r := by rw [if_neg (show ¬ (false = true) by decide)] at H; exact H
                    clear H
                    have H := H1
                    clear H1
                    obtain rfl := Option.some.inj H
                    go_wp2_with (first | ((with_reducible refine gate_callee (f := 10) rfl ?_); refine goesL_ (some 91) rfl rfl Tryd.func10 (by kernel_rfl) rfl #[.string t182] rfl (by (try simp only [List.map_toArray, List.map_cons, List.map_nil]); first | done | rfl | (simp only [List.length_drop, List.length_take]; rfl)) ?_; (with_reducible refine (jsontext_Parse.calls t182 t184 t185 t186 _ ?side1 A72.out).mono ?_); (case side1 => first | exact HGU8.out | exact GlobU8.below HGU8.out (by repeat (first | (with_reducible first | exact HB.out | apply below_alloc | apply pw_below_drewN | apply below_drew1) | exact HB.out)) | exact GlobU8.drawn HGU8.out (by repeat (first | exact Drawn0.refl _ | apply Drawn0.step))); rintro e w80 ⟨v187, rfl, ho0, hb⟩; refine ⟨_, rfl, ?_⟩; have n0_ := Aside0.mk (Kd.R_elder' (by (with_reducible repeat (first | apply Kd.R_alloc | apply Kd.R_drewN | apply Kd.R_drew)); exact HO_1.out) (Kd.R_base ho0) hb); have n1_ := Aside0.mk (Kd.R_lower (Kd.R_new' ho0 (Kd.R_lt (by (with_reducible repeat (first | apply Kd.R_alloc | apply Kd.R_drewN | apply Kd.R_drew)); exact HO_1.out))) (below_size (by repeat (first | (with_reducible first | exact HB.out | apply below_alloc | apply pw_below_drewN | apply below_drew1) | exact HB.out)))); have n2_ := Aside0.mk (below_step (by repeat (first | (with_reducible first | exact HB.out | apply below_alloc | apply pw_below_drewN | apply below_drew1) | exact HB.out)) hb); clear HO_1; clear HB; have HO_1 := n0_; have HO188 := n1_; have HB := n2_; clear n0_ n1_ n2_; (try clear hb); (try clear hb2); (try clear hk); (try clear hi); (try clear ho0); obtain ⟨Ao81, co81, eo81⟩ := Kd.R_slice HO188.out; subst eo81) | (go_at_call 12; (with_reducible refine (racewayref25_Same.calls kj66 _ _ t163 _ _ t184 false _ ?side1 ?side2 ?side3 ?side4 A74.out).mono ?_); (case side1 => repeat (first | exact (Kd.R_reads' HO_1.out).2.2 | (with_reducible refine Kd.C_alloc ?_ _) | (with_reducible refine Kd.C_drewN ?_ _) | (with_reducible refine Kd.C_drew ?_))); (case side2 => exact (Kd.R_reads' HO_1.out).2.1); (case side3 => repeat (first | exact (Kd.R_reads' HO188.out).2.2 | (with_reducible refine Kd.C_alloc ?_ _) | (with_reducible refine Kd.C_drewN ?_ _) | (with_reducible refine Kd.C_drew ?_))); (case side4 => exact (Kd.R_reads' HO188.out).2.1); rintro e w' ⟨rfl, ⟨nd, rfl⟩⟩))
                    go_ret
                    exact ⟨by first | rfl | (simp [errW_none, errW_some] <;> rfl) | (simp only [← hji3]; first | rfl | (simp [errW_none, errW_some] <;> rfl)) | (simp [*, errW_none, errW_some] <;> rfl), by repeat (first | (with_reducible first | exact HB.out | apply below_alloc | apply pw_below_drewN | apply below_drew1) | exact HB.out)⟩
                · rw [if_neg c73] at H
                  have c73b0 : (t186 == 0) = false := beq_eq_false_iff_ne.mpr c73
                  have c73b1 : (t186 != 0) = true := bne_iff_ne.mpr c73
                  obtain rfl := Option.some.inj H
                  go_wp2_with (first | ((with_reducible refine gate_callee (f := 10) rfl ?_); refine goesL_ (some 91) rfl rfl Tryd.func10 (by kernel_rfl) rfl #[.string t182] rfl (by (try simp only [List.map_toArray, List.map_cons, List.map_nil]); first | done | rfl | (simp only [List.length_drop, List.length_take]; rfl)) ?_; (with_reducible refine (jsontext_Parse.calls t182 t184 t185 t186 _ ?side1 A72.out).mono ?_); (case side1 => first | exact HGU8.out | exact GlobU8.below HGU8.out (by repeat (first | (with_reducible first | exact HB.out | apply below_alloc | apply pw_below_drewN | apply below_drew1) | exact HB.out)) | exact GlobU8.drawn HGU8.out (by repeat (first | exact Drawn0.refl _ | apply Drawn0.step))); rintro e w82 ⟨v187, rfl, ho0, hb⟩; refine ⟨_, rfl, ?_⟩; have n0_ := Aside0.mk (Kd.R_elder' (by (with_reducible repeat (first | apply Kd.R_alloc | apply Kd.R_drewN | apply Kd.R_drew)); exact HO_1.out) (Kd.R_base ho0) hb); have n1_ := Aside0.mk (Kd.R_lower (Kd.R_new' ho0 (Kd.R_lt (by (with_reducible repeat (first | apply Kd.R_alloc | apply Kd.R_drewN | apply Kd.R_drew)); exact HO_1.out))) (below_size (by repeat (first | (with_reducible first | exact HB.out | apply below_alloc | apply pw_below_drewN | apply below_drew1) | exact HB.out)))); have n2_ := Aside0.mk (below_step (by repeat (first | (with_reducible first | exact HB.out | apply below_alloc | apply pw_below_drewN | apply below_drew1) | exact HB.out)) hb); clear HO_1; clear HB; have HO_1 := n0_; have HO188 := n1_; have HB := n2_; clear n0_ n1_ n2_; (try clear hb); (try clear hb2); (try clear hk); (try clear hi); (try clear ho0)))
                  go_ret
                  exact ⟨by first | rfl | (simp [errW_none, errW_some] <;> rfl) | (simp only [← hji3]; first | rfl | (simp [errW_none, errW_some] <;> rfl)) | (simp [*, errW_none, errW_some] <;> rfl), by repeat (first | (with_reducible first | exact HB.out | apply below_alloc | apply pw_below_drewN | apply below_drew1) | exact HB.out)⟩
              · replace c71 := Bool.eq_false_iff.mpr c71
                subst c71
                have H1 : ((racewaylaw25_works.f).bind fun t191 => (some t191)) = some r := by rw [if_neg (show ¬ (false = true) by decide)] at H; exact H
                clear H
                have H := H1
                clear H1
                replace H := Option.bind_eq_some_iff.mp H
                obtain ⟨t191, A830, H⟩ := H
                replace H : (some t191) = some r := H
                have A83 := Aside0.mk A830
                clear A830
                obtain rfl := Option.some.inj H
                go_wp2_with (first | ((with_reducible refine gate_callee (f := 13) rfl ?_); refine goesL_ (some 103) rfl rfl Tryd.func13 (by kernel_rfl) rfl #[] rfl (by (try simp only [List.map_toArray, List.map_cons, List.map_nil]); first | done | rfl | (simp only [List.length_drop, List.length_take]; rfl)) ?_; (with_reducible refine (racewaylaw25_works.calls  t191 _ ?side1 A83.out).mono ?_); (case side1 => first | exact HGU8.out | exact GlobU8.below HGU8.out (by repeat (first | (with_reducible first | exact HB.out | apply below_alloc | apply pw_below_drewN | apply below_drew1) | exact HB.out)) | exact GlobU8.drawn HGU8.out (by repeat (first | exact Drawn0.refl _ | apply Drawn0.step))); rintro e w84 ⟨rfl, hb⟩; refine ⟨_, rfl, ?_⟩; have n0_ := Aside0.mk (Kd.R_below (by (with_reducible repeat (first | apply Kd.R_alloc | apply Kd.R_drewN | apply Kd.R_drew)); exact HO_1.out) hb); have n1_ := Aside0.mk (below_step (by repeat (first | (with_reducible first | exact HB.out | apply below_alloc | apply pw_below_drewN | apply below_drew1) | exact HB.out)) hb); clear HO_1; clear HB; have HO_1 := n0_; have HB := n1_; clear n0_ n1_; (try clear hb); (try clear hb2); (try clear hk); (try clear hi)))
                go_ret
                exact ⟨by first | rfl | (simp [errW_none, errW_some] <;> rfl) | (simp only [← hji3]; first | rfl | (simp [errW_none, errW_some] <;> rfl)) | (simp [*, errW_none, errW_some] <;> rfl), by repeat (first | (with_reducible first | exact HB.out | apply below_alloc | apply pw_below_drewN | apply below_drew1) | exact HB.out)⟩
    · rw [if_neg c5] at H
      exact absurd H (by simp)
  · rw [if_neg c4] at H
    exact absurd H (by simp)

end Go.Proofs.YtadfkeipcebmfaaDoor.X

namespace Go.Proofs.YtadfkeipcebmfaaDoor.Pure
open Go.Proofs.YtadfkeipcebmfaaDoor.X
set_option linter.unusedVariables false
set_option linter.unusedSimpArgs false
theorem decN_ext (n n' b0 b1 b2 b3 c1 c2 c3 : Nat) (hn : n ≤ n') (h1 : 1 < n → b1 = c1) (h2 : 2 < n → b2 = c2) (h3 : 3 < n → b3 = c3) (h : (Lib.decodeN n b0 b1 b2 b3).2 ≠ 1) : Lib.decodeN n' b0 c1 c2 c3 = Lib.decodeN n b0 b1 b2 b3 := by
  unfold Lib.decodeN at *
  by_cases a0 : b0 < 128
  · rw [if_pos a0, if_pos a0]
  · rw [if_neg a0] at h ⊢
    rw [if_neg a0]
    by_cases a1 : b0 / 32 = 6 ∧ (1 < n ∧ b1 / 64 = 2)
    · obtain rfl := h1 a1.2.1
      rw [if_pos a1, if_pos ⟨a1.1, by omega, a1.2.2⟩]
    · rw [if_neg a1] at h ⊢
      by_cases a2 : b0 / 16 = 14 ∧ (1 < n ∧ b1 / 64 = 2) ∧ (2 < n ∧ b2 / 64 = 2)
      · obtain rfl := h1 a2.2.1.1
        obtain rfl := h2 a2.2.2.1
        rw [if_neg (by omega), if_pos a2, if_pos ⟨a2.1, ⟨by omega, a2.2.1.2⟩, by omega, a2.2.2.2⟩]
      · rw [if_neg a2] at h ⊢
        by_cases a3 : b0 / 8 = 30 ∧ (1 < n ∧ b1 / 64 = 2) ∧ (2 < n ∧ b2 / 64 = 2) ∧ (3 < n ∧ b3 / 64 = 2)
        · obtain rfl := h1 a3.2.1.1
          obtain rfl := h2 a3.2.2.1.1
          obtain rfl := h3 a3.2.2.2.1
          rw [if_neg (by omega), if_neg (by omega), if_pos a3, if_pos ⟨a3.1, ⟨by omega, a3.2.1.2⟩, ⟨by omega, a3.2.2.1.2⟩, by omega, a3.2.2.2.2⟩]
        · rw [if_neg a3] at h
          exact absurd rfl h
theorem getD_app (l x : Bs) (i : Nat) (h : i < l.length) : l.getD i 0 = (l ++ x).getD i 0 := by
  simp [List.getD_eq_getElem?_getD, List.getElem?_append_left h]
theorem sgn_ext (l x : Bs) (h : sgn l ≠ 0) : sgn (l ++ x) = sgn l := by
  cases l with
  | nil => exact absurd rfl h
  | cons c r =>
    simp only [sgn, List.cons_append] at h ⊢
    by_cases hc : c.toNat < 128
    · rw [if_pos hc, if_pos hc]
    · rw [if_neg hc] at h ⊢
      rw [if_neg hc]
      have h1 : (Lib.decodeL (c :: r)).2 ≠ 1 := fun e => h (by rw [if_pos e])
      have e : Lib.decodeL (c :: (r ++ x)) = Lib.decodeL (c :: r) := by
        rw [Lib.decodeL_N] at h1 ⊢
        rw [Lib.decodeL_N]
        have e0 : (c :: (r ++ x)) = (c :: r) ++ x := rfl
        have := decN_ext (c :: r).length ((c :: r) ++ x).length _ _ _ _ (((c :: r) ++ x).getD 1 0).toNat (((c :: r) ++ x).getD 2 0).toNat (((c :: r) ++ x).getD 3 0).toNat (by simp) (fun hh => by rw [getD_app _ x 1 hh]) (fun hh => by rw [getD_app _ x 2 hh]) (fun hh => by rw [getD_app _ x 3 hh]) h1
        rw [e0]
        exact this
      rw [e]
/-- What may stand behind a number. -/
def stops : Bs → Bool
  | [] => true
  | c :: _ => !isDig c && c != 46 && c != 101 && c != 69
theorem skip_ext (x : Bs) (hx : stops x = true) : ∀ l : Bs, skipDig (l ++ x) = skipDig l ++ x
  | [] => by
    cases x with
    | nil => rfl
    | cons c x =>
      simp only [stops, Bool.and_eq_true, Bool.not_eq_true'] at hx
      simp [skipDig, hx.1.1.1]
  | c :: l => by
    simp only [List.cons_append, skipDig]
    split
    · exact skip_ext x hx l
    · rfl
theorem digits_ext (x : Bs) (hx : stops x = true) (l r : Bs) (u : Unit) (h : digits l = .ok r u) : digits (l ++ x) = .ok (r ++ x) () := by
  cases l with
  | nil => cases h
  | cons c l =>
    simp only [digits, List.cons_append] at h ⊢
    split at h
    · rename_i hc
      injection h with h1 _
      rw [if_pos hc, skip_ext x hx, h1]
    · cases h
theorem isC_app (c : UInt8) (l x : Bs) (hx : ∀ d y, x = d :: y → (d == c) = false) : isC c (l ++ x) = isC c l := by
  cases l with
  | nil =>
    cases x with
    | nil => rfl
    | cons d y => exact hx d y rfl
  | cons a l => rfl
theorem isC_app' (c : UInt8) (l x : Bs) (h : l ≠ []) : isC c (l ++ x) = isC c l := by
  cases l with
  | nil => exact absurd rfl h
  | cons a l => rfl
theorem drop_app' (l x : Bs) (n : Nat) (h : n ≤ l.length) : (l ++ x).drop n = l.drop n ++ x := by
  rw [List.drop_append_of_le_length h]
theorem ne_digits {l r : Bs} {u : Unit} (h : digits l = .ok r u) : l ≠ [] := by
  rintro rfl
  cases h
theorem num1_ext (x : Bs) (hx : stops x = true) (l r : Bs) (u : Unit) (h : num1 l = .ok r u) : num1 (l ++ x) = .ok (r ++ x) () := by
  unfold num1 at h ⊢
  by_cases h0 : isC 48 l = true
  · rw [if_pos h0] at h
    injection h with h1 _
    have hne : l ≠ [] := by rintro rfl; cases h0
    rw [isC_app' _ _ _ hne, if_pos h0, drop_app' _ _ _ (by cases l with | nil => exact absurd rfl hne | cons => simp), h1]
  · rw [if_neg h0] at h
    rw [isC_app' _ _ _ (ne_digits h), if_neg h0]
    exact digits_ext x hx _ _ _ h
theorem len1 {l : Bs} {c : UInt8} (h : isC c l = true) : 1 ≤ l.length := by
  cases l with
  | nil => cases h
  | cons => simp
theorem num2_ext (x : Bs) (hx : stops x = true) (l r : Bs) (u : Unit) (h : num2 l = .ok r u) : num2 (l ++ x) = .ok (r ++ x) () := by
  unfold num2 at h ⊢
  rw [isC_app _ _ _ (fun d y e => by subst e; simp only [stops, Bool.and_eq_true, Bool.not_eq_true', bne_iff_ne, ne_eq] at hx; simp only [beq_eq_false_iff_ne, ne_eq]; exact hx.1.1.2)]
  by_cases h0 : isC 46 l = true
  · rw [if_pos h0] at h ⊢
    rw [drop_app' _ _ _ (len1 h0)]
    exact digits_ext x hx _ _ _ h
  · rw [if_neg h0] at h ⊢
    injection h with h1 _
    rw [h1]
theorem num3_ext (x : Bs) (hx : stops x = true) (l r : Bs) (u : Unit) (h : num3 l = .ok r u) : num3 (l ++ x) = .ok (r ++ x) () := by
  unfold num3 at h ⊢
  have hx2 := hx
  rw [isC_app 101 _ _ (fun d y e => by subst e; simp only [stops, Bool.and_eq_true, Bool.not_eq_true', bne_iff_ne, ne_eq] at hx; simp only [beq_eq_false_iff_ne, ne_eq]; exact hx.1.2),
    isC_app 69 _ _ (fun d y e => by subst e; simp only [stops, Bool.and_eq_true, Bool.not_eq_true', bne_iff_ne, ne_eq] at hx; simp only [beq_eq_false_iff_ne, ne_eq]; exact hx.2)]
  by_cases h0 : (isC 101 l || isC 69 l) = true
  · rw [if_pos h0] at h ⊢
    have hl : 1 ≤ l.length := by
      simp only [Bool.or_eq_true] at h0
      rcases h0 with h0 | h0 <;> exact len1 h0
    have hne : l.drop 1 ≠ [] := by
      intro e
      rw [e] at h
      simp only [isC, Bool.or_self, Bool.false_eq_true, if_false] at h
      exact ne_digits h rfl
    rw [drop_app' _ _ _ hl, isC_app' _ _ _ hne, isC_app' _ _ _ hne]
    by_cases h1 : (isC 43 (l.drop 1) || isC 45 (l.drop 1)) = true
    · rw [if_pos h1] at h ⊢
      have hl2 : 2 ≤ l.length := by
        have := List.length_pos_iff.2 hne
        simp at this
        omega
      rw [drop_app' _ _ _ hl2]
      exact digits_ext x hx _ _ _ h
    · rw [if_neg h1] at h ⊢
      exact digits_ext x hx _ _ _ h
  · rw [if_neg h0] at h ⊢
    injection h with h1 _
    rw [h1]
theorem num_ext (x : Bs) (hx : stops x = true) (l r : Bs) (u : Unit) (h : num l = .ok r u) : num (l ++ x) = .ok (r ++ x) () := by
  unfold num at h ⊢
  have hne : l ≠ [] := by rintro rfl; cases h
  rw [isC_app' _ _ _ hne]
  have e : (if isC 45 l = true then (l ++ x).drop 1 else l ++ x) = (if isC 45 l = true then l.drop 1 else l) ++ x := by
    split
    · rename_i h0
      rw [drop_app' _ _ _ (len1 h0)]
    · rfl
  rw [e]
  cases h1 : num1 (if isC 45 l = true then l.drop 1 else l) with
  | bad a b => rw [h1] at h; cases h
  | ok a b =>
    rw [h1] at h
    rw [num1_ext x hx _ _ _ h1]
    simp only at h ⊢
    cases h2 : num2 a with
    | bad a b => rw [h2] at h; cases h
    | ok a2 b2 =>
      rw [h2] at h
      rw [num2_ext x hx _ _ _ h2]
      simp only at h ⊢
      exact num3_ext x hx _ _ _ h
theorem number_ext (x : Bs) (hx : stops x = true) (l r t : Bs) (h : number l = .ok r t) : number (l ++ x) = .ok (r ++ x) t := by
  unfold number at h ⊢
  cases h1 : num l with
  | bad a b => rw [h1] at h; cases h
  | ok a b =>
    rw [h1] at h
    simp only at h
    injection h with h2 h3
    rw [num_ext x hx _ _ _ h1]
    simp only
    rw [← h2, ← h3]
    have := num_len _ _ _ h1
    have e : (l ++ x).length - (a ++ x).length = l.length - a.length := by simp; omega
    rw [e, List.take_append_of_le_length (by omega)]
theorem four_ext (x l : Bs) (v : Nat) (h : four l = some v) : four (l ++ x) = some v := by
  match l, h with
  | a :: b :: c :: d :: l, h => exact h
theorem ok_inj {α : Type} {a c : Bs} {b d : α} (h : Rs.ok a b = Rs.ok c d) : a = c ∧ b = d := by
  cases h
  exact ⟨rfl, rfl⟩
theorem map_ok {f : F → F} {x : Rs F} {r : Bs} {g : F} (h : x.map f = .ok r g) : ∃ g0, x = .ok r g0 ∧ f g0 = g := by
  cases x with
  | bad a b => cases h
  | ok a b =>
    injection h with h1 h2
    exact ⟨b, by rw [h1], h2⟩
theorem rmap_ok {α β : Type} {f : α → β} {x : Rs α} {r : Bs} {g : β} (h : x.map f = .ok r g) : ∃ g0, x = .ok r g0 ∧ f g0 = g := by
  cases x with
  | bad a b => cases h
  | ok a b =>
    injection h with h1 h2
    exact ⟨b, by rw [h1], h2⟩
end Go.Proofs.YtadfkeipcebmfaaDoor.Pure

namespace Go.Proofs.YtadfkeipcebmfaaDoor.Pure
open Go.Proofs.YtadfkeipcebmfaaDoor.X Go.RowKit Go.Proofs.YtadfkeipcebmfaaDoorW.PrintWords
set_option linter.unusedVariables false
set_option linter.unusedSimpArgs false
/-- A sign's decoding hangs on its own bytes alone; they are not ASCII. -/
theorem decN_own (n n' b0 b1 b2 b3 c1 c2 c3 : Nat) (h : (Lib.decodeN n b0 b1 b2 b3).2 ≠ 1) (hn : (Lib.decodeN n b0 b1 b2 b3).2 ≤ n') (h1 : 1 < (Lib.decodeN n b0 b1 b2 b3).2 → b1 = c1) (h2 : 2 < (Lib.decodeN n b0 b1 b2 b3).2 → b2 = c2) (h3 : 3 < (Lib.decodeN n b0 b1 b2 b3).2 → b3 = c3) :
    Lib.decodeN n' b0 c1 c2 c3 = Lib.decodeN n b0 b1 b2 b3 ∧ 128 ≤ b0 ∧ (1 < (Lib.decodeN n b0 b1 b2 b3).2 → 128 ≤ b1) ∧ (2 < (Lib.decodeN n b0 b1 b2 b3).2 → 128 ≤ b2) ∧ (3 < (Lib.decodeN n b0 b1 b2 b3).2 → 128 ≤ b3) ∧ (Lib.decodeN n b0 b1 b2 b3).2 ≤ 4 ∧ 2 ≤ (Lib.decodeN n b0 b1 b2 b3).2 := by
  unfold Lib.decodeN at *
  by_cases a0 : b0 < 128
  · rw [if_pos a0] at h
    exact absurd rfl h
  · rw [if_neg a0] at h hn h1 h2 h3 ⊢
    rw [if_neg a0]
    by_cases a1 : b0 / 32 = 6 ∧ (1 < n ∧ b1 / 64 = 2)
    · rw [if_pos a1] at h hn h1 h2 h3 ⊢
      by_cases g : b0 % 32 * 64 + b1 % 64 ≥ 128
      · rw [if_pos g] at h hn h1 h2 h3 ⊢
        obtain rfl := h1 (by simp)
        simp only at hn
        rw [if_pos ⟨a1.1, by omega, a1.2.2⟩, if_pos g]
        refine ⟨rfl, by omega, fun _ => by omega, fun hh => absurd hh (by simp), fun hh => absurd hh (by simp), by simp, by simp⟩
      · rw [if_neg g] at h
        exact absurd rfl h
    · rw [if_neg a1] at h hn h1 h2 h3 ⊢
      by_cases a2 : b0 / 16 = 14 ∧ (1 < n ∧ b1 / 64 = 2) ∧ (2 < n ∧ b2 / 64 = 2)
      · rw [if_pos a2] at h hn h1 h2 h3 ⊢
        split at h
        · rename_i g
          rw [if_pos g] at hn h1 h2 h3 ⊢
          obtain rfl := h1 (by simp)
          obtain rfl := h2 (by simp)
          simp only at hn
          rw [if_neg (by omega), if_pos ⟨a2.1, ⟨by omega, a2.2.1.2⟩, by omega, a2.2.2.2⟩, if_pos g]
          refine ⟨rfl, by omega, fun _ => by omega, fun _ => by omega, fun hh => absurd hh (by simp), by simp, by simp⟩
        · exact absurd rfl h
      · rw [if_neg a2] at h hn h1 h2 h3 ⊢
        by_cases a3 : b0 / 8 = 30 ∧ (1 < n ∧ b1 / 64 = 2) ∧ (2 < n ∧ b2 / 64 = 2) ∧ (3 < n ∧ b3 / 64 = 2)
        · rw [if_pos a3] at h hn h1 h2 h3 ⊢
          split at h
          · rename_i g
            rw [if_pos g] at hn h1 h2 h3 ⊢
            obtain rfl := h1 (by simp)
            obtain rfl := h2 (by simp)
            obtain rfl := h3 (by simp)
            simp only at hn
            rw [if_neg (by omega), if_neg (by omega), if_pos ⟨a3.1, ⟨by omega, a3.2.1.2⟩, ⟨by omega, a3.2.2.1.2⟩, by omega, a3.2.2.2.2⟩, if_pos g]
            refine ⟨rfl, by omega, fun _ => by omega, fun _ => by omega, fun _ => by omega, by simp, by simp⟩
          · exact absurd rfl h
        · rw [if_neg a3] at h
          exact absurd rfl h
theorem decN_one (n b0 b1 b2 b3 : Nat) (h0 : ¬ b0 < 128) (h : (Lib.decodeN n b0 b1 b2 b3).2 = 1) : (Lib.decodeN n b0 b1 b2 b3).1 = 65533 := by
  unfold Lib.decodeN at *
  rw [if_neg h0] at h ⊢
  by_cases a1 : b0 / 32 = 6 ∧ (1 < n ∧ b1 / 64 = 2)
  · rw [if_pos a1] at h ⊢
    split at h
    · cases h
    · rename_i g
      rw [if_neg g]
  · rw [if_neg a1] at h ⊢
    by_cases a2 : b0 / 16 = 14 ∧ (1 < n ∧ b1 / 64 = 2) ∧ (2 < n ∧ b2 / 64 = 2)
    · rw [if_pos a2] at h ⊢
      split at h
      · cases h
      · rename_i g
        rw [if_neg g]
    · rw [if_neg a2] at h ⊢
      by_cases a3 : b0 / 8 = 30 ∧ (1 < n ∧ b1 / 64 = 2) ∧ (2 < n ∧ b2 / 64 = 2) ∧ (3 < n ∧ b3 / 64 = 2)
      · rw [if_pos a3] at h ⊢
        split at h
        · cases h
        · rename_i g
          rw [if_neg g]
      · rw [if_neg a3]
/-- The sign ahead, by itself. -/
theorem sgn_own (c : UInt8) (r : Bs) (hc : ¬ c.toNat < 128) (h : sgn (c :: r) ≠ 0) : (∀ b ∈ (c :: r).take (sgn (c :: r)), 128 ≤ b.toNat) ∧ sgn ((c :: r).take (sgn (c :: r))) = sgn (c :: r) ∧ sgn (c :: r) = (Lib.decodeL (c :: r)).2 ∧ 2 ≤ sgn (c :: r) := by
  have hle := Lib.decodeL_le (c :: r) (by simp)
  have hs : sgn (c :: r) = (Lib.decodeL (c :: r)).2 ∧ (Lib.decodeL (c :: r)).2 ≠ 1 := by
    simp only [sgn] at h ⊢
    rw [if_neg hc] at h ⊢
    split at h
    · exact absurd rfl h
    · rename_i h1
      exact ⟨by rw [if_neg h1], h1⟩
  obtain ⟨hs, h1⟩ := hs
  rw [hs]
  generalize hl : c :: r = l at h1 hle
  obtain ⟨w, hw⟩ : ∃ w, w = (Lib.decodeL l).2 := ⟨_, rfl⟩
  rw [← hw] at h1 hle ⊢
  have hN := Lib.decodeL_N l
  have hwN : w = (Lib.decodeN l.length (l.getD 0 0).toNat (l.getD 1 0).toNat (l.getD 2 0).toNat (l.getD 3 0).toNat).2 := by rw [hw, hN]
  have hlen : (l.take w).length = w := by rw [List.length_take]; omega
  have hg : ∀ i, i < w → (l.take w).getD i 0 = l.getD i 0 := fun i hi => by simp [List.getD_eq_getElem?_getD, List.getElem?_take_of_lt hi]
  have ho := decN_own l.length (l.take w).length (l.getD 0 0).toNat (l.getD 1 0).toNat (l.getD 2 0).toNat (l.getD 3 0).toNat ((l.take w).getD 1 0).toNat ((l.take w).getD 2 0).toNat ((l.take w).getD 3 0).toNat (by rw [← hwN]; exact h1) (by rw [← hwN, hlen]; exact Nat.le_refl _) (fun hh => by rw [hg 1 (by omega)]) (fun hh => by rw [hg 2 (by omega)]) (fun hh => by rw [hg 3 (by omega)])
  rw [← hwN] at ho
  obtain ⟨o1, o2, o3, o4, o5, o6, o7⟩ := ho
  refine ⟨fun b hb => ?_, ?_, rfl, o7⟩
  · obtain ⟨i, hi, rfl⟩ := List.getElem_of_mem hb
    rw [hlen] at hi
    have e : (l.take w)[i]'(by rw [hlen]; exact hi) = l.getD i 0 := by
      rw [← hg i hi, List.getD_eq_getElem?_getD, List.getElem?_eq_getElem (by rw [hlen]; exact hi)]
      rfl
    rw [e]
    match i, hi with
    | 0, _ => exact o2
    | 1, hi => exact o3 hi
    | 2, hi => exact o4 hi
    | 3, hi => exact o5 hi
    | i + 4, hi => omega
  · have e2 : (Lib.decodeL (l.take w)).2 = w := by
      rw [Lib.decodeL_N, hg 0 (by omega), o1, ← hwN]
    subst hl
    obtain ⟨w', rfl⟩ : ∃ w', w = w' + 1 := ⟨w - 1, by omega⟩
    rw [List.take_succ_cons] at e2 ⊢
    simp only [sgn]
    rw [if_neg hc, e2, if_neg h1]
theorem valid_sgn (c : UInt8) (r : Bs) (h : Lib.validD (c :: r) = true) : sgn (c :: r) ≠ 0 ∧ Lib.validD ((c :: r).drop (sgn (c :: r))) = true := by
  rw [Lib.validD_step _ (by simp)] at h
  by_cases hc : c.toNat < 128
  · have e : sgn (c :: r) = 1 := by simp only [sgn]; rw [if_pos hc]
    rw [Lib.decodeL_ascii c r hc] at h
    rw [e]
    split at h
    · cases h
    · exact ⟨by decide, h⟩
  · have hw : (Lib.decodeL (c :: r)).2 = 1 → (Lib.decodeL (c :: r)).1 = 65533 := by
      rw [Lib.decodeL_N]
      exact decN_one _ _ _ _ _ (by simpa using hc)
    split at h
    · cases h
    · rename_i hn
      have h1 : (Lib.decodeL (c :: r)).2 ≠ 1 := fun e => hn ⟨hw e, e⟩
      have e : sgn (c :: r) = (Lib.decodeL (c :: r)).2 := by simp only [sgn]; rw [if_neg hc, if_neg h1]
      have h0 := Lib.decodeL_width (c :: r)
      rw [e]
      exact ⟨by omega, h⟩
end Go.Proofs.YtadfkeipcebmfaaDoor.Pure

namespace Go.Proofs.YtadfkeipcebmfaaDoor.Pure
open Go.Proofs.YtadfkeipcebmfaaDoor.X Go.RowKit Go.Proofs.YtadfkeipcebmfaaDoorW.PrintWords
set_option linter.unusedVariables false
set_option linter.unusedSimpArgs false
theorem mark_facts (c : UInt8) : match X.mark c with
    | some m => unmark m = some c ∧ c.toNat < 128 ∧ (92 : UInt8) ≠ 34
    | none => c ≠ 34 ∧ c ≠ 92 := by
  have := all_bytes (p := fun c => match X.mark c with
    | some m => decide (unmark m = some c) && decide (c.toNat < 128)
    | none => decide (c ≠ 34) && decide (c ≠ 92)) (by decide +kernel) c
  revert this
  cases X.mark c with
  | none => simp
  | some m =>
    simp only [Bool.and_eq_true, decide_eq_true_eq]
    exact fun h => ⟨h.1, h.2, by decide⟩
theorem low_esc (c : UInt8) (h : c.toNat < 32) (rest : Bs) : uni (92 :: 117 :: 48 :: 48 :: hexd (c.toNat / 16) :: hexd (c.toNat % 16) :: rest) (48 :: 48 :: hexd (c.toNat / 16) :: hexd (c.toNat % 16) :: rest) = .ok rest [c] := by
  have hf : ∀ c : UInt8, c.toNat < 32 → four (48 :: 48 :: hexd (c.toNat / 16) :: hexd (c.toNat % 16) :: []) = some c.toNat ∧ enc c.toNat = [c] := by
    intro c hc
    have := all_bytes (p := fun c => !decide (c.toNat < 32) || (decide (four (48 :: 48 :: hexd (c.toNat / 16) :: hexd (c.toNat % 16) :: []) = some c.toNat) && decide (enc c.toNat = [c]))) (by decide +kernel) c
    simp only [decide_eq_true hc, Bool.not_true, Bool.false_or, Bool.and_eq_true, decide_eq_true_eq] at this
    exact this
  obtain ⟨h1, h2⟩ := hf c h
  have h3 := four_ext rest _ _ h1
  simp only [List.cons_append, List.nil_append] at h3
  unfold uni
  rw [h3]
  simp only
  rw [if_neg (by omega), if_pos (by omega), h2]
  rfl
theorem plain_esc (c : UInt8) (h : 128 ≤ c.toNat) : esc1 c = [c] := by
  have hm : X.mark c = none := by
    have := mark_facts c
    cases hh : X.mark c with
    | none => rfl
    | some m =>
      rw [hh] at this
      omega
  rw [esc1, hm]
  simp only
  rw [if_neg (by omega)]
theorem plain_all (l : Bs) (h : ∀ b ∈ l, 128 ≤ b.toNat) : l.flatMap esc1 = l := by
  induction l with
  | nil => rfl
  | cons c l ih =>
    rw [List.flatMap_cons, plain_esc c (h c (by simp)), ih (fun b hb => h b (by simp [hb]))]
    rfl
/-- What quote wrote, read. -/
theorem rt_chars : ∀ (m : Nat) (l : Bs), l.length ≤ m → Lib.validD l = true → ∀ (n : Nat) (acc x : Bs), (l.flatMap esc1).length < n → chars n (l.flatMap esc1 ++ 34 :: x) acc = .ok x (acc ++ l)
  | _, [], _, _, n, acc, x, hn => by
    obtain ⟨n, rfl⟩ : ∃ n', n = n' + 1 := ⟨n - 1, by omega⟩
    simp [chars]
  | 0, c :: r, hm, _, n, acc, x, hn => by simp at hm
  | m + 1, c :: r, hm, hv, n, acc, x, hn => by
    obtain ⟨n, rfl⟩ : ∃ n', n = n' + 1 := ⟨n - 1, by omega⟩
    by_cases hc : c.toNat < 128
    · have hv2 : Lib.validD r = true := by rw [Lib.validD_cons c r hc] at hv; exact hv
      have hpos := esc_pos c
      rw [List.flatMap_cons, List.length_append] at hn
      have ih := rt_chars m r (by simp at hm; omega) hv2 n (acc ++ [c]) x (by omega)
      rw [List.append_assoc, List.singleton_append] at ih
      rw [List.flatMap_cons, List.append_assoc]
      have mf := mark_facts c
      cases hu : X.mark c with
      | some mm =>
        rw [hu] at mf
        have he : esc1 c = [92, mm] := by rw [esc1, hu]
        rw [he]
        simp only [List.cons_append, List.nil_append, chars]
        rw [if_neg mf.2.2, if_neg (by decide), if_pos trivial]
        have he2 : escape (92 :: mm :: (r.flatMap esc1 ++ 34 :: x)) = .ok (r.flatMap esc1 ++ 34 :: x) [c] := by
          simp only [escape, mf.1]
        rw [he2]
        exact ih
      | none =>
        rw [hu] at mf
        by_cases h32 : c.toNat < 32
        · have he : esc1 c = [92, 117, 48, 48, hexd (c.toNat / 16), hexd (c.toNat % 16)] := by
            rw [esc1, hu]
            simp only
            rw [if_pos h32]
          rw [he]
          simp only [List.cons_append, List.nil_append, chars]
          rw [if_neg (by decide), if_neg (by decide), if_pos trivial]
          have hu117 : unmark 117 = none := by decide
          have he2 : escape (92 :: 117 :: 48 :: 48 :: hexd (c.toNat / 16) :: hexd (c.toNat % 16) :: (r.flatMap esc1 ++ 34 :: x)) = .ok (r.flatMap esc1 ++ 34 :: x) [c] := by
            simp only [escape, hu117, if_pos]
            exact low_esc c h32 _
          rw [he2]
          exact ih
        · have he : esc1 c = [c] := by
            rw [esc1, hu]
            simp only
            rw [if_neg h32]
          rw [he]
          simp only [List.cons_append, List.nil_append, chars]
          have hs : sgn (c :: (r.flatMap esc1 ++ 34 :: x)) = 1 := by simp only [sgn]; rw [if_pos hc]
          rw [if_neg mf.1, if_neg h32, if_neg mf.2, hs, if_neg (by decide)]
          simp only [List.drop_succ_cons, List.drop_zero, List.take_succ_cons, List.take_zero]
          exact ih
    · obtain ⟨v1, v2⟩ := valid_sgn c r hv
      obtain ⟨o1, o2, o3, o4⟩ := sgn_own c r hc v1
      have hle := sgn_le (c :: r)
      obtain ⟨w, hw⟩ : ∃ w, w = sgn (c :: r) := ⟨_, rfl⟩
      rw [← hw] at v1 v2 o1 o2 o3 o4 hle
      have hsplit : (c :: r) = (c :: r).take w ++ (c :: r).drop w := (List.take_append_drop w _).symm
      have hfm : (c :: r).flatMap esc1 = (c :: r).take w ++ ((c :: r).drop w).flatMap esc1 := by
        conv => lhs; rw [hsplit]
        rw [List.flatMap_append, plain_all _ o1]
      have hlen : ((c :: r).take w).length = w := by rw [List.length_take]; omega
      rw [hfm, List.length_append, hlen] at hn
      have ih := rt_chars m ((c :: r).drop w) (by rw [List.length_drop]; simp at hm ⊢; omega) v2 n (acc ++ (c :: r).take w) x (by omega)
      rw [List.append_assoc, List.take_append_drop] at ih
      rw [hfm, List.append_assoc]
      obtain ⟨w', rfl⟩ : ∃ w', w = w' + 1 := ⟨w - 1, by omega⟩
      have hs : sgn ((c :: r).take (w' + 1) ++ (((c :: r).drop (w' + 1)).flatMap esc1 ++ 34 :: x)) = w' + 1 := by rw [sgn_ext _ _ (by rw [o2]; exact v1), o2]
      generalize hY : ((c :: r).drop (w' + 1)).flatMap esc1 ++ 34 :: x = Y at hs ih ⊢
      have hd : ((c :: r).take (w' + 1) ++ Y).drop (w' + 1) = Y := by rw [drop_app' _ _ _ (by omega), List.drop_of_length_le (by omega)]; rfl
      have ht : ((c :: r).take (w' + 1) ++ Y).take (w' + 1) = (c :: r).take (w' + 1) := by rw [List.take_append_of_le_length (by omega), List.take_of_length_le (by omega)]
      generalize hT : (c :: r).take (w' + 1) = T at hs hd ht ih ⊢
      have hT2 : T = c :: r.take w' := by rw [← hT]; rfl
      have hch : chars (n + 1) (T ++ Y) acc = chars n ((T ++ Y).drop (sgn (T ++ Y))) (acc ++ (T ++ Y).take (sgn (T ++ Y))) := by
        rw [hT2] at hs ⊢
        rw [List.cons_append] at hs ⊢
        have n34 : c ≠ 34 := by rintro rfl; exact absurd hc (by decide)
        have n92 : c ≠ 92 := by rintro rfl; exact absurd hc (by decide)
        rw [chars, if_neg n34, if_neg (by omega), if_neg n92, if_neg (by omega)]
      rw [hch, hs, hd, ht]
      exact ih
theorem rt_text (l : Bs) (hv : Lib.validD l = true) (x : Bs) : text (quote l ++ x) = .ok x l := by
  have h := rt_chars l.length l (Nat.le_refl _) hv ((l.flatMap esc1 ++ [34] ++ x).length + 1) [] x (by simp; omega)
  rw [List.nil_append] at h
  have e : quote l ++ x = 34 :: (l.flatMap esc1 ++ [34] ++ x) := by simp [quote]
  rw [e, text, if_pos rfl]
  have e2 : l.flatMap esc1 ++ [34] ++ x = l.flatMap esc1 ++ 34 :: x := by simp
  rw [e2] at h ⊢
  exact h
end Go.Proofs.YtadfkeipcebmfaaDoor.Pure

namespace Go.Proofs.YtadfkeipcebmfaaDoor.Pure
open Go.Proofs.YtadfkeipcebmfaaDoor.X Go.RowKit Go.Proofs.YtadfkeipcebmfaaDoorW.PrintWords
set_option linter.unusedVariables false
set_option linter.unusedSimpArgs false
def leafB (d : Int) (t : Bs) : Bool := if d = 4 then decide (t.length ≤ 65536) && isNum t else if d = 5 then Lib.validD t else (d == 1 || d == 2 || d == 3) && t.isEmpty
/-- May trees in a row be, d deep at most? -/
def good : F → Nat → Bool → Bool
  | .nil, _, _ => true
  | .leaf k kd t r, d, keyed => decide (0 < d) && (k.isEmpty || keyed) && Lib.validD k && leafB kd t && good r d keyed
  | .node k kd ks r, d, keyed => decide (0 < d) && (k.isEmpty || keyed) && Lib.validD k && (kd == 6 || kd == 7) && good ks (d - 1) (kd == 7) && good r d keyed
def key : F → Bs
  | .leaf k _ _ _ => k
  | .node k _ _ _ => k
  | .nil => []
def RtOk (d : Nat) (t : F) : Prop := ∀ x, stops x = true → value d (key t) (t.out false true ++ x) = .ok x t
theorem value_head {d : Nat} {k l r : Bs} {f : F} (h : value d k l = .ok r f) : ∃ c l', l = c :: l' ∧ begins c = true := by
  cases l with
  | nil => cases d <;> cases h
  | cons c l =>
    refine ⟨c, l, rfl, ?_⟩
    cases hb : begins c with
    | true => rfl
    | false =>
      cases d <;> simp [value, hb] at h
theorem begins_not (c : UInt8) (h : begins c = true) : isBlank c = false ∧ c ≠ 93 ∧ c ≠ 125 ∧ c ≠ 44 := by
  have := all_bytes (p := fun c => !begins c || (!isBlank c && decide (c ≠ 93) && decide (c ≠ 125) && decide (c ≠ 44))) (by decide +kernel) c
  simp only [h, Bool.not_true, Bool.false_or, Bool.and_eq_true, Bool.not_eq_true', decide_eq_true_eq] at this
  exact ⟨this.1.1.1, this.1.1.2, this.1.2, this.2⟩
theorem isNum_num {t : Bs} (h : isNum t = true) : num t = .ok [] () := by
  unfold isNum at h
  split at h
  · assumption
  · cases h
theorem num_head {t : Bs} (h : num t = .ok [] ()) : ∃ c r, t = c :: r ∧ (c = 45 ∨ isDig c = true) := by
  cases t with
  | nil => cases h
  | cons c r =>
    refine ⟨c, r, rfl, Classical.byContradiction fun hn => ?_⟩
    obtain ⟨l, e, h2⟩ := num_no c r hn
    rw [h2] at h
    cases h
theorem rt_leaf (d : Nat) (k t : Bs) (kd : Int) (h : leafB kd t = true) : RtOk (d + 1) (.leaf k kd t .nil) := by
  intro x hx
  have ho : (F.leaf k kd t .nil).out false true = ltx kd t := by simp [F.out]
  rw [ho]
  show value (d + 1) k (ltx kd t ++ x) = _
  unfold leafB at h
  by_cases h4 : kd = 4
  · subst h4
    rw [if_pos rfl] at h
    simp only [Bool.and_eq_true, decide_eq_true_eq] at h
    have hn := isNum_num h.2
    obtain ⟨c, r, rfl, hc⟩ := num_head hn
    obtain ⟨b1, b2, b3, b4, b5, b6, b7, b8⟩ := dig_begins c hc
    have hnum : number (c :: r) = .ok [] (c :: r) := by
      rw [number, hn]
      simp
    have hne := number_ext x hx _ _ _ hnum
    have e : ltx 4 (c :: r) = c :: r := rfl
    rw [e]
    rw [List.nil_append, List.cons_append] at hne
    rw [List.cons_append, value, if_neg (by rw [b1]; simp), if_neg b3, if_neg b4, if_neg b5, if_neg b6, if_neg b7, if_neg b8, hne]
    rfl
  · rw [if_neg h4] at h
    by_cases h5 : kd = 5
    · subst h5
      rw [if_pos rfl] at h
      have ht := rt_text t h x
      have e : ltx 5 t = quote t := rfl
      rw [e]
      have e2 : quote t ++ x = 34 :: (t.flatMap esc1 ++ [34] ++ x) := by simp [quote]
      rw [e2] at ht ⊢
      rw [value, if_neg (by decide), if_neg (by decide), if_neg (by decide), if_pos rfl, ht]
      rfl
    · rw [if_neg h5] at h
      simp only [Bool.and_eq_true, Bool.or_eq_true, beq_iff_eq, List.isEmpty_iff] at h
      obtain ⟨hk, rfl⟩ := h
      rcases hk with (rfl | rfl) | rfl <;> rfl
/-- A row of trees: none, or a tree and a row. -/
theorem part2 (f : F) (d : Nat) (ob : Bool) (hg : good f d ob = true) : f = .nil ∨ ∃ (t r : F), t ∈ f.trees ∧ (∀ u ∈ r.trees, u ∈ f.trees) ∧ f = t.app r ∧ f.count = r.count + 1 ∧ (ob = false → key t = []) ∧ Lib.validD (key t) = true ∧ good r d ob = true ∧
    ∀ ob first, f.out ob first = (if first then [] else [44]) ++ (if ob then quote (key t) ++ [58] else []) ++ t.out false true ++ r.out ob false := by
  cases f with
  | nil => exact .inl rfl
  | leaf k kd t r =>
    simp only [good, Bool.and_eq_true, Bool.or_eq_true, List.isEmpty_iff, decide_eq_true_eq] at hg
    refine .inr ⟨.leaf k kd t .nil, r, by simp [F.trees], fun u hu => by simp [F.trees, hu], rfl, rfl, fun e => ?_, hg.1.1.2, hg.2, fun ob first => by simp [F.out, key]⟩
    rcases hg.1.1.1.2 with h | h
    · exact h
    · rw [e] at h; cases h
  | node k kd ks r =>
    simp only [good, Bool.and_eq_true, Bool.or_eq_true, List.isEmpty_iff, decide_eq_true_eq] at hg
    refine .inr ⟨.node k kd ks .nil, r, by simp [F.trees], fun u hu => by simp [F.trees, hu], rfl, rfl, fun e => ?_, hg.1.1.1.2, hg.2, fun ob first => by simp [F.out, key]⟩
    rcases hg.1.1.1.1.2 with h | h
    · exact h
    · rw [e] at h; cases h
theorem head_items (d : Nat) (ob : Bool) (x : Bs) (f : F) (hg : good f d ob = true) (hne : f ≠ .nil) (ht : ∀ t ∈ f.trees, RtOk d t) :
    ∃ c l, f.out ob true ++ (if ob then 125 else 93) :: x = c :: l ∧ isBlank c = false ∧ c ≠ 93 ∧ c ≠ 125 := by
  rcases part2 f d ob hg with h | ⟨t, r, h1, h2, h3, h4, h5, h6, h7, h8⟩
  · exact absurd h hne
  · rw [h8 ob true]
    cases ob with
    | true =>
      refine ⟨34, _, rfl, by decide, by decide, by decide⟩
    | false =>
      have hv := ht t h1 (r.out false false ++ 93 :: x) (by
        rcases part2 r d false h7 with hr2 | ⟨t3, r3, _, _, _, _, _, _, _, k8⟩
        · rw [hr2]; rfl
        · rw [k8 false false]; rfl)
      obtain ⟨c2, l2, hl2, hbg2⟩ := value_head hv
      obtain ⟨a1, a2, a3, a4⟩ := begins_not c2 hbg2
      refine ⟨c2, l2, ?_, a1, a2, a3⟩
      rw [← hl2]
      simp
theorem cnt_out : ∀ (f : F) (d : Nat) (keyed ob first : Bool), good f d keyed = true → f.count ≤ (f.out ob first).length
  | .nil, d, keyed, ob, first, h => Nat.le_refl _
  | .leaf k kd t r, d, keyed, ob, first, h => by
    simp only [good, Bool.and_eq_true] at h
    have ih := cnt_out r d keyed ob false h.2
    have hl : 1 ≤ (ltx kd t).length := by
      have hlb := h.1.2
      unfold leafB at hlb
      unfold ltx
      by_cases h4 : kd = 4
      · subst h4
        rw [if_pos rfl] at hlb
        simp only [Bool.and_eq_true] at hlb
        obtain ⟨c, r', e, _⟩ := num_head (isNum_num hlb.2)
        rw [e]
        simp
      · split
        · simp
        · split
          · simp
          · split
            · simp
            · simp [quote]
    simp only [F.count, F.out, List.length_append]
    omega
  | .node k kd ks r, d, keyed, ob, first, h => by
    simp only [good, Bool.and_eq_true] at h
    have ih := cnt_out r d keyed ob false h.2
    have hn : 1 ≤ (if kd = 7 then 123 :: (ks.out true true ++ [125]) else 91 :: (ks.out false true ++ [93])).length := by split <;> simp
    simp only [F.count, F.out, List.length_append]
    omega
theorem rt_items (d : Nat) (ob : Bool) (x : Bs) : ∀ (n : Nat) (f : F), f.count ≤ n → good f d ob = true → f ≠ .nil → (∀ t ∈ f.trees, RtOk d t) →
    items (value d) ob (if ob then 125 else 93) n (f.out ob true ++ (if ob then 125 else 93) :: x) = .ok x f
  | 0, f, hn, hg, hne, ht => by
    rcases part2 f d ob hg with h | ⟨t, r, _, _, _, hc, _⟩
    · exact absurd h hne
    · omega
  | n + 1, f, hn, hg, hne, ht => by
    rcases part2 f d ob hg with h | ⟨t, r, h1, h2, h3, h4, h5, h6, h7, h8⟩
    · exact absurd h hne
    · have hT := ht t h1
      rw [h8 ob true]
      simp only [if_true, List.nil_append]
      obtain ⟨y, hy⟩ : ∃ y : Bs, y = r.out ob false ++ (if ob then 125 else 93) :: x := ⟨_, rfl⟩
      have hsy : stops y = true := by
        rw [hy]
        rcases part2 r d ob h7 with hr | ⟨t2, r2, _, _, _, _, _, _, _, g8⟩
        · rw [hr]
          cases ob <;> rfl
        · rw [g8 ob false]
          rfl
      have hv := hT y hsy
      obtain ⟨c, l', hl, hb⟩ := value_head hv
      obtain ⟨nb, n93, n125, n44⟩ := begins_not c hb
      have hmem : member ob ((if ob = true then quote (key t) ++ [58] else []) ++ t.out false true ++ y) = .ok (t.out false true ++ y) (key t) := by
        cases ob with
        | false =>
          rw [h5 rfl]
          rfl
        | true =>
          unfold member
          simp only [if_true]
          have e : quote (key t) ++ [58] ++ t.out false true ++ y = quote (key t) ++ (58 :: (t.out false true ++ y)) := by simp
          rw [e, rt_text _ h6]
          simp only
          have hb58 : blanks (58 :: (t.out false true ++ y)) = 58 :: (t.out false true ++ y) := rfl
          rw [hb58, if_pos (show isC 58 (58 :: (t.out false true ++ y)) = true from rfl)]
          have hb2 : blanks (t.out false true ++ y) = t.out false true ++ y := by rw [hl, blanks, nb]; rfl
          show Rs.ok (blanks (t.out false true ++ y)) (key t) = _
          rw [hb2]
      have e0 : (if ob = true then quote (key t) ++ [58] else []) ++ t.out false true ++ r.out ob false ++ (if ob then 125 else 93) :: x = (if ob = true then quote (key t) ++ [58] else []) ++ t.out false true ++ y := by rw [hy]; simp
      rw [e0, items, hmem]
      simp only
      rw [hv]
      simp only
      rcases part2 r d ob h7 with hr | ⟨t2, r2, g1, g2, g3, g4, g5, g6, g7, g8⟩
      · have hy2 : y = (if ob then 125 else 93) :: x := by rw [hy, hr]; rfl
        have hbl : blanks y = y := by rw [hy2]; cases ob <;> rfl
        rw [hbl, hy2]
        have hc : isC (if ob = true then 125 else 93) ((if ob = true then (125 : UInt8) else 93) :: x) = true := by simp [isC]
        rw [if_pos hc, h3, hr, F.app_nil]
        rfl
      · have hrne : r ≠ .nil := by rintro rfl; simp [F.count] at g4
        have ho : r.out ob false = 44 :: r.out ob true := by rw [g8 ob false, g8 ob true]; simp
        have hy2 : y = 44 :: (r.out ob true ++ (if ob then 125 else 93) :: x) := by rw [hy, ho]; rfl
        have hbl : blanks y = y := by rw [hy2]; rfl
        rw [hbl, hy2]
        have hc : isC (if ob = true then 125 else 93) (44 :: (r.out ob true ++ (if ob then 125 else 93) :: x)) = false := by cases ob <;> rfl
        rw [if_neg (by rw [hc]; simp), if_pos (show isC 44 (44 :: (r.out ob true ++ (if ob = true then 125 else 93) :: x)) = true from rfl)]
        have ih := rt_items d ob x n r (by omega) h7 hrne (fun u hu => ht u (h2 u hu))
        have hb3 : blanks (r.out ob true ++ (if ob then 125 else 93) :: x) = r.out ob true ++ (if ob then 125 else 93) :: x := by
          obtain ⟨c2, l2, hl2, nb2, _⟩ := head_items d ob x r h7 hrne (fun u hu => ht u (h2 u hu))
          rw [hl2, blanks, nb2]
          rfl
        show ((items (value d) ob (if ob = true then 125 else 93) n (blanks (r.out ob true ++ (if ob then 125 else 93) :: x))).map t.app) = _
        rw [hb3, ih, h3]
        rfl
theorem rt_node (d : Nat) (k : Bs) (kd : Int) (hk : kd = 6 ∨ kd = 7) (ks : F) (hg : good ks d (kd == 7) = true) (ht : ∀ t ∈ ks.trees, RtOk d t) : RtOk (d + 1) (.node k kd ks .nil) := by
  intro x hx
  show value (d + 1) k _ = _
  have hob : ∃ ob : Bool, kd = (if ob then 7 else 6) ∧ (kd == 7) = ob ∧ (F.node k kd ks .nil).out false true = (if ob then 123 else 91) :: (ks.out ob true ++ [if ob then 125 else 93]) := by
    rcases hk with rfl | rfl
    · exact ⟨false, rfl, rfl, by simp [F.out]⟩
    · exact ⟨true, rfl, rfl, by simp [F.out]⟩
  obtain ⟨ob, e1, e2, e3⟩ := hob
  rw [e2] at hg
  have hm : many (value d) ob k (ks.out ob true ++ (if ob then 125 else 93) :: x) = .ok x (.node k kd ks .nil) := by
    unfold many
    simp only
    by_cases hn : ks.count = 0
    · rcases part2 ks d ob hg with h | ⟨t, r, _, _, _, hc, _⟩
      · subst h
        have hb : blanks (F.nil.out ob true ++ (if ob then 125 else 93) :: x) = (if ob then 125 else 93) :: x := by cases ob <;> rfl
        rw [hb, if_pos (by simp [isC]), e1]
        rfl
      · omega
    · have hne : ks ≠ .nil := by rintro rfl; exact hn rfl
      have hcnt := cnt_out ks d ob ob true hg
      have hit := rt_items d ob x ((ks.out ob true ++ (if ob then 125 else 93) :: x).length + 1) ks (by simp only [List.length_append]; omega) hg hne ht
      obtain ⟨c2, l2, hl2, nb2, n1, n2⟩ := head_items d ob x ks hg hne ht
      have hb3 : blanks (ks.out ob true ++ (if ob then 125 else 93) :: x) = ks.out ob true ++ (if ob then 125 else 93) :: x := by
        rw [hl2, blanks, nb2]
        rfl
      have hc : isC (if ob = true then 125 else 93) (ks.out ob true ++ (if ob then 125 else 93) :: x) = false := by
        rw [hl2]
        cases ob
        · exact beq_false_of_ne n1
        · exact beq_false_of_ne n2
      rw [hb3, if_neg (by rw [hc]; simp), hit, e1]
      rfl
  have e4 : (F.node k kd ks .nil).out false true ++ x = (if ob then 123 else 91) :: (ks.out ob true ++ (if ob then 125 else 93) :: x) := by
    rw [e3]
    simp
  rw [e4]
  cases ob with
  | false =>
    show value (d + 1) k (91 :: _) = _
    rw [value, if_neg (by decide), if_neg (by decide), if_pos rfl]
    exact hm
  | true =>
    show value (d + 1) k (123 :: _) = _
    rw [value, if_neg (by decide), if_pos rfl]
    exact hm
/-- Every tree that may be is read as it is written. -/
theorem rt_all : ∀ (f : F) (d : Nat) (keyed : Bool), good f d keyed = true → ∀ t ∈ f.trees, RtOk d t
  | .nil, d, keyed, h, t, ht => by simp [F.trees] at ht
  | .leaf k kd tx r, d, keyed, h, t, ht => by
    simp only [good, Bool.and_eq_true, decide_eq_true_eq] at h
    simp only [F.trees, List.mem_cons] at ht
    rcases ht with rfl | ht
    · obtain ⟨d, rfl⟩ : ∃ d', d = d' + 1 := ⟨d - 1, by omega⟩
      exact rt_leaf d k tx kd h.1.2
    · exact rt_all r d keyed h.2 t ht
  | .node k kd ks r, d, keyed, h, t, ht => by
    simp only [good, Bool.and_eq_true, decide_eq_true_eq, Bool.or_eq_true, beq_iff_eq] at h
    simp only [F.trees, List.mem_cons] at ht
    rcases ht with rfl | ht
    · obtain ⟨d, rfl⟩ : ∃ d', d = d' + 1 := ⟨d - 1, by omega⟩
      exact rt_node d k kd h.1.1.2 ks h.1.2 (rt_all ks d (kd == 7) h.1.2)
    · exact rt_all r d keyed h.2 t ht
end Go.Proofs.YtadfkeipcebmfaaDoor.Pure

namespace Go.Proofs.YtadfkeipcebmfaaDoor.Pure
open Go.Proofs.YtadfkeipcebmfaaDoor.X Go.RowKit Go.Proofs.YtadfkeipcebmfaaDoorW.PrintWords
set_option linter.unusedVariables false
set_option linter.unusedSimpArgs false
theorem good_app : ∀ (f g : F) (d : Nat) (keyed : Bool), good (f.app g) d keyed = (good f d keyed && good g d keyed)
  | .nil, g, d, keyed => by simp [F.app, good]
  | .leaf k kd t r, g, d, keyed => by simp [F.app, good, good_app r g, Bool.and_assoc]
  | .node k kd ks r, g, d, keyed => by simp [F.app, good, good_app r g, Bool.and_assoc]
theorem kids_good {one : List Nd → Option (F × List Nd)} {d : Nat} {keyed : Bool} (h : ∀ l t r, one l = some (t, r) → good t d keyed = true) : ∀ (n : Nat) (l : List Nd) (f : F) (r : List Nd), kids one n l = some (f, r) → good f d keyed = true
  | 0, l, f, r, e => by
    simp only [kids, Option.some.injEq, Prod.mk.injEq] at e
    obtain ⟨rfl, rfl⟩ := e
    rfl
  | n + 1, l, f, r, e => by
    simp only [kids] at e
    split at e
    · cases e
    · rename_i t r1 h1
      split at e
      · cases e
      · rename_i f2 r2 h2
        simp only [Option.some.injEq, Prod.mk.injEq] at e
        obtain ⟨rfl, rfl⟩ := e
        rw [good_app, h _ _ _ h1, kids_good h n _ _ _ h2]
        rfl
theorem dec_good : ∀ (d : Nat) (keyed : Bool) (l : List Nd) (t : F) (r : List Nd), dec d keyed l = some (t, r) → good t d keyed = true
  | 0, keyed, l, t, r, e => by cases e
  | d + 1, keyed, [], t, r, e => by cases e
  | d + 1, keyed, x :: r0, t, r, e => by
    simp only [dec] at e
    split at e
    · rename_i hok
      split at e
      · cases e
      · rename_i ks r' hk
        split at e
        · rename_i hs
          simp only [Option.some.injEq, Prod.mk.injEq] at e
          obtain ⟨e1, rfl⟩ := e
          have kg := kids_good (dec_good d (x.f0 == 7)) _ _ _ _ hk
          simp only [okN, Bool.and_eq_true, decide_eq_true_eq] at hok
          obtain ⟨⟨⟨⟨⟨⟨o1, o2⟩, o3⟩, o4⟩, o5⟩, o6⟩, o7⟩ := hok
          split at e1
          · rename_i h6
            subst e1
            have hl : leafB x.f0 x.f4.data.toList = true := by
              unfold leafB
              split at o7
              · rename_i h4
                rw [if_pos h4]
                simpa using o7
              · rename_i h4
                rw [if_neg h4]
                split at o7
                · rename_i h5
                  rw [if_pos h5]
                  exact o7
                · rename_i h5
                  rw [if_neg h5, o7]
                  have : x.f0 = 1 ∨ x.f0 = 2 ∨ x.f0 = 3 := by omega
                  rcases this with h | h | h <;> simp [h]
            simp only [good, Bool.and_true]
            rw [o5, o6, hl]
            simp
          · rename_i h6
            subst e1
            simp only [good, Bool.and_true, Nat.add_sub_cancel]
            rw [o5, o6, kg]
            have : x.f0 = 6 ∨ x.f0 = 7 := by omega
            rcases this with h | h <;> simp [h]
        · cases e
    · cases e
/-- What is told of a tree that may be. -/
def DecIs (d : Nat) (keyed : Bool) (t : F) : Prop := ∀ r, dec d keyed (t.flat ++ r) = some (t, r)
theorem kids_is (d : Nat) (keyed : Bool) : ∀ (f : F), (∀ t ∈ f.trees, DecIs d keyed t) → ∀ r, kids (dec d keyed) f.count (f.flat ++ r) = some (f, r)
  | .nil, h, r => rfl
  | .leaf k kd t f, h, r => by
    have h1 := h (.leaf k kd t .nil) (by simp [F.trees]) (f.flat ++ r)
    have h2 := kids_is d keyed f (fun u hu => h u (by simp [F.trees, hu])) r
    have e : (F.leaf k kd t f).flat ++ r = (F.leaf k kd t .nil).flat ++ (f.flat ++ r) := by simp [F.flat]
    rw [e, F.count, kids, h1]
    simp only
    rw [h2]
    rfl
  | .node k kd ks f, h, r => by
    have h1 := h (.node k kd ks .nil) (by simp [F.trees]) (f.flat ++ r)
    have h2 := kids_is d keyed f (fun u hu => h u (by simp [F.trees, hu])) r
    have e : (F.node k kd ks f).flat ++ r = (F.node k kd ks .nil).flat ++ (f.flat ++ r) := by simp [F.flat]
    rw [e, F.count, kids, h1]
    simp only
    rw [h2]
    rfl
theorem dec_is : ∀ (f : F) (d : Nat) (keyed : Bool), good f d keyed = true → ∀ t ∈ f.trees, DecIs d keyed t
  | .nil, d, keyed, h, t, ht => by simp [F.trees] at ht
  | .leaf k kd tx f, d, keyed, h, t, ht => by
    simp only [good, Bool.and_eq_true, decide_eq_true_eq] at h
    simp only [F.trees, List.mem_cons] at ht
    rcases ht with rfl | ht
    · obtain ⟨d, rfl⟩ : ∃ d', d = d' + 1 := ⟨d - 1, by omega⟩
      intro r
      obtain ⟨⟨⟨⟨_, g2⟩, g3⟩, g4⟩, _⟩ := h
      have hk : (1 ≤ kd ∧ kd ≤ 5) ∧ (if kd = 4 then decide ((str tx).size ≤ 65536) && isNum tx else if kd = 5 then Lib.validD tx else tx.isEmpty) = true := by
        unfold leafB at g4
        rw [str_size]
        split at g4
        · rename_i h4
          rw [if_pos h4]
          exact ⟨by omega, g4⟩
        · rename_i h4
          rw [if_neg h4]
          split at g4
          · rename_i h5
            rw [if_pos h5]
            exact ⟨by omega, g4⟩
          · rename_i h5
            rw [if_neg h5]
            simp only [Bool.and_eq_true, Bool.or_eq_true, beq_iff_eq] at g4
            exact ⟨by omega, g4.2⟩
      obtain ⟨⟨k1, k2⟩, k3⟩ := hk
      have hok : okN (⟨kd, 1, 0, str k, str tx⟩ : Nd) keyed = true := by
        unfold okN
        simp only [str_list]
        rw [g2, g3, k3]
        have e1 : decide (1 ≤ kd) = true := decide_eq_true k1
        have e2 : decide (kd ≤ 7) = true := decide_eq_true (by omega)
        rw [e1, e2]
        rfl
      show dec (d + 1) keyed ((⟨kd, 1, 0, str k, str tx⟩ : Nd) :: ([] ++ r)) = _
      simp only [dec]
      rw [if_pos hok]
      simp only [Int.toNat_zero, kids, List.nil_append]
      rw [if_pos (by simp), if_pos (by omega)]
      rfl
    · exact dec_is f d keyed h.2 t ht
  | .node k kd ks f, d, keyed, h, t, ht => by
    simp only [good, Bool.and_eq_true, decide_eq_true_eq, Bool.or_eq_true, beq_iff_eq] at h
    simp only [F.trees, List.mem_cons] at ht
    rcases ht with rfl | ht
    · obtain ⟨d, rfl⟩ : ∃ d', d = d' + 1 := ⟨d - 1, by omega⟩
      intro r
      obtain ⟨⟨⟨⟨⟨_, g2⟩, g3⟩, g4⟩, g5⟩, _⟩ := h
      have hks := kids_is d (kd == 7) ks (dec_is ks d (kd == 7) g5) r
      have hok : okN (⟨kd, ((ks.flat.length + 1 : Nat) : Int), (ks.count : Nat), str k, str []⟩ : Nd) keyed = true := by
        unfold okN
        simp only [str_list]
        have g2' : (k.isEmpty || keyed) = true := by simpa using g2
        rw [g2', g3]
        rcases g4 with rfl | rfl <;> simp
      have e : (F.node k kd ks .nil).flat ++ r = (⟨kd, ((ks.flat.length + 1 : Nat) : Int), (ks.count : Nat), str k, str []⟩ : Nd) :: (ks.flat ++ r) := by simp [F.flat]
      rw [e]
      simp only [dec]
      rw [if_pos hok]
      simp only [Int.toNat_natCast]
      rw [hks]
      simp only
      rw [if_pos (by simp), if_neg (by omega)]
      rfl
    · exact dec_is f d keyed h.2 t ht
theorem tree_is {f : F} (h1 : f.one) (h : good f 32 false = true) : tree? f.flat = some f := by
  have hm : f ∈ f.trees := by
    match f, h1 with
    | .leaf _ _ _ .nil, _ => simp [F.trees]
    | .node _ _ _ .nil, _ => simp [F.trees]
  have := dec_is f 32 false h f hm []
  rw [List.append_nil] at this
  unfold tree?
  rw [this]
theorem tree_good {l : List Nd} {t : F} (h : tree? l = some t) : good t 32 false = true := by
  unfold tree? at h
  split at h
  · rename_i t' h1
    injection h with h
    subst h
    exact dec_good _ _ _ _ _ h1
  · cases h
/-- A tree's text is parsed to it. -/
theorem parse_txt {t : F} (h1 : t.one) (h : good t 32 false = true) (hl : t.txt.length ≤ 65536) : parse t.txt = (t, 0, 0) := by
  have hm : t ∈ t.trees := by
    match t, h1 with
    | .leaf _ _ _ .nil, _ => simp [F.trees]
    | .node _ _ _ .nil, _ => simp [F.trees]
  have hk : key t = [] := by
    match t, h1, h with
    | .leaf k kd tx .nil, _, h =>
      simp only [good, Bool.and_eq_true, Bool.or_false, List.isEmpty_iff] at h
      exact h.1.1.1.2
    | .node k kd ks .nil, _, h =>
      simp only [good, Bool.and_eq_true, Bool.or_false, List.isEmpty_iff] at h
      exact h.1.1.1.1.2
  have hv := rt_all t 32 false h t hm [] rfl
  rw [hk, List.append_nil] at hv
  obtain ⟨c, l', hl', hb⟩ := value_head hv
  have hbl : blanks (t.out false true) = t.out false true := by rw [hl', blanks, (begins_not c hb).1]; rfl
  unfold parse
  show (if 65536 < (t.out false true).length then _ else _) = _
  rw [if_neg (by have := hl; unfold F.txt at this; omega)]
  show (match value 32 [] (blanks (t.out false true)) with | .bad r e => _ | .ok r f => _) = _
  rw [hbl, hv]
  rfl
end Go.Proofs.YtadfkeipcebmfaaDoor.Pure

namespace Go.Proofs.YtadfkeipcebmfaaDoor.Pure
open Go.Proofs.YtadfkeipcebmfaaDoor.X Go.RowKit Go.Proofs.YtadfkeipcebmfaaDoorW.PrintWords
set_option linter.unusedVariables false
set_option linter.unusedSimpArgs false
def nd : Bs → Bool
  | [] => true
  | c :: _ => !isDig c
theorem skip_nd (x : Bs) (hx : nd x = true) : ∀ l : Bs, (∀ c ∈ l, isDig c = true) → skipDig (l ++ x) = x
  | [], _ => by
    cases x with
    | nil => rfl
    | cons c x =>
      simp only [nd, Bool.not_eq_true'] at hx
      simp [skipDig, hx]
  | c :: l, h => by
    rw [List.cons_append, skipDig, if_pos (h c (by simp))]
    exact skip_nd x hx l (fun d hd => h d (by simp [hd]))
theorem skip_part : ∀ l : Bs, ∃ t, l = t ++ skipDig l ∧ (∀ c ∈ t, isDig c = true) ∧ nd (skipDig l) = true
  | [] => ⟨[], rfl, by simp, rfl⟩
  | c :: l => by
    rw [skipDig]
    by_cases hc : isDig c = true
    · obtain ⟨t, e, h1, h2⟩ := skip_part l
      rw [if_pos hc]
      refine ⟨c :: t, by rw [List.cons_append, ← e], fun d hd => ?_, h2⟩
      simp only [List.mem_cons] at hd
      rcases hd with rfl | hd
      · exact hc
      · exact h1 d hd
    · rw [if_neg hc]
      exact ⟨[], rfl, by simp, by simpa [nd] using hc⟩
/-- digits read t, and whatever no digit follows it. -/
theorem digits_part (l r : Bs) (u : Unit) (h : digits l = .ok r u) : ∃ t, l = t ++ r ∧ t ≠ [] ∧ (∀ y, nd y = true → digits (t ++ y) = .ok y ()) ∧ ∀ c y, t = c :: y → isDig c = true := by
  cases l with
  | nil => cases h
  | cons c l =>
    simp only [digits] at h
    split at h
    · rename_i hc
      injection h with h1 _
      obtain ⟨t, e, h2, h3⟩ := skip_part l
      rw [h1] at e
      refine ⟨c :: t, by rw [List.cons_append, ← e], by simp, fun y hy => ?_, fun c' y' hh => ?_⟩
      · rw [List.cons_append, digits, if_pos hc, skip_nd y hy t h2]
      · injection hh with hh _
        rw [← hh]
        exact hc
    · cases h
theorem isC_true {c : UInt8} {l : Bs} (h : isC c l = true) : ∃ r, l = c :: r := by
  cases l with
  | nil => cases h
  | cons d r =>
    simp only [isC, beq_iff_eq] at h
    exact ⟨r, by rw [h]⟩
theorem num1_part (l r : Bs) (u : Unit) (h : num1 l = .ok r u) : ∃ t, l = t ++ r ∧ (∀ y, nd y = true → num1 (t ++ y) = .ok y ()) ∧ ∃ c t', t = c :: t' ∧ isDig c = true := by
  unfold num1 at h
  by_cases h0 : isC 48 l = true
  · rw [if_pos h0] at h
    obtain ⟨r', rfl⟩ := isC_true h0
    injection h with h1 _
    simp only [List.drop_succ_cons, List.drop_zero] at h1
    subst h1
    exact ⟨[48], rfl, fun y hy => rfl, 48, [], rfl, by decide⟩
  · rw [if_neg h0] at h
    obtain ⟨t, e, h1, h2, h3⟩ := digits_part _ _ _ h
    obtain ⟨c, t', rfl⟩ : ∃ c t', t = c :: t' := by
      cases t with
      | nil => exact absurd rfl h1
      | cons c t' => exact ⟨c, t', rfl⟩
    refine ⟨c :: t', e, fun y hy => ?_, c, t', rfl, h3 _ _ rfl⟩
    have e2 : isC 48 (c :: t' ++ y) = isC 48 l := by rw [e]; rfl
    unfold num1
    rw [e2, if_neg h0]
    exact h2 y hy
theorem num2_part (l r : Bs) (u : Unit) (h : num2 l = .ok r u) : ∃ t, l = t ++ r ∧ (∀ y, nd y = true → isC 46 y = false → num2 (t ++ y) = .ok y ()) ∧ ∀ y, nd y = true → nd (t ++ y) = true := by
  unfold num2 at h
  by_cases h0 : isC 46 l = true
  · rw [if_pos h0] at h
    obtain ⟨r', rfl⟩ := isC_true h0
    simp only [List.drop_succ_cons, List.drop_zero] at h
    obtain ⟨t, e, h1, h2, h3⟩ := digits_part _ _ _ h
    refine ⟨46 :: t, by rw [e]; rfl, fun y hy _ => ?_, fun y _ => rfl⟩
    unfold num2
    have e1 : isC 46 (46 :: t ++ y) = true := rfl
    have e2 : (46 :: t ++ y).drop 1 = t ++ y := rfl
    rw [e1, if_pos rfl, e2]
    exact h2 y hy
  · rw [if_neg h0] at h
    injection h with h1 _
    subst h1
    refine ⟨[], rfl, fun y hy h46 => ?_, fun y hy => hy⟩
    unfold num2
    rw [List.nil_append, h46]
    rfl
theorem num3_part (l r : Bs) (u : Unit) (h : num3 l = .ok r u) : ∃ t, l = t ++ r ∧ num3 t = .ok [] () ∧ nd t = true ∧ isC 46 t = false := by
  unfold num3 at h
  by_cases h0 : (isC 101 l || isC 69 l) = true
  · rw [if_pos h0] at h
    obtain ⟨ce, l', rfl, hce⟩ : ∃ ce l', l = ce :: l' ∧ (ce = 101 ∨ ce = 69) := by
      simp only [Bool.or_eq_true] at h0
      rcases h0 with h0 | h0
      · obtain ⟨r', e⟩ := isC_true h0
        exact ⟨101, r', e, .inl rfl⟩
      · obtain ⟨r', e⟩ := isC_true h0
        exact ⟨69, r', e, .inr rfl⟩
    simp only [List.drop_succ_cons, List.drop_zero] at h
    by_cases h1 : (isC 43 l' || isC 45 l') = true
    · rw [if_pos h1] at h
      obtain ⟨cs, l2, rfl, hcs⟩ : ∃ cs l2, l' = cs :: l2 ∧ (cs = 43 ∨ cs = 45) := by
        simp only [Bool.or_eq_true] at h1
        rcases h1 with h1 | h1
        · obtain ⟨r', e⟩ := isC_true h1
          exact ⟨43, r', e, .inl rfl⟩
        · obtain ⟨r', e⟩ := isC_true h1
          exact ⟨45, r', e, .inr rfl⟩
      simp only [List.drop_succ_cons, List.drop_zero] at h
      obtain ⟨t, e, h2, h3, h4⟩ := digits_part _ _ _ h
      have h5 := h3 [] rfl
      rw [List.append_nil] at h5
      refine ⟨ce :: cs :: t, by rw [e]; rfl, ?_, ?_, ?_⟩
      · unfold num3
        have e1 : (isC 101 (ce :: cs :: t) || isC 69 (ce :: cs :: t)) = true := by rcases hce with rfl | rfl <;> rfl
        have e2 : (isC 43 ((ce :: cs :: t).drop 1) || isC 45 ((ce :: cs :: t).drop 1)) = true := by rcases hcs with rfl | rfl <;> rfl
        rw [e1, if_pos rfl, e2, if_pos rfl]
        exact h5
      · rcases hce with rfl | rfl <;> rfl
      · rcases hce with rfl | rfl <;> rfl
    · rw [if_neg h1] at h
      obtain ⟨t, e, h2, h3, h4⟩ := digits_part _ _ _ h
      obtain ⟨ct, t', rfl⟩ : ∃ c t', t = c :: t' := by
        cases t with
        | nil => exact absurd rfl h2
        | cons c t' => exact ⟨c, t', rfl⟩
      have h5 := h3 [] rfl
      rw [List.append_nil] at h5
      have e3 : (isC 43 (ct :: t') || isC 45 (ct :: t')) = (isC 43 l' || isC 45 l') := by rw [e]; rfl
      refine ⟨ce :: ct :: t', by rw [e]; rfl, ?_, ?_, ?_⟩
      · unfold num3
        have e1 : (isC 101 (ce :: ct :: t') || isC 69 (ce :: ct :: t')) = true := by rcases hce with rfl | rfl <;> rfl
        have e2 : (isC 43 ((ce :: ct :: t').drop 1) || isC 45 ((ce :: ct :: t').drop 1)) = false := by
          show (isC 43 (ct :: t') || isC 45 (ct :: t')) = false
          rw [e3]
          simpa using h1
        rw [e1, if_pos rfl, e2]
        exact h5
      · rcases hce with rfl | rfl <;> rfl
      · rcases hce with rfl | rfl <;> rfl
  · rw [if_neg h0] at h
    injection h with h1 _
    subst h1
    exact ⟨[], rfl, rfl, rfl, rfl⟩
theorem num_part (l r : Bs) (u : Unit) (h : num l = .ok r u) : ∃ t, l = t ++ r ∧ num t = .ok [] () := by
  unfold num at h
  have key : ∀ l', (match num1 l' with | .bad r e => (.bad r e : Rs Unit) | .ok l2 _ => match num2 l2 with | .bad r e => .bad r e | .ok l3 _ => num3 l3) = .ok r u → ∃ t, l' = t ++ r ∧ (match num1 t with | .bad r e => (.bad r e : Rs Unit) | .ok l2 _ => match num2 l2 with | .bad r e => .bad r e | .ok l3 _ => num3 l3) = .ok [] () ∧ ∃ c t', t = c :: t' ∧ isDig c = true := by
    intro l' h
    cases h1 : num1 l' with
    | bad a b => rw [h1] at h; cases h
    | ok l2 u2 =>
      rw [h1] at h
      simp only at h
      cases h2 : num2 l2 with
      | bad a b => rw [h2] at h; cases h
      | ok l3 u3 =>
        rw [h2] at h
        simp only at h
        obtain ⟨t1, e1, p1, c, t', ec, hc⟩ := num1_part _ _ _ h1
        obtain ⟨t2, e2, p2, q2⟩ := num2_part _ _ _ h2
        obtain ⟨t3, e3, p3, q3, s3⟩ := num3_part _ _ _ h
        refine ⟨t1 ++ (t2 ++ t3), by rw [e1, e2, e3]; simp, ?_, c, t' ++ (t2 ++ t3), by rw [ec]; rfl, hc⟩
        rw [p1 (t2 ++ t3) (q2 t3 q3)]
        simp only
        rw [p2 t3 q3 s3]
        exact p3
  by_cases h45 : isC 45 l = true
  · rw [if_pos h45] at h
    obtain ⟨l', rfl⟩ := isC_true h45
    obtain ⟨t, e, ht, _⟩ := key _ h
    simp only [List.drop_succ_cons, List.drop_zero] at e
    refine ⟨45 :: t, by rw [e]; rfl, ?_⟩
    unfold num
    have e1 : isC 45 (45 :: t) = true := rfl
    rw [e1, if_pos rfl]
    exact ht
  · rw [if_neg h45] at h
    obtain ⟨t, e, ht, c, t', ec, hc⟩ := key _ h
    refine ⟨t, e, ?_⟩
    unfold num
    have e1 : isC 45 t = false := by
      rw [ec]
      simp only [isC, beq_eq_false_iff_ne, ne_eq]
      rintro rfl
      exact absurd hc (by decide)
    rw [e1, if_neg (by simp)]
    exact ht
theorem number_is (l r t : Bs) (h : number l = .ok r t) : isNum t = true ∧ l = t ++ r := by
  unfold number at h
  cases hn : num l with
  | bad a b => rw [hn] at h; cases h
  | ok a u =>
    rw [hn] at h
    simp only at h
    injection h with h1 h2
    obtain ⟨t', e, ht⟩ := num_part _ _ _ hn
    subst h1
    have e2 : t = t' := by
      rw [← h2]
      conv => lhs; rw [e]
      simp
    subst e2
    refine ⟨?_, e⟩
    unfold isNum
    rw [ht]
end Go.Proofs.YtadfkeipcebmfaaDoor.Pure

namespace Go.Proofs.YtadfkeipcebmfaaDoor.Pure
open Go.Proofs.YtadfkeipcebmfaaDoor.X Go.RowKit Go.Proofs.YtadfkeipcebmfaaDoorW.PrintWords
set_option linter.unusedVariables false
set_option linter.unusedSimpArgs false
theorem u8n (n : Nat) (h : n < 256) : (UInt8.ofNat n).toNat = n := by rw [UInt8.toNat_ofNat']; omega
/-- What decodes in full is passed over. -/
theorem valid_of (l : Bs) (hne : l ≠ []) (w : Nat) (n : Nat) (hd : Lib.decodeL l = (n, w)) (hw : w ≠ 1) : Lib.validD l = Lib.validD (l.drop w) := by
  rw [Lib.validD_step l hne, hd, if_neg (fun h => hw h.2)]
set_option maxRecDepth 100000 in
theorem enc_valid (x : Nat) (h1 : x < 1114112) (h2 : x < 55296 ∨ 57343 < x) : Lib.validD (enc x) = true := by
  have hv : Utf8.valid (x : Int) = true := by
    unfold Utf8.valid
    simp
    omega
  have he : enc x = if x < 128 then [UInt8.ofNat x] else if x < 2048 then [UInt8.ofNat (192 + x / 64), UInt8.ofNat (128 + x % 64)] else if x < 65536 then [UInt8.ofNat (224 + x / 4096), UInt8.ofNat (128 + x / 64 % 64), UInt8.ofNat (128 + x % 64)] else [UInt8.ofNat (240 + x / 262144), UInt8.ofNat (128 + x / 4096 % 64), UInt8.ofNat (128 + x / 64 % 64), UInt8.ofNat (128 + x % 64)] := by
    rw [enc, Utf8.encode, if_pos hv, Int.toNat_natCast]
    simp only
    split
    · rfl
    · split
      · rfl
      · split <;> rfl
  rw [he]
  split
  · rw [Lib.validD_cons _ _ (by rw [u8n _ (by omega)]; assumption)]
    rfl
  · split
    · rw [valid_of _ (by simp) 2 x (by
        rw [Lib.decodeL_N]
        simp only [List.length_cons, List.length_nil, List.getD_cons_zero, List.getD_cons_succ]
        rw [u8n _ (by omega), u8n _ (by omega)]
        unfold Lib.decodeN
        have e : (192 + x / 64) % 32 * 64 + (128 + x % 64) % 64 = x := by omega
        rw [if_neg (by omega), if_pos (by omega), e, if_pos (by omega)]) (by decide)]
      rfl
    · split
      · rw [valid_of _ (by simp) 3 x (by
          rw [Lib.decodeL_N]
          simp only [List.length_cons, List.length_nil, List.getD_cons_zero, List.getD_cons_succ]
          rw [u8n _ (by omega), u8n _ (by omega), u8n _ (by omega)]
          unfold Lib.decodeN
          have e : (224 + x / 4096) % 16 * 4096 + (128 + x / 64 % 64) % 64 * 64 + (128 + x % 64) % 64 = x := by omega
          rw [if_neg (by omega), if_neg (by omega), if_pos (by omega), e, if_pos (by omega)]) (by decide)]
        rfl
      · rw [valid_of _ (by simp) 4 x (by
          rw [Lib.decodeL_N]
          simp only [List.length_cons, List.length_nil, List.getD_cons_zero, List.getD_cons_succ]
          rw [u8n _ (by omega), u8n _ (by omega), u8n _ (by omega), u8n _ (by omega)]
          unfold Lib.decodeN
          have e : (240 + x / 262144) % 8 * 262144 + (128 + x / 4096 % 64) % 64 * 4096 + (128 + x / 64 % 64) % 64 * 64 + (128 + x % 64) % 64 = x := by omega
          rw [if_neg (by omega), if_neg (by omega), if_neg (by omega), if_pos (by omega), e, if_pos (by omega)]) (by decide)]
        rfl
theorem valid_app : ∀ (m : Nat) (a b : Bs), a.length ≤ m → Lib.validD a = true → Lib.validD (a ++ b) = Lib.validD b
  | _, [], b, _, _ => rfl
  | 0, c :: r, b, hm, _ => by simp at hm
  | m + 1, c :: r, b, hm, h => by
    by_cases hc : c.toNat < 128
    · rw [Lib.validD_cons c r hc] at h
      rw [List.cons_append, Lib.validD_cons c _ hc]
      exact valid_app m r b (by simp at hm; omega) h
    · obtain ⟨v1, v2⟩ := valid_sgn c r h
      obtain ⟨o1, o2, o3, o4⟩ := sgn_own c r hc v1
      have hle := sgn_le (c :: r)
      have hs := sgn_ext (c :: r) b v1
      have hw : (Lib.decodeL (c :: (r ++ b))).2 = sgn (c :: r) := by
        rw [List.cons_append] at hs
        simp only [sgn] at hs v1 ⊢
        rw [if_neg hc] at hs v1 ⊢
        split at v1
        · exact absurd rfl v1
        · rename_i n1
          rw [if_neg n1] at hs ⊢
          split at hs
          · have := Lib.decodeL_width (c :: r)
            omega
          · exact hs
      have hv : Lib.validD ((c :: r) ++ b) = Lib.validD (((c :: r) ++ b).drop (sgn (c :: r))) := by
        rw [← hw]
        exact valid_of _ (by simp) _ (Lib.decodeL (c :: (r ++ b))).1 rfl (by rw [hw]; omega)
      rw [hv, drop_app' _ _ _ hle]
      exact valid_app m _ b (by rw [List.length_drop]; simp at hm ⊢; omega) v2
theorem valid_cat {a b : Bs} (ha : Lib.validD a = true) (hb : Lib.validD b = true) : Lib.validD (a ++ b) = true := by rw [valid_app a.length a b (Nat.le_refl _) ha, hb]
theorem four_lt {r : Bs} {x : Nat} (h : four r = some x) : x < 65536 := (four_len r x h).2
theorem uni_valid (l r r5 t5 : Bs) (h : uni l r = .ok r5 t5) : Lib.validD t5 = true := by
  unfold uni at h
  cases hf : four r with
  | none => rw [hf] at h; cases h
  | some x =>
    have hx := four_lt hf
    rw [hf] at h
    simp only at h
    split at h
    · cases h
    · rename_i n1
      split at h
      · rename_i n2
        obtain ⟨_, h2⟩ := ok_inj h
        rw [← h2]
        exact enc_valid x (by omega) n2
      · rename_i n2
        split at h
        · split at h
          · cases hf2 : four ‹_› with
            | none => rw [hf2] at h; cases h
            | some y =>
              have hy := four_lt hf2
              rw [hf2] at h
              simp only at h
              split at h
              · rename_i n4
                obtain ⟨_, h2⟩ := ok_inj h
                rw [← h2]
                exact enc_valid _ (by omega) (by omega)
              · cases h
          · cases h
        · cases h
theorem unmark_low (c m : UInt8) (h : unmark c = some m) : m.toNat < 128 := by
  have := all_bytes (p := fun c => match unmark c with | some m => decide (m.toNat < 128) | none => true) (by decide +kernel) c
  rw [h] at this
  simpa using this
theorem escape_valid (l r5 t5 : Bs) (h : escape l = .ok r5 t5) : Lib.validD t5 = true := by
  unfold escape at h
  split at h
  · split at h
    · rename_i m hu
      obtain ⟨_, h2⟩ := ok_inj h
      rw [← h2, Lib.validD_cons _ _ (unmark_low _ _ hu)]
      rfl
    · split at h
      · exact uni_valid _ _ _ _ h
      · cases h
  · cases h
theorem chars_valid : ∀ (n : Nat) (l acc r t : Bs), chars n l acc = .ok r t → Lib.validD acc = true → Lib.validD t = true ∧ t.length + r.length + 1 ≤ acc.length + l.length
  | 0, l, acc, r, t, h, _ => by cases h
  | n + 1, [], acc, r, t, h, _ => by cases h
  | n + 1, c :: l, acc, r, t, h, ha => by
    simp only [chars] at h
    split at h
    · obtain ⟨h1, h2⟩ := ok_inj h
      subst h1
      subst h2
      exact ⟨ha, by simp; omega⟩
    · split at h
      · cases h
      · split at h
        · cases he : escape (c :: l) with
          | bad a b => rw [he] at h; cases h
          | ok a b =>
            rw [he] at h
            obtain ⟨g1, g2⟩ := chars_valid n a _ r t h (valid_cat ha (escape_valid _ _ _ he))
            have hz := escape_size _ _ _ he
            refine ⟨g1, ?_⟩
            simp only [List.length_append] at g2
            omega
        · split at h
          · cases h
          · rename_i hs
            have hle := sgn_le (c :: l)
            have hck : Lib.validD ((c :: l).take (sgn (c :: l))) = true := by
              by_cases hc : c.toNat < 128
              · have e : sgn (c :: l) = 1 := by simp only [sgn]; rw [if_pos hc]
                rw [e]
                simp only [List.take_succ_cons, List.take_zero]
                rw [Lib.validD_cons _ _ hc]
                rfl
              · obtain ⟨o1, o2, o3, o4⟩ := sgn_own c l hc hs
                obtain ⟨w, hw⟩ : ∃ w, w = sgn (c :: l) := ⟨_, rfl⟩
                rw [← hw] at o2 o4 hle ⊢
                have hlen : ((c :: l).take w).length = w := by rw [List.length_take]; omega
                obtain ⟨w', rfl⟩ : ∃ w', w = w' + 1 := ⟨w - 1, by omega⟩
                have e : (c :: l).take (w' + 1) = c :: l.take w' := rfl
                have hw2 : (Lib.decodeL ((c :: l).take (w' + 1))).2 = w' + 1 := by
                  rw [e] at o2 ⊢
                  simp only [sgn] at o2
                  rw [if_neg hc] at o2
                  split at o2
                  · omega
                  · exact o2
                rw [valid_of _ (by rw [e]; simp) (w' + 1) (Lib.decodeL ((c :: l).take (w' + 1))).1 (Prod.ext rfl hw2) (by omega), List.drop_of_length_le (by omega)]
                rfl
            obtain ⟨g1, g2⟩ := chars_valid n _ _ r t h (valid_cat ha hck)
            refine ⟨g1, ?_⟩
            simp only [List.length_append, List.length_take, List.length_drop] at g2
            omega
where
  escape_size (l r5 t5 : Bs) (h : escape l = .ok r5 t5) : t5.length + r5.length ≤ l.length := by
    unfold escape at h
    split at h
    · split at h
      · obtain ⟨h1, h2⟩ := ok_inj h
        rw [← h1, ← h2]
        simp
        omega
      · split at h
        · have := uni_size _ _ _ _ h
          simp
          omega
        · cases h
    · cases h
  uni_size (l r r5 t5 : Bs) (h : uni l r = .ok r5 t5) : t5.length + r5.length ≤ r.length := by
    unfold uni at h
    cases hf : four r with
    | none => rw [hf] at h; cases h
    | some x =>
      obtain ⟨hl, _⟩ := four_len r x hf
      rw [hf] at h
      simp only at h
      split at h
      · cases h
      · split at h
        · obtain ⟨h1, h2⟩ := ok_inj h
          have := enc_len x
          rw [← h1, ← h2, List.length_drop]
          omega
        · split at h
          · rename_i c1 c2 r2 hr
            have hlr := congrArg List.length hr
            simp at hlr
            split at h
            · cases hf2 : four r2 with
              | none => rw [hf2] at h; cases h
              | some y =>
                obtain ⟨hl2, _⟩ := four_len r2 y hf2
                rw [hf2] at h
                simp only at h
                split at h
                · obtain ⟨h1, h2⟩ := ok_inj h
                  have := enc_len (65536 + (x - 55296) * 1024 + (y - 56320))
                  rw [← h1, ← h2, List.length_drop]
                  omega
                · cases h
            · cases h
          · cases h
theorem text_valid (l r t : Bs) (h : text l = .ok r t) : Lib.validD t = true ∧ t.length + r.length + 2 ≤ l.length := by
  cases l with
  | nil => cases h
  | cons c l =>
    simp only [text] at h
    split at h
    · obtain ⟨h1, h2⟩ := chars_valid _ _ _ _ _ h rfl
      simp at h2 ⊢
      exact ⟨h1, by omega⟩
    · cases h
end Go.Proofs.YtadfkeipcebmfaaDoor.Pure

namespace Go.Proofs.YtadfkeipcebmfaaDoor.X
open Go.RowKit Go.Proofs.YtadfkeipcebmfaaDoorW.PrintWords
set_option linter.unusedVariables false
set_option linter.unusedSimpArgs false
set_option maxRecDepth 100000 in
theorem u8x : Go.Proofs.U8Extra Tryd.prog vren := ⟨by kernel_rfl, by kernel_rfl, by kernel_rfl, by kernel_rfl, by kernel_rfl, by kernel_rfl, by kernel_rfl⟩
theorem u8t : Go.Proofs.U8Types Tryd.prog vren := Go.Proofs.U8Types.of196 vlays
theorem GlobU8.laid {W : World} {l : List (String × DataW Unit)} (hL : laidMet Tryd.prog l W) (h1 : ("unicode/utf8.first", Go.Lib.firstData) ∈ l) (h2 : ("unicode/utf8.acceptRanges", Go.Lib.acceptData) ∈ l) : GlobU8 W :=
  GlobU8.of (Go.Proofs.utf8Tabs_of_readsT u8t u8x (Go.Lib.laidMet.reads hL h1) (Go.Lib.laidMet.reads hL h2))
theorem GlobU8.laid2 {W : World} {l : List (String × DataW Unit)} (hL : laidMet Tryd.prog l W) {d1 d2 : DataW Unit} (h1 : ("unicode/utf8.first", d1) ∈ l) (e1 : d1 = Go.Lib.firstData) (h2 : ("unicode/utf8.acceptRanges", d2) ∈ l) (e2 : d2 = Go.Lib.acceptData) : GlobU8 W :=
  GlobU8.laid hL (e1 ▸ h1) (e2 ▸ h2)
end Go.Proofs.YtadfkeipcebmfaaDoor.X

namespace Go.Proofs.YtadfkeipcebmfaaDoor.X
open Go
set_option linter.unusedVariables false
section
variable {H : Type} {enc : TypeId × Value → H}
theorem handed_laid_shaped {a : Assume} {C : Checked} {os : Os} {f : FuncId} {fn : Func} {s : ChangeSpec} {conds : List PathCond} {apart fresh handsOn again : Bool} {X : World → Array Value → Prop}
    (hX : ∀ (w w' : World) (args : Array Value), w.heap = w'.heap → X w args → X w' args)
    (own : ownKnob C.prog.godebug = none) (started : os.Started) (noInit : C.prog.inits.idxOf? f = none) (hfn : C.prog.funcs[f]? = some fn)
    (witness : ∃ (w : World) (tape : Tape) (i : Input), w.os = os ∧ (w.forCall tape i).Shaped C.prog ∧ i.vars = [] ∧ Input.okWide C.prog (w.forCall tape i) .any w.heap.size f i ∧
      ((s.pre enc C.prog fn conds apart (w.forCall tape i).memory i.args ∧ X (w.forCall tape i).memory i.args) ∧ sizedMet enc C.prog fn (OpenSpec.ofChange s) apart (w.forCall tape i).memory i.args) ∧ a.holds C.prog (lone (Frame.enter C.prog f i.args .normal) [] (w.forCall tape i)))
    (contract : ∀ (W : World) (base : Nat) (args : Array Value) (ds gs : List (DataW H)) (before : List MemPlace),
      (∀ (j : Nat) t v, fn.params[j]? = some t → args[j]? = some v → Value.okWide C.prog W .any base t v) →
      DataW.Whole enc C.prog fn.params.toList s.vars apart W args.toList ds gs before →
      conds.all (PathCond.test C.prog ⟨fn.params.toList, ds, s.plain.varTypes C.prog, gs⟩) = true →
      (DataW.weightsEach C.prog (fn.params.toList ++ s.plain.varTypes C.prog) (ds ++ gs)).all (· ≤ reachBytes) = true → X W args → W.ShapedOpen C.prog →
      a.holds C.prog (lone (Frame.enter C.prog f args .normal) [] W) →
      Calls C.prog f args W fun e W' => ∃ v, e = .returned v ∧ s.post enc C.prog fn apart fresh handsOn again W args v W') :
    ReturnsInHanded a C os f .any (fun w args => (s.pre enc C.prog fn conds apart w args ∧ X w args) ∧ sizedMet enc C.prog fn (OpenSpec.ofChange s) apart w args) (s.post enc C.prog fn apart fresh handsOn again) := by
  refine returnsInHanded_of_calls own started noInit witness ?_
  intro w tape i _ hsh _ hok hpre hholds
  obtain ⟨_, _, _, fn', hfn', _, _, _, _, hval⟩ := hok
  have e : fn' = fn := Option.some.inj (hfn'.symm.trans hfn)
  subst e
  obtain ⟨⟨⟨ds, gs, before, hw, hc⟩, hx⟩, hz⟩ := hpre
  have hw' := DataW.Whole.of_heap (w' := w.forCall tape i) (by rfl) hw
  refine (contract (w.forCall tape i) w.heap.size i.args ds gs before hval hw' hc (hz.weights hw) (hX _ _ _ (by rfl) hx) hsh hholds).mono fun e W' ⟨v, he, hp⟩ => ?_
  subst he
  exact ChangeSpec.post_blind hp
end
end Go.Proofs.YtadfkeipcebmfaaDoor.X

namespace Go.Proofs.YtadfkeipcebmfaaDoor.Pure
open Go.RowKit Go.Proofs.YtadfkeipcebmfaaDoor.X Go.Proofs.YtadfkeipcebmfaaDoorW.PrintWords
set_option linter.unusedVariables false
set_option maxRecDepth 100000 in
theorem works_true : racewaylaw25_works.f = some true := by decide +kernel
end Go.Proofs.YtadfkeipcebmfaaDoor.Pure

namespace Go.Proofs.YtadfkeipcebmfaaDoor.Pure
open Go.Proofs.YtadfkeipcebmfaaDoor.X Go.RowKit Go.Proofs.YtadfkeipcebmfaaDoorW.PrintWords
set_option linter.unusedVariables false
set_option linter.unusedSimpArgs false
/-- What may be told of a text. -/
def E57 {α : Type} (x : Rs α) : Prop := ∀ r e, x = .bad r e → e = 5 ∨ e = 7
theorem E57.map {α β : Type} {f : α → β} {x : Rs α} (h : E57 x) : E57 (x.map f) := by
  intro r e h'
  cases x with
  | bad a b =>
    injection h' with _ h2
    exact h2 ▸ h a b rfl
  | ok a b => cases h'
theorem bad_inj {α : Type} {a c : Bs} {b d : Int} (h : (Rs.bad a b : Rs α) = Rs.bad c d) : a = c ∧ b = d := by
  cases h
  exact ⟨rfl, rfl⟩
theorem e57_5 {α : Type} (l : Bs) : E57 (.bad l 5 : Rs α) := fun r e h => .inl (bad_inj h).2.symm
theorem e57_ok {α : Type} (l : Bs) (a : α) : E57 (.ok l a : Rs α) := fun r e h => by cases h
theorem digits_e (l : Bs) : E57 (digits l) := by
  unfold digits
  split
  · split
    · exact e57_ok _ _
    · exact e57_5 _
  · exact e57_5 _
theorem num_e (l : Bs) : E57 (num l) := by
  have h1 : ∀ l, E57 (num1 l) := fun l => by
    unfold num1
    split
    · exact e57_ok _ _
    · exact digits_e _
  have h2 : ∀ l, E57 (num2 l) := fun l => by
    unfold num2
    split
    · exact digits_e _
    · exact e57_ok _ _
  have h3 : ∀ l, E57 (num3 l) := fun l => by
    unfold num3
    split
    · split <;> exact digits_e _
    · exact e57_ok _ _
  unfold num
  split
  · rename_i r e hh
    intro r' e' h'
    rw [← (bad_inj h').2]
    exact h1 _ _ _ hh
  · split
    · rename_i r e hh
      intro r' e' h'
      rw [← (bad_inj h').2]
      exact h2 _ _ _ hh
    · exact h3 _
theorem number_e (l : Bs) : E57 (number l) := by
  unfold number
  split
  · rename_i r e hh
    intro r' e' h'
    rw [← (bad_inj h').2]
    exact num_e _ _ _ hh
  · exact e57_ok _ _
theorem word_e : ∀ (w l : Bs), E57 (word w l)
  | [], l => e57_ok _ _
  | c :: w, [] => e57_5 _
  | c :: w, d :: l => by
    simp only [word]
    split
    · exact word_e w l
    · exact e57_5 _
theorem uni_e (l r : Bs) : E57 (uni l r) := by
  unfold uni
  split
  · exact e57_5 _
  · split
    · exact e57_5 _
    · split
      · exact e57_ok _ _
      · split
        · split
          · split
            · split
              · exact e57_ok _ _
              · exact e57_5 _
            · exact e57_5 _
          · exact e57_5 _
        · exact e57_5 _
theorem escape_e (l : Bs) : E57 (escape l) := by
  unfold escape
  split
  · split
    · exact e57_ok _ _
    · split
      · exact uni_e _ _
      · exact e57_5 _
  · exact e57_5 _
theorem chars_e : ∀ (n : Nat) (l acc : Bs), E57 (chars n l acc)
  | 0, l, acc => e57_5 _
  | n + 1, [], acc => e57_5 _
  | n + 1, c :: l, acc => by
    simp only [chars]
    split
    · exact e57_ok _ _
    · split
      · exact e57_5 _
      · split
        · split
          · exact chars_e n _ _
          · rename_i hh
            intro r' e' h'
            rw [← (bad_inj h').2]
            exact escape_e _ _ _ hh
        · split
          · exact e57_5 _
          · exact chars_e n _ _
theorem text_e (l : Bs) : E57 (text l) := by
  unfold text
  split
  · split
    · exact chars_e _ _ _
    · exact e57_5 _
  · exact e57_5 _
theorem member_e (ob : Bool) (l : Bs) : E57 (member ob l) := by
  unfold member
  split
  · split
    · rename_i hh
      intro r' e' h'
      rw [← (bad_inj h').2]
      exact text_e _ _ _ hh
    · split
      · exact e57_ok _ _
      · exact e57_5 _
  · exact e57_ok _ _
theorem items_e {v : Bs → Bs → Rs F} (hv : ∀ k l, E57 (v k l)) (ob : Bool) (close : UInt8) : ∀ (n : Nat) (l : Bs), E57 (items v ob close n l)
  | 0, l => e57_5 _
  | n + 1, l => by
    simp only [items]
    split
    · rename_i hh
      intro r' e' h'
      rw [← (bad_inj h').2]
      exact member_e _ _ _ _ hh
    · split
      · rename_i hh
        intro r' e' h'
        rw [← (bad_inj h').2]
        exact hv _ _ _ _ hh
      · split
        · exact e57_ok _ _
        · split
          · exact (items_e hv ob close n _).map
          · exact e57_5 _
theorem many_e {v : Bs → Bs → Rs F} (hv : ∀ k l, E57 (v k l)) (ob : Bool) (key l : Bs) : E57 (many v ob key l) := by
  unfold many
  simp only
  split <;> split <;> first | exact e57_ok _ _ | exact (items_e hv _ _ _ _).map
theorem value_e : ∀ (d : Nat) (key l : Bs), E57 (value d key l)
  | 0, key, [] => e57_5 _
  | 0, key, c :: l => by
    simp only [value]
    split
    · exact e57_5 _
    · exact fun r e h => .inr (bad_inj h).2.symm
  | d + 1, key, [] => e57_5 _
  | d + 1, key, c :: l => by
    have ih := value_e d
    simp only [value]
    split
    · exact e57_5 _
    · split
      · exact many_e ih _ _ _
      · split
        · exact many_e ih _ _ _
        · split
          · exact (text_e _).map
          · split
            · exact (word_e _ _).map
            · split
              · exact (word_e _ _).map
              · split
                · exact (word_e _ _).map
                · exact (number_e _).map
theorem same_self (l : List (S46)) (hl : l.length ≤ 1099511627776) (k : Nat) (hk : l.length + 1 ≤ k) : racewayref25_Same.f k l l = some true := by
  rw [racewayref25_Same.f, if_pos rfl]
  have : ∀ (n i k : Nat), i + n = l.length → n + 1 ≤ k → racewayref25_Same.l0 k l l (i : Int) = some true := by
    intro n
    induction n with
    | zero =>
      intro i k hi hk
      obtain ⟨k, rfl⟩ : ∃ k', k = k' + 1 := ⟨k - 1, by omega⟩
      rw [racewayref25_Same.l0, if_neg (by omega)]
    | succ n ih =>
      intro i k hi hk
      obtain ⟨k, rfl⟩ : ∃ k', k = k' + 1 := ⟨k - 1, by omega⟩
      rw [racewayref25_Same.l0, if_pos (by omega), if_pos (by omega), if_pos (by omega), if_neg (by simp)]
      have e : wrap64 ((i : Int) + 1) = ((i + 1 : Nat) : Int) := by unfold wrap64; omega
      rw [e]
      exact ih (i + 1) k (by omega) (by omega)
  exact this l.length 0 k (by omega) hk
end Go.Proofs.YtadfkeipcebmfaaDoor.Pure

namespace Go.Proofs.YtadfkeipcebmfaaDoor.Pure
open Go.Proofs.YtadfkeipcebmfaaDoor.X Go.RowKit Go.Proofs.YtadfkeipcebmfaaDoorW.PrintWords
set_option linter.unusedVariables false
set_option linter.unusedSimpArgs false
def VG (d : Nat) : Prop := ∀ (k l r : Bs) (f : F) (keyed : Bool), value d k l = .ok r f → l.length ≤ 65536 → Lib.validD k = true → (k.isEmpty || keyed) = true →
  good f d keyed = true ∧ f.one ∧ key f = k ∧ (f.out false true).length + 6 * r.length ≤ 6 * l.length
theorem out_one {t : F} (h : t.one) (ob first : Bool) : t.out ob first = (if first then [] else [44]) ++ (if ob then quote (key t) ++ [58] else []) ++ t.out false true := by
  match t, h with
  | .leaf k kd tx .nil, _ => simp [F.out, key]
  | .node k kd ks .nil, _ => simp [F.out, key]
theorem out_app {t : F} (h : t.one) (g : F) (ob first : Bool) : (t.app g).out ob first = t.out ob first ++ g.out ob false := by
  match t, h with
  | .leaf k kd tx .nil, _ => simp [F.app, F.out]
  | .node k kd ks .nil, _ => simp [F.app, F.out]
theorem out_first (f : F) (ob : Bool) : (f.out ob false).length ≤ (f.out ob true).length + 1 := by
  cases f with
  | nil => simp [F.out]
  | leaf k kd t r => simp [F.out]
  | node k kd ks r => simp [F.out]
theorem member_good (ob : Bool) (l r k : Bs) (h : member ob l = .ok r k) : Lib.validD k = true ∧ (k.isEmpty || ob) = true ∧ (if ob then quote k ++ [58] else []).length + 6 * r.length ≤ 6 * l.length := by
  unfold member at h
  cases ob with
  | false =>
    simp only [Bool.false_eq_true, if_false] at h
    obtain ⟨h1, h2⟩ := ok_inj h
    subst h1
    subst h2
    exact ⟨rfl, rfl, by simp⟩
  | true =>
    simp only [if_true] at h
    cases ht : text l with
    | bad a b => rw [ht] at h; cases h
    | ok a b =>
      rw [ht] at h
      simp only at h
      obtain ⟨v1, v2⟩ := text_valid _ _ _ ht
      split at h
      · obtain ⟨h1, h2⟩ := ok_inj h
        subst h2
        have b1 := blanks_len a
        have b2 := blanks_len ((blanks a).drop 1)
        rw [List.length_drop] at b2
        have hq := quote_len b
        refine ⟨v1, by simp, ?_⟩
        rw [← h1]
        simp only [if_true, List.length_append, List.length_cons, List.length_nil]
        omega
      · cases h
theorem items_good (d : Nat) (hv : VG d) (ob : Bool) (close : UInt8) : ∀ (n : Nat) (l r : Bs) (f : F), items (value d) ob close n l = .ok r f → l.length ≤ 65536 → good f d ob = true ∧ (f.out ob true).length + 6 * r.length + 6 ≤ 6 * l.length
  | 0, l, r, f, h, hl => by cases h
  | n + 1, l, r, f, h, hl => by
    simp only [items] at h
    cases h1 : member ob l with
    | bad a b => rw [h1] at h; cases h
    | ok l1 k =>
      rw [h1] at h
      simp only at h
      obtain ⟨m1, m2, m3⟩ := member_good _ _ _ _ h1
      cases h2 : value d k l1 with
      | bad a b => rw [h2] at h; cases h
      | ok l2 t =>
        rw [h2] at h
        simp only at h
        obtain ⟨g1, g2, g3, g4⟩ := hv _ _ _ _ ob h2 (by omega) m1 m2
        have b1 := blanks_len l2
        by_cases hc : isC close (blanks l2) = true
        · rw [if_pos hc] at h
          obtain ⟨e1, e2⟩ := ok_inj h
          subst e2
          have hne := len1 hc
          refine ⟨g1, ?_⟩
          rw [out_one g2 ob true, g3, ← e1, List.length_drop]
          simp only [if_true, List.nil_append, List.length_append]
          omega
        · rw [if_neg hc] at h
          by_cases h4 : isC 44 (blanks l2) = true
          · rw [if_pos h4] at h
            obtain ⟨g, hg, rfl⟩ := map_ok h
            have hne := len1 h4
            have b2 := blanks_len ((blanks l2).drop 1)
            rw [List.length_drop] at b2
            obtain ⟨i1, i2⟩ := items_good d hv ob close n _ _ _ hg (by omega)
            refine ⟨by rw [good_app, g1, i1]; rfl, ?_⟩
            have o1 := out_first g ob
            rw [out_app g2 g ob true, out_one g2 ob true, g3]
            simp only [if_true, List.nil_append, List.length_append]
            omega
          · rw [if_neg h4] at h
            cases h
theorem many_good (d : Nat) (hv : VG d) (ob : Bool) (k l r : Bs) (f : F) (keyed : Bool) (h : many (value d) ob k l = .ok r f) (hl : l.length ≤ 65536) (hk : Lib.validD k = true) (hk2 : (k.isEmpty || keyed) = true) :
    good f (d + 1) keyed = true ∧ f.one ∧ key f = k ∧ (f.out false true).length + 6 * r.length ≤ 6 * l.length + 6 := by
  unfold many at h
  simp only at h
  have b1 := blanks_len l
  by_cases hc : isC (if ob = true then 125 else 93) (blanks l) = true
  · rw [if_pos hc] at h
    obtain ⟨e1, e2⟩ := ok_inj h
    subst e2
    have hne := len1 hc
    refine ⟨?_, trivial, rfl, ?_⟩
    · simp only [good, hk, hk2]
      cases ob <;> rfl
    · rw [← e1, List.length_drop]
      have : ((F.node k (if ob = true then 7 else 6) .nil .nil).out false true).length = 2 := by cases ob <;> rfl
      omega
  · rw [if_neg hc] at h
    obtain ⟨g, hg, rfl⟩ := map_ok h
    obtain ⟨i1, i2⟩ := items_good d hv ob _ _ _ _ _ hg (by omega)
    refine ⟨?_, trivial, rfl, ?_⟩
    · simp only [good, hk, hk2, Nat.add_sub_cancel]
      cases ob with
      | false => simpa using i1
      | true => simpa using i1
    · have : ((F.node k (if ob = true then 7 else 6) g .nil).out false true).length = (g.out ob true).length + 2 := by cases ob <;> simp [F.out]
      omega
theorem word_size : ∀ (w l r : Bs) (u : Unit), word w l = .ok r u → r.length + w.length = l.length
  | [], l, r, u, h => by
    obtain ⟨h1, _⟩ := ok_inj h
    rw [h1]
    rfl
  | c :: w, [], r, u, h => by cases h
  | c :: w, d :: l, r, u, h => by
    simp only [word] at h
    split at h
    · have := word_size w l r u h
      simp
      omega
    · cases h
theorem value_good : ∀ d : Nat, VG d
  | 0, k, l, r, f, keyed, h, _, _, _ => by
    cases l with
    | nil => cases h
    | cons c l =>
      simp only [value] at h
      split at h <;> cases h
  | d + 1, k, [], r, f, keyed, h, _, _, _ => by cases h
  | d + 1, k, c :: l, r, f, keyed, h, hl, hk, hk2 => by
    have ih := value_good d
    simp only [value] at h
    simp only [List.length_cons] at hl
    have leafG : ∀ (kd : Int) (t : Bs), leafB kd t = true → good (.leaf k kd t .nil) (d + 1) keyed = true := fun kd t ht => by
      simp only [good, hk, hk2, ht]
      simp
    have leafO : ∀ (kd : Int) (t : Bs), (F.leaf k kd t .nil).out false true = ltx kd t := fun kd t => by simp [F.out]
    split at h
    · cases h
    · split at h
      · obtain ⟨a1, a2, a3, a4⟩ := many_good d ih true k l r f keyed h (by omega) hk hk2
        exact ⟨a1, a2, a3, by simp only [List.length_cons]; omega⟩
      · split at h
        · obtain ⟨a1, a2, a3, a4⟩ := many_good d ih false k l r f keyed h (by omega) hk hk2
          exact ⟨a1, a2, a3, by simp only [List.length_cons]; omega⟩
        · split at h
          · obtain ⟨t, ht, rfl⟩ := rmap_ok h
            obtain ⟨v1, v2⟩ := text_valid _ _ _ ht
            refine ⟨leafG 5 t v1, trivial, rfl, ?_⟩
            rw [leafO]
            have hq := quote_len t
            have : (ltx 5 t).length = (quote t).length := rfl
            omega
          · split at h
            · obtain ⟨t, ht, rfl⟩ := rmap_ok h
              have hw := word_size _ _ _ _ ht
              refine ⟨leafG 2 [] rfl, trivial, rfl, ?_⟩
              rw [leafO]
              have : (ltx 2 []).length = 4 := rfl
              simp only [List.length_cons, List.length_nil] at hw ⊢
              omega
            · split at h
              · obtain ⟨t, ht, rfl⟩ := rmap_ok h
                have hw := word_size _ _ _ _ ht
                refine ⟨leafG 3 [] rfl, trivial, rfl, ?_⟩
                rw [leafO]
                have : (ltx 3 []).length = 5 := rfl
                simp only [List.length_cons, List.length_nil] at hw ⊢
                omega
              · split at h
                · obtain ⟨t, ht, rfl⟩ := rmap_ok h
                  have hw := word_size _ _ _ _ ht
                  refine ⟨leafG 1 [] rfl, trivial, rfl, ?_⟩
                  rw [leafO]
                  have : (ltx 1 []).length = 4 := rfl
                  simp only [List.length_cons, List.length_nil] at hw ⊢
                  omega
                · obtain ⟨t, ht, rfl⟩ := rmap_ok h
                  obtain ⟨n1, n2⟩ := number_is _ _ _ ht
                  have hlen := congrArg List.length n2
                  simp only [List.length_cons, List.length_append] at hlen
                  have hlb : leafB 4 t = true := by
                    unfold leafB
                    rw [if_pos rfl, n1, decide_eq_true (by omega)]
                    rfl
                  refine ⟨leafG 4 t hlb, trivial, rfl, ?_⟩
                  rw [leafO]
                  have : (ltx 4 t).length = t.length := rfl
                  simp only [List.length_cons]
                  omega
/-- A text that is parsed: its tree may be, and is written in not more than six times as much. -/
theorem parse_good {s : Bs} {f : F} (h : parse s = (f, 0, 0)) : good f 32 false = true ∧ f.one ∧ f.txt.length ≤ 6 * s.length := by
  unfold parse at h
  split at h
  · cases h
  · rename_i hl
    split at h
    · rename_i r e hv
      simp only [Prod.mk.injEq] at h
      have := value_e 32 [] (blanks s) r e hv
      omega
    · rename_i r g hv
      split at h
      · simp only [Prod.mk.injEq] at h
        obtain ⟨rfl, _⟩ := h
        have b := blanks_len s
        obtain ⟨a1, a2, a3, a4⟩ := value_good 32 _ _ _ _ false hv (by omega) rfl rfl
        refine ⟨a1, a2, ?_⟩
        unfold F.txt
        omega
      · simp only [Prod.mk.injEq] at h
        exact absurd h.2.2 (by decide)
end Go.Proofs.YtadfkeipcebmfaaDoor.Pure

