/-
  What the claim's law rests on, part 3 of 6: printed walks, externals, plain lemmas; conditions: none of its own.
-/
import Derived.BigQuiet
import Derived.Lib.Bytealg
import Derived.Lib.Hide
import Derived.Lib.SplitLaws
import Derived.Lib.Strings
import Derived.Test.YtolpefnedpgaaaaDoorProg
import Derived.WalkKit
import Derived.WalkLawsBesides
import Derived.WalkSpells
import Derived.Test.YtolpefnedpgaaaaDoorCa2
namespace Go.Proofs.YtolpefnedpgaaaaDoor.X
open Go.RowKit Go.Proofs.YtolpefnedpgaaaaDoorW.PrintWords Go.Proofs.YtolpefnedpgaaaaDoorW.PrintLast Go.Proofs.YtolpefnedpgaaaaDoorW.PrintMore
attribute [local go_sem] max2_int min2_int max_two min_two max_three min_three max_four min_four   -- for this text's walks alone
set_option linter.unusedVariables false
set_option linter.unusedSimpArgs false

def attribute_Name.f (k : Nat) (a0 : ByteArray) : Option (Bool) := (attribute_all.f k a0 (⟨#[65, 66, 67, 68, 69, 70, 71, 72, 73, 74, 75, 76, 77, 78, 79, 80, 81, 82, 83, 84, 85, 86, 87, 88, 89, 90, 97, 98, 99, 100, 101, 102, 103, 104, 105, 106, 107, 108, 109, 110, 111, 112, 113, 114, 115, 116, 117, 118, 119, 120, 121, 122, 48, 49, 50, 51, 52, 53, 54, 55, 56, 57, 95, 45, 46]⟩ : ByteArray) 64).bind fun t119 => (if t119 = true then (if 0 < (a0.size : Int) then (if (bt a0 0) = 46 then (some false) else (if 0 ≤ (wrap64 ((a0.size : Int) - 1)) then (if (wrap64 ((a0.size : Int) - 1)) < (a0.size : Int) then (if (bt a0 (wrap64 ((a0.size : Int) - 1))) = 46 then (some false) else ((strings_Contains.f a0 (⟨#[46, 46]⟩ : ByteArray)).bind fun t120 => (if t120 = true then (some false) else ((attribute_begins.f k a0 (⟨#[97, 119, 115, 46]⟩ : ByteArray)).bind fun t121 => (if t121 = true then (some false) else ((attribute_begins.f k a0 (⟨#[97, 109, 97, 122, 111, 110, 46]⟩ : ByteArray)).bind fun t122 => (some (!t122)))))))) else (none)) else (none))) else (none)) else (some false))
set_option maxHeartbeats 8000000 in
set_option maxRecDepth 100000 in
theorem attribute_Name.calls (k : Nat) (a0 : ByteArray) (r : Bool) (w : World) (hGMax : GlobMax w) (h : attribute_Name.f k a0 = some r) :
    Calls Tryd.prog 12 #[.string a0] w fun e w' => e = .returned (.bool r) ∧ Drawn0 w w' := by
  have HGMax := Aside0.mk hGMax
  clear hGMax
  have H : ((attribute_all.f k a0 (⟨#[65, 66, 67, 68, 69, 70, 71, 72, 73, 74, 75, 76, 77, 78, 79, 80, 81, 82, 83, 84, 85, 86, 87, 88, 89, 90, 97, 98, 99, 100, 101, 102, 103, 104, 105, 106, 107, 108, 109, 110, 111, 112, 113, 114, 115, 116, 117, 118, 119, 120, 121, 122, 48, 49, 50, 51, 52, 53, 54, 55, 56, 57, 95, 45, 46]⟩ : ByteArray) 64).bind fun t119 => (if t119 = true then (if 0 < (a0.size : Int) then (if (bt a0 0) = 46 then (some false) else (if 0 ≤ (wrap64 ((a0.size : Int) - 1)) then (if (wrap64 ((a0.size : Int) - 1)) < (a0.size : Int) then (if (bt a0 (wrap64 ((a0.size : Int) - 1))) = 46 then (some false) else ((strings_Contains.f a0 (⟨#[46, 46]⟩ : ByteArray)).bind fun t120 => (if t120 = true then (some false) else ((attribute_begins.f k a0 (⟨#[97, 119, 115, 46]⟩ : ByteArray)).bind fun t121 => (if t121 = true then (some false) else ((attribute_begins.f k a0 (⟨#[97, 109, 97, 122, 111, 110, 46]⟩ : ByteArray)).bind fun t122 => (some (!t122)))))))) else (none)) else (none))) else (none)) else (some false))) = some r := h
  clear h
  replace H := Option.bind_eq_some_iff.mp H
  obtain ⟨t119, A20, H⟩ := H
  replace H : (if t119 = true then (if 0 < (a0.size : Int) then (if (bt a0 0) = 46 then (some false) else (if 0 ≤ (wrap64 ((a0.size : Int) - 1)) then (if (wrap64 ((a0.size : Int) - 1)) < (a0.size : Int) then (if (bt a0 (wrap64 ((a0.size : Int) - 1))) = 46 then (some false) else ((strings_Contains.f a0 (⟨#[46, 46]⟩ : ByteArray)).bind fun t120 => (if t120 = true then (some false) else ((attribute_begins.f k a0 (⟨#[97, 119, 115, 46]⟩ : ByteArray)).bind fun t121 => (if t121 = true then (some false) else ((attribute_begins.f k a0 (⟨#[97, 109, 97, 122, 111, 110, 46]⟩ : ByteArray)).bind fun t122 => (some (!t122)))))))) else (none)) else (none))) else (none)) else (some false)) = some r := H
  have A2 := Aside0.mk A20
  clear A20
  by_cases c3 : t119 = true
  · subst c3
    have H1 : (if 0 < (a0.size : Int) then (if (bt a0 0) = 46 then (some false) else (if 0 ≤ (wrap64 ((a0.size : Int) - 1)) then (if (wrap64 ((a0.size : Int) - 1)) < (a0.size : Int) then (if (bt a0 (wrap64 ((a0.size : Int) - 1))) = 46 then (some false) else ((strings_Contains.f a0 (⟨#[46, 46]⟩ : ByteArray)).bind fun t120 => (if t120 = true then (some false) else ((attribute_begins.f k a0 (⟨#[97, 119, 115, 46]⟩ : ByteArray)).bind fun t121 => (if t121 = true then (some false) else ((attribute_begins.f k a0 (⟨#[97, 109, 97, 122, 111, 110, 46]⟩ : ByteArray)).bind fun t122 => (some (!t122)))))))) else (none)) else (none))) else (none)) = some r := by rw [if_pos rfl] at H; exact H
    clear H
    have H := H1
    clear H1
    by_cases c4 : 0 < (a0.size : Int)
    · rw [if_pos c4] at H
      have c4b0 : decide (0 < (a0.size : Int)) = true := decide_eq_true c4
      have c4b1 : decide (0 < a0.size) = true := decide_eq_true (by omega)
      clear c4
      by_cases c6 : (bt a0 0) = 46
      · rw [if_pos c6] at H
        have c6b0 : ((bt a0 0) == 46) = true := beq_iff_eq.mpr c6
        have c6b1 : ((bt a0 0) != 46) = false := bne_eq_false_iff_eq.mpr c6
        clear c6
        obtain rfl := Option.some.inj H
        go_enter Tryd.func12, Tryd.ntmps12
        go_wp2_with (first | ((with_reducible refine gate_callee (f := 30) rfl ?_); refine goesL_ (some 4) rfl rfl Tryd.func30 (by kernel_rfl) rfl #[.string a0, .string (⟨#[65, 66, 67, 68, 69, 70, 71, 72, 73, 74, 75, 76, 77, 78, 79, 80, 81, 82, 83, 84, 85, 86, 87, 88, 89, 90, 97, 98, 99, 100, 101, 102, 103, 104, 105, 106, 107, 108, 109, 110, 111, 112, 113, 114, 115, 116, 117, 118, 119, 120, 121, 122, 48, 49, 50, 51, 52, 53, 54, 55, 56, 57, 95, 45, 46]⟩ : ByteArray), .int .i64 64] rfl (by (try simp only [List.map_toArray, List.map_cons, List.map_nil]); first | done | rfl | (simp only [List.length_drop, List.length_take]; rfl)) ?_; (with_reducible refine (attribute_all.calls k a0 (⟨#[65, 66, 67, 68, 69, 70, 71, 72, 73, 74, 75, 76, 77, 78, 79, 80, 81, 82, 83, 84, 85, 86, 87, 88, 89, 90, 97, 98, 99, 100, 101, 102, 103, 104, 105, 106, 107, 108, 109, 110, 111, 112, 113, 114, 115, 116, 117, 118, 119, 120, 121, 122, 48, 49, 50, 51, 52, 53, 54, 55, 56, 57, 95, 45, 46]⟩ : ByteArray) 64 true _ A2.out).mono ?_); rintro e w' ⟨rfl, ⟨nd, rfl⟩⟩; refine ⟨_, rfl, ?_⟩; have p5 : 0 ≤ (0 : Int) := (by omega); have q5 : 0 < a0.size := (by have : (0 : Int) < (a0.size : Int) := of_decide_eq_true (by first | (with_reducible assumption) | assumption); omega); have hx5 : ∀ h : 0 < a0.size, ((a0[0]'h).toNat : Int) = bt a0 0 := bt_at a0 0; clear p5; have qi5 : (0 < (a0.size : Int)) = True := eq_true (of_decide_eq_true (by first | (with_reducible assumption) | assumption)); replace q5 := eq_true q5))
        go_ret
        exact ⟨by first | rfl | (simp; done) | (simp; decide +kernel) | (simp [*]; done), by repeat (first | exact Drawn0.refl _ | apply Drawn0.step)⟩
      · rw [if_neg c6] at H
        have c6b0 : ((bt a0 0) == 46) = false := beq_eq_false_iff_ne.mpr c6
        have c6b1 : ((bt a0 0) != 46) = true := bne_iff_ne.mpr c6
        obtain ⟨ji7, hji7⟩ : ∃ j_ : Int, (wrap64 ((a0.size : Int) - 1)) = j_ := ⟨_, rfl⟩
        replace H : (if 0 ≤ (ji7) then (if (ji7) < (a0.size : Int) then (if (bt a0 (ji7)) = 46 then (some false) else ((strings_Contains.f a0 (⟨#[46, 46]⟩ : ByteArray)).bind fun t120 => (if t120 = true then (some false) else ((attribute_begins.f k a0 (⟨#[97, 119, 115, 46]⟩ : ByteArray)).bind fun t121 => (if t121 = true then (some false) else ((attribute_begins.f k a0 (⟨#[97, 109, 97, 122, 111, 110, 46]⟩ : ByteArray)).bind fun t122 => (some (!t122)))))))) else (none)) else (none)) = some r := by first | (rw [hji7] at H; exact H) | (simp only [hji7] at H ⊢; exact H)
        (try rw [hji7] at A2)
        have hji7w : (IntKind.i64.wrap ((a0.size : Int) - 1)) = ji7 := (i64_w _).trans hji7
        by_cases c8 : 0 ≤ (ji7)
        · rw [if_pos c8] at H
          have c8b0 : decide (0 ≤ (ji7)) = true := decide_eq_true c8
          clear c8
          by_cases c9 : (ji7) < (a0.size : Int)
          · rw [if_pos c9] at H
            have c9b0 : decide ((ji7) < (a0.size : Int)) = true := decide_eq_true c9
            clear c9
            by_cases c11 : (bt a0 (ji7)) = 46
            · rw [if_pos c11] at H
              have c11b0 : ((bt a0 (ji7)) == 46) = true := beq_iff_eq.mpr c11
              have c11b1 : ((bt a0 (ji7)) != 46) = false := bne_eq_false_iff_eq.mpr c11
              clear c11
              obtain rfl := Option.some.inj H
              go_enter Tryd.func12, Tryd.ntmps12
              go_wp2_with (first | ((with_reducible refine gate_callee (f := 30) rfl ?_); refine goesL_ (some 4) rfl rfl Tryd.func30 (by kernel_rfl) rfl #[.string a0, .string (⟨#[65, 66, 67, 68, 69, 70, 71, 72, 73, 74, 75, 76, 77, 78, 79, 80, 81, 82, 83, 84, 85, 86, 87, 88, 89, 90, 97, 98, 99, 100, 101, 102, 103, 104, 105, 106, 107, 108, 109, 110, 111, 112, 113, 114, 115, 116, 117, 118, 119, 120, 121, 122, 48, 49, 50, 51, 52, 53, 54, 55, 56, 57, 95, 45, 46]⟩ : ByteArray), .int .i64 64] rfl (by (try simp only [List.map_toArray, List.map_cons, List.map_nil]); first | done | rfl | (simp only [List.length_drop, List.length_take]; rfl)) ?_; (with_reducible refine (attribute_all.calls k a0 (⟨#[65, 66, 67, 68, 69, 70, 71, 72, 73, 74, 75, 76, 77, 78, 79, 80, 81, 82, 83, 84, 85, 86, 87, 88, 89, 90, 97, 98, 99, 100, 101, 102, 103, 104, 105, 106, 107, 108, 109, 110, 111, 112, 113, 114, 115, 116, 117, 118, 119, 120, 121, 122, 48, 49, 50, 51, 52, 53, 54, 55, 56, 57, 95, 45, 46]⟩ : ByteArray) 64 true _ A2.out).mono ?_); rintro e w' ⟨rfl, ⟨nd, rfl⟩⟩; refine ⟨_, rfl, ?_⟩; have p5 : 0 ≤ (0 : Int) := (by omega); have q5 : 0 < a0.size := (by have : (0 : Int) < (a0.size : Int) := of_decide_eq_true (by first | (with_reducible assumption) | assumption); omega); have hx5 : ∀ h : 0 < a0.size, ((a0[0]'h).toNat : Int) = bt a0 0 := bt_at a0 0; clear p5; have qi5 : (0 < (a0.size : Int)) = True := eq_true (of_decide_eq_true (by first | (with_reducible assumption) | assumption)); replace q5 := eq_true q5; have p10 : 0 ≤ ((ji7) : Int) := of_decide_eq_true (by first | (with_reducible assumption) | assumption); have q10 : (ji7) < (a0.size : Int) := of_decide_eq_true (by first | (with_reducible assumption) | assumption); have hx10 := bt_at a0 (ji7); replace p10 := eq_true p10; replace q10 := eq_true q10))
              go_ret
              exact ⟨by first | rfl | (simp; done) | (simp only [← hji7] <;> (first | rfl | simp)) | (simp [*]; done), by repeat (first | exact Drawn0.refl _ | apply Drawn0.step)⟩
            · rw [if_neg c11] at H
              have c11b0 : ((bt a0 (ji7)) == 46) = false := beq_eq_false_iff_ne.mpr c11
              have c11b1 : ((bt a0 (ji7)) != 46) = true := bne_iff_ne.mpr c11
              replace H := Option.bind_eq_some_iff.mp H
              obtain ⟨t120, A120, H⟩ := H
              replace H : (if t120 = true then (some false) else ((attribute_begins.f k a0 (⟨#[97, 119, 115, 46]⟩ : ByteArray)).bind fun t121 => (if t121 = true then (some false) else ((attribute_begins.f k a0 (⟨#[97, 109, 97, 122, 111, 110, 46]⟩ : ByteArray)).bind fun t122 => (some (!t122)))))) = some r := H
              have A12 := Aside0.mk A120
              clear A120
              by_cases c13 : t120 = true
              · subst c13
                have H1 : (some false) = some r := by rw [if_pos rfl] at H; exact H
                clear H
                have H := H1
                clear H1
                obtain rfl := Option.some.inj H
                go_enter Tryd.func12, Tryd.ntmps12
                go_wp2_with (first | ((with_reducible refine gate_callee (f := 30) rfl ?_); refine goesL_ (some 4) rfl rfl Tryd.func30 (by kernel_rfl) rfl #[.string a0, .string (⟨#[65, 66, 67, 68, 69, 70, 71, 72, 73, 74, 75, 76, 77, 78, 79, 80, 81, 82, 83, 84, 85, 86, 87, 88, 89, 90, 97, 98, 99, 100, 101, 102, 103, 104, 105, 106, 107, 108, 109, 110, 111, 112, 113, 114, 115, 116, 117, 118, 119, 120, 121, 122, 48, 49, 50, 51, 52, 53, 54, 55, 56, 57, 95, 45, 46]⟩ : ByteArray), .int .i64 64] rfl (by (try simp only [List.map_toArray, List.map_cons, List.map_nil]); first | done | rfl | (simp only [List.length_drop, List.length_take]; rfl)) ?_; (with_reducible refine (attribute_all.calls k a0 (⟨#[65, 66, 67, 68, 69, 70, 71, 72, 73, 74, 75, 76, 77, 78, 79, 80, 81, 82, 83, 84, 85, 86, 87, 88, 89, 90, 97, 98, 99, 100, 101, 102, 103, 104, 105, 106, 107, 108, 109, 110, 111, 112, 113, 114, 115, 116, 117, 118, 119, 120, 121, 122, 48, 49, 50, 51, 52, 53, 54, 55, 56, 57, 95, 45, 46]⟩ : ByteArray) 64 true _ A2.out).mono ?_); rintro e w' ⟨rfl, ⟨nd, rfl⟩⟩; refine ⟨_, rfl, ?_⟩; have p5 : 0 ≤ (0 : Int) := (by omega); have q5 : 0 < a0.size := (by have : (0 : Int) < (a0.size : Int) := of_decide_eq_true (by first | (with_reducible assumption) | assumption); omega); have hx5 : ∀ h : 0 < a0.size, ((a0[0]'h).toNat : Int) = bt a0 0 := bt_at a0 0; clear p5; have qi5 : (0 < (a0.size : Int)) = True := eq_true (of_decide_eq_true (by first | (with_reducible assumption) | assumption)); replace q5 := eq_true q5; have p10 : 0 ≤ ((ji7) : Int) := of_decide_eq_true (by first | (with_reducible assumption) | assumption); have q10 : (ji7) < (a0.size : Int) := of_decide_eq_true (by first | (with_reducible assumption) | assumption); have hx10 := bt_at a0 (ji7); replace p10 := eq_true p10; replace q10 := eq_true q10) | (go_at_call 32; (with_reducible refine (strings_Contains.calls a0 (⟨#[46, 46]⟩ : ByteArray) true _ ?side1 A12.out).mono ?_); (case side1 => first | exact HGMax.out | exact GlobMax.drawn HGMax.out (by repeat (first | exact Drawn0.refl _ | apply Drawn0.step))); rintro e w' ⟨rfl, ⟨nd, rfl⟩⟩))
                go_ret
                exact ⟨by first | rfl | (simp; done) | (simp only [← hji7] <;> (first | rfl | simp)) | (simp [*]; done), by repeat (first | exact Drawn0.refl _ | apply Drawn0.step)⟩
              · replace c13 := Bool.eq_false_iff.mpr c13
                subst c13
                have H1 : ((attribute_begins.f k a0 (⟨#[97, 119, 115, 46]⟩ : ByteArray)).bind fun t121 => (if t121 = true then (some false) else ((attribute_begins.f k a0 (⟨#[97, 109, 97, 122, 111, 110, 46]⟩ : ByteArray)).bind fun t122 => (some (!t122))))) = some r := by rw [if_neg (show ¬ (false = true) by decide)] at H; exact H
                clear H
                have H := H1
                clear H1
                replace H := Option.bind_eq_some_iff.mp H
                obtain ⟨t121, A140, H⟩ := H
                replace H : (if t121 = true then (some false) else ((attribute_begins.f k a0 (⟨#[97, 109, 97, 122, 111, 110, 46]⟩ : ByteArray)).bind fun t122 => (some (!t122)))) = some r := H
                have A14 := Aside0.mk A140
                clear A140
                by_cases c15 : t121 = true
                · subst c15
                  have H1 : (some false) = some r := by rw [if_pos rfl] at H; exact H
                  clear H
                  have H := H1
                  clear H1
                  obtain rfl := Option.some.inj H
                  go_enter Tryd.func12, Tryd.ntmps12
                  go_wp2_with (first | ((with_reducible refine gate_callee (f := 30) rfl ?_); refine goesL_ (some 4) rfl rfl Tryd.func30 (by kernel_rfl) rfl #[.string a0, .string (⟨#[65, 66, 67, 68, 69, 70, 71, 72, 73, 74, 75, 76, 77, 78, 79, 80, 81, 82, 83, 84, 85, 86, 87, 88, 89, 90, 97, 98, 99, 100, 101, 102, 103, 104, 105, 106, 107, 108, 109, 110, 111, 112, 113, 114, 115, 116, 117, 118, 119, 120, 121, 122, 48, 49, 50, 51, 52, 53, 54, 55, 56, 57, 95, 45, 46]⟩ : ByteArray), .int .i64 64] rfl (by (try simp only [List.map_toArray, List.map_cons, List.map_nil]); first | done | rfl | (simp only [List.length_drop, List.length_take]; rfl)) ?_; (with_reducible refine (attribute_all.calls k a0 (⟨#[65, 66, 67, 68, 69, 70, 71, 72, 73, 74, 75, 76, 77, 78, 79, 80, 81, 82, 83, 84, 85, 86, 87, 88, 89, 90, 97, 98, 99, 100, 101, 102, 103, 104, 105, 106, 107, 108, 109, 110, 111, 112, 113, 114, 115, 116, 117, 118, 119, 120, 121, 122, 48, 49, 50, 51, 52, 53, 54, 55, 56, 57, 95, 45, 46]⟩ : ByteArray) 64 true _ A2.out).mono ?_); rintro e w' ⟨rfl, ⟨nd, rfl⟩⟩; refine ⟨_, rfl, ?_⟩; have p5 : 0 ≤ (0 : Int) := (by omega); have q5 : 0 < a0.size := (by have : (0 : Int) < (a0.size : Int) := of_decide_eq_true (by first | (with_reducible assumption) | assumption); omega); have hx5 : ∀ h : 0 < a0.size, ((a0[0]'h).toNat : Int) = bt a0 0 := bt_at a0 0; clear p5; have qi5 : (0 < (a0.size : Int)) = True := eq_true (of_decide_eq_true (by first | (with_reducible assumption) | assumption)); replace q5 := eq_true q5; have p10 : 0 ≤ ((ji7) : Int) := of_decide_eq_true (by first | (with_reducible assumption) | assumption); have q10 : (ji7) < (a0.size : Int) := of_decide_eq_true (by first | (with_reducible assumption) | assumption); have hx10 := bt_at a0 (ji7); replace p10 := eq_true p10; replace q10 := eq_true q10) | (go_at_call 32; (with_reducible refine (strings_Contains.calls a0 (⟨#[46, 46]⟩ : ByteArray) false _ ?side1 A12.out).mono ?_); (case side1 => first | exact HGMax.out | exact GlobMax.drawn HGMax.out (by repeat (first | exact Drawn0.refl _ | apply Drawn0.step))); rintro e w' ⟨rfl, ⟨nd, rfl⟩⟩) | (go_at_call 33; (with_reducible refine (attribute_begins.calls k a0 (⟨#[97, 119, 115, 46]⟩ : ByteArray) true _ A14.out).mono ?_); rintro e w' ⟨rfl, ⟨nd, rfl⟩⟩))
                  go_ret
                  exact ⟨by first | rfl | (simp; done) | (simp only [← hji7] <;> (first | rfl | simp)) | (simp [*]; done), by repeat (first | exact Drawn0.refl _ | apply Drawn0.step)⟩
                · replace c15 := Bool.eq_false_iff.mpr c15
                  subst c15
                  have H1 : ((attribute_begins.f k a0 (⟨#[97, 109, 97, 122, 111, 110, 46]⟩ : ByteArray)).bind fun t122 => (some (!t122))) = some r := by rw [if_neg (show ¬ (false = true) by decide)] at H; exact H
                  clear H
                  have H := H1
                  clear H1
                  replace H := Option.bind_eq_some_iff.mp H
                  obtain ⟨t122, A160, H⟩ := H
                  replace H : (some (!t122)) = some r := H
                  have A16 := Aside0.mk A160
                  clear A160
                  obtain rfl := Option.some.inj H
                  go_enter Tryd.func12, Tryd.ntmps12
                  go_wp2_with (first | ((with_reducible refine gate_callee (f := 30) rfl ?_); refine goesL_ (some 4) rfl rfl Tryd.func30 (by kernel_rfl) rfl #[.string a0, .string (⟨#[65, 66, 67, 68, 69, 70, 71, 72, 73, 74, 75, 76, 77, 78, 79, 80, 81, 82, 83, 84, 85, 86, 87, 88, 89, 90, 97, 98, 99, 100, 101, 102, 103, 104, 105, 106, 107, 108, 109, 110, 111, 112, 113, 114, 115, 116, 117, 118, 119, 120, 121, 122, 48, 49, 50, 51, 52, 53, 54, 55, 56, 57, 95, 45, 46]⟩ : ByteArray), .int .i64 64] rfl (by (try simp only [List.map_toArray, List.map_cons, List.map_nil]); first | done | rfl | (simp only [List.length_drop, List.length_take]; rfl)) ?_; (with_reducible refine (attribute_all.calls k a0 (⟨#[65, 66, 67, 68, 69, 70, 71, 72, 73, 74, 75, 76, 77, 78, 79, 80, 81, 82, 83, 84, 85, 86, 87, 88, 89, 90, 97, 98, 99, 100, 101, 102, 103, 104, 105, 106, 107, 108, 109, 110, 111, 112, 113, 114, 115, 116, 117, 118, 119, 120, 121, 122, 48, 49, 50, 51, 52, 53, 54, 55, 56, 57, 95, 45, 46]⟩ : ByteArray) 64 true _ A2.out).mono ?_); rintro e w' ⟨rfl, ⟨nd, rfl⟩⟩; refine ⟨_, rfl, ?_⟩; have p5 : 0 ≤ (0 : Int) := (by omega); have q5 : 0 < a0.size := (by have : (0 : Int) < (a0.size : Int) := of_decide_eq_true (by first | (with_reducible assumption) | assumption); omega); have hx5 : ∀ h : 0 < a0.size, ((a0[0]'h).toNat : Int) = bt a0 0 := bt_at a0 0; clear p5; have qi5 : (0 < (a0.size : Int)) = True := eq_true (of_decide_eq_true (by first | (with_reducible assumption) | assumption)); replace q5 := eq_true q5; have p10 : 0 ≤ ((ji7) : Int) := of_decide_eq_true (by first | (with_reducible assumption) | assumption); have q10 : (ji7) < (a0.size : Int) := of_decide_eq_true (by first | (with_reducible assumption) | assumption); have hx10 := bt_at a0 (ji7); replace p10 := eq_true p10; replace q10 := eq_true q10) | (go_at_call 32; (with_reducible refine (strings_Contains.calls a0 (⟨#[46, 46]⟩ : ByteArray) false _ ?side1 A12.out).mono ?_); (case side1 => first | exact HGMax.out | exact GlobMax.drawn HGMax.out (by repeat (first | exact Drawn0.refl _ | apply Drawn0.step))); rintro e w' ⟨rfl, ⟨nd, rfl⟩⟩) | (go_at_call 33; (with_reducible refine (attribute_begins.calls k a0 (⟨#[97, 119, 115, 46]⟩ : ByteArray) false _ A14.out).mono ?_); rintro e w' ⟨rfl, ⟨nd, rfl⟩⟩) | (go_at_call 33; (with_reducible refine (attribute_begins.calls k a0 (⟨#[97, 109, 97, 122, 111, 110, 46]⟩ : ByteArray) t122 _ A16.out).mono ?_); rintro e w' ⟨rfl, ⟨nd, rfl⟩⟩))
                  go_ret
                  exact ⟨by first | rfl | (simp; done) | (simp only [← hji7] <;> (first | rfl | simp)) | (simp [*]; done), by repeat (first | exact Drawn0.refl _ | apply Drawn0.step)⟩
          · rw [if_neg c9] at H
            exact absurd H (by simp)
        · rw [if_neg c8] at H
          exact absurd H (by simp)
    · rw [if_neg c4] at H
      exact absurd H (by simp)
  · replace c3 := Bool.eq_false_iff.mpr c3
    subst c3
    have H1 : (some false) = some r := by rw [if_neg (show ¬ (false = true) by decide)] at H; exact H
    clear H
    have H := H1
    clear H1
    obtain rfl := Option.some.inj H
    go_enter Tryd.func12, Tryd.ntmps12
    go_wp2_with (first | ((with_reducible refine gate_callee (f := 30) rfl ?_); refine goesL_ (some 4) rfl rfl Tryd.func30 (by kernel_rfl) rfl #[.string a0, .string (⟨#[65, 66, 67, 68, 69, 70, 71, 72, 73, 74, 75, 76, 77, 78, 79, 80, 81, 82, 83, 84, 85, 86, 87, 88, 89, 90, 97, 98, 99, 100, 101, 102, 103, 104, 105, 106, 107, 108, 109, 110, 111, 112, 113, 114, 115, 116, 117, 118, 119, 120, 121, 122, 48, 49, 50, 51, 52, 53, 54, 55, 56, 57, 95, 45, 46]⟩ : ByteArray), .int .i64 64] rfl (by (try simp only [List.map_toArray, List.map_cons, List.map_nil]); first | done | rfl | (simp only [List.length_drop, List.length_take]; rfl)) ?_; (with_reducible refine (attribute_all.calls k a0 (⟨#[65, 66, 67, 68, 69, 70, 71, 72, 73, 74, 75, 76, 77, 78, 79, 80, 81, 82, 83, 84, 85, 86, 87, 88, 89, 90, 97, 98, 99, 100, 101, 102, 103, 104, 105, 106, 107, 108, 109, 110, 111, 112, 113, 114, 115, 116, 117, 118, 119, 120, 121, 122, 48, 49, 50, 51, 52, 53, 54, 55, 56, 57, 95, 45, 46]⟩ : ByteArray) 64 false _ A2.out).mono ?_); rintro e w' ⟨rfl, ⟨nd, rfl⟩⟩; refine ⟨_, rfl, ?_⟩))
    go_ret
    exact ⟨by first | rfl | (simp; done) | (simp; decide +kernel) | (simp [*]; done), by repeat (first | exact Drawn0.refl _ | apply Drawn0.step)⟩

def racewayref24_small.f (a0 : Int) : Option (Int) := if a0 ≥ 65 then (if a0 ≤ 90 then (some ((a0 + 32) % 256)) else (some a0)) else (some a0)
set_option maxHeartbeats 8000000 in
set_option maxRecDepth 100000 in
theorem racewayref24_small.calls (a0 : Int) (r : Int) (w : World) (h : racewayref24_small.f a0 = some r) :
    Calls Tryd.prog 61 #[.int .u8 a0] w fun e w' => e = .returned (.int .u8 r) ∧ Drawn0 w w' := by
  have H : (if a0 ≥ 65 then (if a0 ≤ 90 then (some ((a0 + 32) % 256)) else (some a0)) else (some a0)) = some r := h
  clear h
  by_cases c2 : a0 ≥ 65
  · rw [if_pos c2] at H
    have c2b0 : decide (65 ≤ a0) = true := decide_eq_true c2
    clear c2
    by_cases c3 : a0 ≤ 90
    · rw [if_pos c3] at H
      have c3b0 : decide (a0 ≤ 90) = true := decide_eq_true c3
      clear c3
      obtain rfl := Option.some.inj H
      go_enter Tryd.func61, Tryd.ntmps61
      go_wp2
      go_ret
      exact ⟨by first | rfl | (simp; done) | (simp; decide +kernel) | (simp [*]; done), by repeat (first | exact Drawn0.refl _ | apply Drawn0.step)⟩
    · rw [if_neg c3] at H
      have c3b0 : decide (a0 ≤ 90) = false := decide_eq_false c3
      clear c3
      obtain rfl := Option.some.inj H
      go_enter Tryd.func61, Tryd.ntmps61
      go_wp2
      go_ret
      exact ⟨by first | rfl | (simp; done) | (simp; decide +kernel) | (simp [*]; done), by repeat (first | exact Drawn0.refl _ | apply Drawn0.step)⟩
  · rw [if_neg c2] at H
    have c2b0 : decide (65 ≤ a0) = false := decide_eq_false c2
    clear c2
    obtain rfl := Option.some.inj H
    go_enter Tryd.func61, Tryd.ntmps61
    go_wp2
    go_ret
    exact ⟨by first | rfl | (simp; done) | (simp; decide +kernel) | (simp [*]; done), by repeat (first | exact Drawn0.refl _ | apply Drawn0.step)⟩

def racewayref24_begins.l0 : Nat → ByteArray → ByteArray → Int → Option (Bool)
  | 0, _, _, _ => none
  | k + 1, x0, x1, x5 => if x5 < (x1.size : Int) then (if 0 ≤ x5 then (if x5 < (x0.size : Int) then ((racewayref24_small.f (bt x0 x5)).bind fun t123 => (if t123 = (bt x1 x5) then (racewayref24_begins.l0 k x0 x1 (wrap64 (x5 + 1))) else (some false))) else (none)) else (none)) else (some true)
def racewayref24_begins.f (k : Nat) (a0 : ByteArray) (a1 : ByteArray) : Option (Bool) := if (a0.size : Int) < (a1.size : Int) then (some false) else (racewayref24_begins.l0 k a0 a1 0)
set_option maxHeartbeats 8000000 in
set_option maxRecDepth 100000 in
theorem racewayref24_begins.calls (k : Nat) (a0 : ByteArray) (a1 : ByteArray) (r : Bool) (w : World) (h : racewayref24_begins.f k a0 a1 = some r) :
    Calls Tryd.prog 34 #[.string a0, .string a1] w fun e w' => e = .returned (.bool r) ∧ Drawn0 w w' := by
  have H : (if (a0.size : Int) < (a1.size : Int) then (some false) else (racewayref24_begins.l0 k a0 a1 0)) = some r := h
  clear h
  by_cases c3 : (a0.size : Int) < (a1.size : Int)
  · rw [if_pos c3] at H
    have c3b0 : decide ((a0.size : Int) < (a1.size : Int)) = true := decide_eq_true c3
    have c3b1 : decide (a0.size < a1.size) = true := decide_eq_true (Int.ofNat_lt.mp c3)
    clear c3
    obtain rfl := Option.some.inj H
    go_enter Tryd.func34, Tryd.ntmps34
    go_wp2
    repeat (go_quiet (fail); try go_wp2)
    go_ret
    exact ⟨by first | rfl | (simp; done) | (simp; decide +kernel) | (simp [*]; done), by repeat (first | exact Drawn0.refl _ | apply Drawn0.step)⟩
  · rw [if_neg c3] at H
    have c3b0 : decide ((a0.size : Int) < (a1.size : Int)) = false := decide_eq_false c3
    have c3b1 : decide (a0.size < a1.size) = false := decide_eq_false (fun h => c3 (Int.ofNat_lt.mpr h))
    clear c3
    have H' := Aside0.mk H
    clear H
    go_enter Tryd.func34, Tryd.ntmps34
    go_wp2
    repeat (go_quiet (fail); try go_wp2)
    go_loopg [5] k (fun kq v5 w' => ∃ (x5_1 : Int), v5 = .int .i64 x5_1 ∧ Aside0 (racewayref24_begins.l0 kq a0 a1 x5_1 = some r) ∧ Aside0 (kq ≤ k) ∧ Drawn0 w w')
    case atStart => exact ⟨(0), (by first | rfl | (simp; done) | (simp; decide +kernel) | (simp [*]; done)), (by first | exact H' | (subst_vars; exact H')), ⟨Nat.le_refl _⟩, by repeat (first | exact Drawn0.refl _ | apply Drawn0.step)⟩
    case round =>
      clear H'
      try clear p2
      try clear c3
      try clear c3b0
      try clear c3b1
      obtain ⟨x5_1, rfl, HA, HK1, ⟨m1, rfl⟩⟩ := hrel
      cases gk with
      | zero => exact absurd HA.out (by simp [racewayref24_begins.l0])
      | succ k1 =>
        have H := HA.out
        clear HA
        simp only [racewayref24_begins.l0] at H
        by_cases c4 : x5_1 < (a1.size : Int)
        · rw [if_pos c4] at H
          have c4b0 : decide (x5_1 < (a1.size : Int)) = true := decide_eq_true c4
          clear c4
          by_cases c5 : 0 ≤ x5_1
          · rw [if_pos c5] at H
            have c5b0 : decide (0 ≤ x5_1) = true := decide_eq_true c5
            clear c5
            by_cases c6 : x5_1 < (a0.size : Int)
            · rw [if_pos c6] at H
              have c6b0 : decide (x5_1 < (a0.size : Int)) = true := decide_eq_true c6
              clear c6
              replace H := Option.bind_eq_some_iff.mp H
              obtain ⟨t123, A80, H⟩ := H
              replace H : (if t123 = (bt a1 x5_1) then (racewayref24_begins.l0 k1 a0 a1 (wrap64 (x5_1 + 1))) else (some false)) = some r := H
              have A8 := Aside0.mk A80
              clear A80
              by_cases c10 : t123 = (bt a1 x5_1)
              · rw [if_pos c10] at H
                have c10b0 : (t123 == (bt a1 x5_1)) = true := beq_iff_eq.mpr c10
                have c10b1 : (t123 != (bt a1 x5_1)) = false := bne_eq_false_iff_eq.mpr c10
                clear c10
                have H' := Aside0.mk H
                clear H
                have p7 : 0 ≤ (x5_1 : Int) := of_decide_eq_true (by first | (with_reducible assumption) | assumption)
                have q7 : x5_1 < (a0.size : Int) := of_decide_eq_true (by first | (with_reducible assumption) | assumption)
                have hx7 := bt_at a0 x5_1
                replace p7 := eq_true p7
                replace q7 := eq_true q7
                go_wp2_with (first | (go_at_call 61; (with_reducible refine (racewayref24_small.calls (bt a0 x5_1) t123 _ A8.out).mono ?_); rintro e w' ⟨rfl, ⟨nd, rfl⟩⟩; (try first | exact ⟨rfl, _, World.drewN_drewN _ _ _⟩ | exact ⟨rfl, _, Eq.trans (World.drewN_drewN _ _ _) (congrArg (World.drewN _) (Nat.add_assoc _ _ _))⟩); have p9 : 0 ≤ (x5_1 : Int) := of_decide_eq_true (by first | (with_reducible assumption) | assumption); have q9 : x5_1 < (a1.size : Int) := of_decide_eq_true (by first | (with_reducible assumption) | assumption); have hx9 := bt_at a1 x5_1; replace p9 := eq_true p9; replace q9 := eq_true q9))
                repeat (go_quiet (first | (go_at_call 61; (with_reducible refine (racewayref24_small.calls (bt a0 x5_1) t123 _ A8.out).mono ?_); rintro e w' ⟨rfl, ⟨nd, rfl⟩⟩; (try first | exact ⟨rfl, _, World.drewN_drewN _ _ _⟩ | exact ⟨rfl, _, Eq.trans (World.drewN_drewN _ _ _) (congrArg (World.drewN _) (Nat.add_assoc _ _ _))⟩); have p9 : 0 ≤ (x5_1 : Int) := of_decide_eq_true (by first | (with_reducible assumption) | assumption); have q9 : x5_1 < (a1.size : Int) := of_decide_eq_true (by first | (with_reducible assumption) | assumption); have hx9 := bt_at a1 x5_1; replace p9 := eq_true p9; replace q9 := eq_true q9)); try go_wp2_with (first | (go_at_call 61; (with_reducible refine (racewayref24_small.calls (bt a0 x5_1) t123 _ A8.out).mono ?_); rintro e w' ⟨rfl, ⟨nd, rfl⟩⟩; (try first | exact ⟨rfl, _, World.drewN_drewN _ _ _⟩ | exact ⟨rfl, _, Eq.trans (World.drewN_drewN _ _ _) (congrArg (World.drewN _) (Nat.add_assoc _ _ _))⟩); have p9 : 0 ≤ (x5_1 : Int) := of_decide_eq_true (by first | (with_reducible assumption) | assumption); have q9 : x5_1 < (a1.size : Int) := of_decide_eq_true (by first | (with_reducible assumption) | assumption); have hx9 := bt_at a1 x5_1; replace p9 := eq_true p9; replace q9 := eq_true q9)))
                go_roundg k1
                case measure => have := HK1.out; omega
                case rel => exact ⟨(wrap64 (x5_1 + 1)), (by first | rfl | (simp; done) | (simp; decide +kernel) | (simp [*]; done)), (by first | exact H' | (subst_vars; exact H')), ⟨by have := HK1.out; omega⟩, by repeat (first | exact Drawn0.refl _ | apply Drawn0.step)⟩
              · rw [if_neg c10] at H
                have c10b0 : (t123 == (bt a1 x5_1)) = false := beq_eq_false_iff_ne.mpr c10
                have c10b1 : (t123 != (bt a1 x5_1)) = true := bne_iff_ne.mpr c10
                obtain rfl := Option.some.inj H
                have p7 : 0 ≤ (x5_1 : Int) := of_decide_eq_true (by first | (with_reducible assumption) | assumption)
                have q7 : x5_1 < (a0.size : Int) := of_decide_eq_true (by first | (with_reducible assumption) | assumption)
                have hx7 := bt_at a0 x5_1
                replace p7 := eq_true p7
                replace q7 := eq_true q7
                go_wp2_with (first | (go_at_call 61; (with_reducible refine (racewayref24_small.calls (bt a0 x5_1) t123 _ A8.out).mono ?_); rintro e w' ⟨rfl, ⟨nd, rfl⟩⟩; (try first | exact ⟨rfl, _, World.drewN_drewN _ _ _⟩ | exact ⟨rfl, _, Eq.trans (World.drewN_drewN _ _ _) (congrArg (World.drewN _) (Nat.add_assoc _ _ _))⟩); have p9 : 0 ≤ (x5_1 : Int) := of_decide_eq_true (by first | (with_reducible assumption) | assumption); have q9 : x5_1 < (a1.size : Int) := of_decide_eq_true (by first | (with_reducible assumption) | assumption); have hx9 := bt_at a1 x5_1; replace p9 := eq_true p9; replace q9 := eq_true q9))
                repeat (go_quiet (first | (go_at_call 61; (with_reducible refine (racewayref24_small.calls (bt a0 x5_1) t123 _ A8.out).mono ?_); rintro e w' ⟨rfl, ⟨nd, rfl⟩⟩; (try first | exact ⟨rfl, _, World.drewN_drewN _ _ _⟩ | exact ⟨rfl, _, Eq.trans (World.drewN_drewN _ _ _) (congrArg (World.drewN _) (Nat.add_assoc _ _ _))⟩); have p9 : 0 ≤ (x5_1 : Int) := of_decide_eq_true (by first | (with_reducible assumption) | assumption); have q9 : x5_1 < (a1.size : Int) := of_decide_eq_true (by first | (with_reducible assumption) | assumption); have hx9 := bt_at a1 x5_1; replace p9 := eq_true p9; replace q9 := eq_true q9)); try go_wp2_with (first | (go_at_call 61; (with_reducible refine (racewayref24_small.calls (bt a0 x5_1) t123 _ A8.out).mono ?_); rintro e w' ⟨rfl, ⟨nd, rfl⟩⟩; (try first | exact ⟨rfl, _, World.drewN_drewN _ _ _⟩ | exact ⟨rfl, _, Eq.trans (World.drewN_drewN _ _ _) (congrArg (World.drewN _) (Nat.add_assoc _ _ _))⟩); have p9 : 0 ≤ (x5_1 : Int) := of_decide_eq_true (by first | (with_reducible assumption) | assumption); have q9 : x5_1 < (a1.size : Int) := of_decide_eq_true (by first | (with_reducible assumption) | assumption); have hx9 := bt_at a1 x5_1; replace p9 := eq_true p9; replace q9 := eq_true q9)))
                go_ret
                exact ⟨by first | rfl | (simp; done) | (simp; decide +kernel) | (simp [*]; done), by repeat (first | exact Drawn0.refl _ | apply Drawn0.step)⟩
            · rw [if_neg c6] at H
              exact absurd H (by simp)
          · rw [if_neg c5] at H
            exact absurd H (by simp)
        · rw [if_neg c4] at H
          have c4b0 : decide (x5_1 < (a1.size : Int)) = false := decide_eq_false c4
          clear c4
          obtain rfl := Option.some.inj H
          go_wp2
          repeat (go_quiet (fail); try go_wp2)
          go_ret
          exact ⟨by first | rfl | (simp; done) | (simp; decide +kernel) | (simp [*]; done), by repeat (first | exact Drawn0.refl _ | apply Drawn0.step)⟩

mutual
def racewayref24_Name.j0 : Nat → ByteArray → Bool → Option (Bool)
  | 0, _, _ => none
  | k + 1, x0, x32 => if x32 = true then (some false) else (racewayref24_Name.l0 k x0 0)
def racewayref24_Name.l0 : Nat → ByteArray → Int → Option (Bool)
  | 0, _, _ => none
  | k + 1, x0, x3 => if x3 < (x0.size : Int) then (if 0 ≤ x3 then ((racewayref24_letter.f (bt x0 x3)).bind fun t126 => (if t126 = true then (if x3 > 0 then (if (bt x0 x3) = 46 then (if 0 ≤ (wrap64 (x3 - 1)) then (if (wrap64 (x3 - 1)) < (x0.size : Int) then (if (bt x0 (wrap64 (x3 - 1))) = 46 then (some false) else (racewayref24_Name.l0 k x0 (wrap64 (x3 + 1)))) else (none)) else (none)) else (racewayref24_Name.l0 k x0 (wrap64 (x3 + 1)))) else (racewayref24_Name.l0 k x0 (wrap64 (x3 + 1)))) else (some false))) else (none)) else (some true)
end
def racewayref24_Name.f (k : Nat) (a0 : ByteArray) : Option (Bool) := if (a0.size : Int) = 0 then (racewayref24_Name.j0 k a0 true) else (if (a0.size : Int) > 64 then (racewayref24_Name.j0 k a0 true) else (if 0 < (a0.size : Int) then (if (bt a0 0) = 46 then (racewayref24_Name.j0 k a0 true) else (if 0 ≤ (wrap64 ((a0.size : Int) - 1)) then (if (wrap64 ((a0.size : Int) - 1)) < (a0.size : Int) then (if (bt a0 (wrap64 ((a0.size : Int) - 1))) = 46 then (racewayref24_Name.j0 k a0 true) else ((racewayref24_begins.f k a0 (⟨#[97, 119, 115, 46]⟩ : ByteArray)).bind fun t124 => (if t124 = true then (racewayref24_Name.j0 k a0 true) else ((racewayref24_begins.f k a0 (⟨#[97, 109, 97, 122, 111, 110, 46]⟩ : ByteArray)).bind fun t125 => (racewayref24_Name.j0 k a0 t125))))) else (none)) else (none))) else (none)))
set_option maxHeartbeats 8000000 in
set_option maxRecDepth 100000 in
theorem racewayref24_Name.calls (k : Nat) (a0 : ByteArray) (r : Bool) (w : World) (h : racewayref24_Name.f k a0 = some r) :
    Calls Tryd.prog 13 #[.string a0] w fun e w' => e = .returned (.bool r) ∧ Drawn0 w w' := by
  have H : (if (a0.size : Int) = 0 then (racewayref24_Name.j0 k a0 true) else (if (a0.size : Int) > 64 then (racewayref24_Name.j0 k a0 true) else (if 0 < (a0.size : Int) then (if (bt a0 0) = 46 then (racewayref24_Name.j0 k a0 true) else (if 0 ≤ (wrap64 ((a0.size : Int) - 1)) then (if (wrap64 ((a0.size : Int) - 1)) < (a0.size : Int) then (if (bt a0 (wrap64 ((a0.size : Int) - 1))) = 46 then (racewayref24_Name.j0 k a0 true) else ((racewayref24_begins.f k a0 (⟨#[97, 119, 115, 46]⟩ : ByteArray)).bind fun t124 => (if t124 = true then (racewayref24_Name.j0 k a0 true) else ((racewayref24_begins.f k a0 (⟨#[97, 109, 97, 122, 111, 110, 46]⟩ : ByteArray)).bind fun t125 => (racewayref24_Name.j0 k a0 t125))))) else (none)) else (none))) else (none)))) = some r := h
  clear h
  have HC2 := Aside0.mk H
  clear H
  go_enter Tryd.func13, Tryd.ntmps13
  go_upto_region 1 with (fail)
  go_cut [32] (fun v32 wc => ∃ (kq : Nat) (x32_1 : Bool), v32 = .bool x32_1 ∧ Aside0 (racewayref24_Name.j0 kq a0 x32_1 = some r) ∧ Aside0 (kq ≤ k) ∧ Drawn0 w wc)
  case first =>
    have H := HC2.out
    clear HC2
    by_cases c3 : (a0.size : Int) = 0
    · rw [if_pos c3] at H
      have c3b0 : ((a0.size : Int) == 0) = true := beq_iff_eq.mpr c3
      have c3b1 : ((a0.size : Int) != 0) = false := bne_eq_false_iff_eq.mpr c3
      clear c3
      (first | rw [c3b0] | (simp only [i64_w, i32_w]; rw [c3b0]) | skip)
      have H' := Aside0.mk H
      clear H
      go_wp2
      go_meet
      case rel => exact ⟨_, (true), (by first | rfl | (simp; done) | (simp; decide +kernel) | (simp [*]; done)), (by first | exact H' | (subst_vars; exact H')), ⟨by first | omega | exact Nat.le_refl _⟩, by repeat (first | exact Drawn0.refl _ | apply Drawn0.step)⟩
    · rw [if_neg c3] at H
      have c3b0 : ((a0.size : Int) == 0) = false := beq_eq_false_iff_ne.mpr c3
      have c3b1 : ((a0.size : Int) != 0) = true := bne_iff_ne.mpr c3
      (first | rw [c3b0] | (simp only [i64_w, i32_w]; rw [c3b0]) | skip)
      by_cases c4 : (a0.size : Int) > 64
      · rw [if_pos c4] at H
        have c4b0 : decide (64 < (a0.size : Int)) = true := decide_eq_true c4
        have c4b1 : decide (64 < a0.size) = true := decide_eq_true (by omega)
        clear c4
        have H' := Aside0.mk H
        clear H
        go_wp2
        go_meet
        case rel => exact ⟨_, (true), (by first | rfl | (simp; done) | (simp; decide +kernel) | (simp [*]; done)), (by first | exact H' | (subst_vars; exact H')), ⟨by first | omega | exact Nat.le_refl _⟩, by repeat (first | exact Drawn0.refl _ | apply Drawn0.step)⟩
      · rw [if_neg c4] at H
        have c4b0 : decide (64 < (a0.size : Int)) = false := decide_eq_false c4
        have c4b1 : decide (64 < a0.size) = false := decide_eq_false (by omega)
        clear c4
        by_cases c5 : 0 < (a0.size : Int)
        · rw [if_pos c5] at H
          have c5b0 : decide (0 < (a0.size : Int)) = true := decide_eq_true c5
          have c5b1 : decide (0 < a0.size) = true := decide_eq_true (by omega)
          clear c5
          by_cases c7 : (bt a0 0) = 46
          · rw [if_pos c7] at H
            have c7b0 : ((bt a0 0) == 46) = true := beq_iff_eq.mpr c7
            have c7b1 : ((bt a0 0) != 46) = false := bne_eq_false_iff_eq.mpr c7
            clear c7
            have H' := Aside0.mk H
            clear H
            have p6 : 0 ≤ (0 : Int) := (by omega)
            have q6 : 0 < a0.size := (by have : (0 : Int) < (a0.size : Int) := of_decide_eq_true (by first | (with_reducible assumption) | assumption); omega)
            have hx6 : ∀ h : 0 < a0.size, ((a0[0]'h).toNat : Int) = bt a0 0 := bt_at a0 0
            clear p6
            have qi6 : (0 < (a0.size : Int)) = True := eq_true (of_decide_eq_true (by first | (with_reducible assumption) | assumption))
            replace q6 := eq_true q6
            go_wp2
            go_meet
            case rel => exact ⟨_, (true), (by first | rfl | (simp; done) | (simp; decide +kernel) | (simp [*]; done)), (by first | exact H' | (subst_vars; exact H')), ⟨by first | omega | exact Nat.le_refl _⟩, by repeat (first | exact Drawn0.refl _ | apply Drawn0.step)⟩
          · rw [if_neg c7] at H
            have c7b0 : ((bt a0 0) == 46) = false := beq_eq_false_iff_ne.mpr c7
            have c7b1 : ((bt a0 0) != 46) = true := bne_iff_ne.mpr c7
            obtain ⟨ji8, hji8⟩ : ∃ j_ : Int, (wrap64 ((a0.size : Int) - 1)) = j_ := ⟨_, rfl⟩
            replace H : (if 0 ≤ (ji8) then (if (ji8) < (a0.size : Int) then (if (bt a0 (ji8)) = 46 then (racewayref24_Name.j0 k a0 true) else ((racewayref24_begins.f k a0 (⟨#[97, 119, 115, 46]⟩ : ByteArray)).bind fun t124 => (if t124 = true then (racewayref24_Name.j0 k a0 true) else ((racewayref24_begins.f k a0 (⟨#[97, 109, 97, 122, 111, 110, 46]⟩ : ByteArray)).bind fun t125 => (racewayref24_Name.j0 k a0 t125))))) else (none)) else (none)) = some r := by first | (rw [hji8] at H; exact H) | (simp only [hji8] at H ⊢; exact H)
            have hji8w : (IntKind.i64.wrap ((a0.size : Int) - 1)) = ji8 := (i64_w _).trans hji8
            by_cases c9 : 0 ≤ (ji8)
            · rw [if_pos c9] at H
              have c9b0 : decide (0 ≤ (ji8)) = true := decide_eq_true c9
              clear c9
              by_cases c10 : (ji8) < (a0.size : Int)
              · rw [if_pos c10] at H
                have c10b0 : decide ((ji8) < (a0.size : Int)) = true := decide_eq_true c10
                clear c10
                by_cases c12 : (bt a0 (ji8)) = 46
                · rw [if_pos c12] at H
                  have c12b0 : ((bt a0 (ji8)) == 46) = true := beq_iff_eq.mpr c12
                  have c12b1 : ((bt a0 (ji8)) != 46) = false := bne_eq_false_iff_eq.mpr c12
                  clear c12
                  have H' := Aside0.mk H
                  clear H
                  have p6 : 0 ≤ (0 : Int) := (by omega)
                  have q6 : 0 < a0.size := (by have : (0 : Int) < (a0.size : Int) := of_decide_eq_true (by first | (with_reducible assumption) | assumption); omega)
                  have hx6 : ∀ h : 0 < a0.size, ((a0[0]'h).toNat : Int) = bt a0 0 := bt_at a0 0
                  clear p6
                  have qi6 : (0 < (a0.size : Int)) = True := eq_true (of_decide_eq_true (by first | (with_reducible assumption) | assumption))
                  replace q6 := eq_true q6
                  have p11 : 0 ≤ ((ji8) : Int) := of_decide_eq_true (by first | (with_reducible assumption) | assumption)
                  have q11 : (ji8) < (a0.size : Int) := of_decide_eq_true (by first | (with_reducible assumption) | assumption)
                  have hx11 := bt_at a0 (ji8)
                  replace p11 := eq_true p11
                  replace q11 := eq_true q11
                  go_wp2
                  go_meet
                  case rel => exact ⟨_, (true), (by first | rfl | (simp; done) | (simp; decide +kernel) | (simp [*]; done)), (by first | exact H' | (subst_vars; exact H')), ⟨by first | omega | exact Nat.le_refl _⟩, by repeat (first | exact Drawn0.refl _ | apply Drawn0.step)⟩
                · rw [if_neg c12] at H
                  have c12b0 : ((bt a0 (ji8)) == 46) = false := beq_eq_false_iff_ne.mpr c12
                  have c12b1 : ((bt a0 (ji8)) != 46) = true := bne_iff_ne.mpr c12
                  replace H := Option.bind_eq_some_iff.mp H
                  obtain ⟨t124, A130, H⟩ := H
                  replace H : (if t124 = true then (racewayref24_Name.j0 k a0 true) else ((racewayref24_begins.f k a0 (⟨#[97, 109, 97, 122, 111, 110, 46]⟩ : ByteArray)).bind fun t125 => (racewayref24_Name.j0 k a0 t125))) = some r := H
                  have A13 := Aside0.mk A130
                  clear A130
                  by_cases c14 : t124 = true
                  · subst c14
                    have H1 : (racewayref24_Name.j0 k a0 true) = some r := by rw [if_pos rfl] at H; exact H
                    clear H
                    have H := H1
                    clear H1
                    have H' := Aside0.mk H
                    clear H
                    have p6 : 0 ≤ (0 : Int) := (by omega)
                    have q6 : 0 < a0.size := (by have : (0 : Int) < (a0.size : Int) := of_decide_eq_true (by first | (with_reducible assumption) | assumption); omega)
                    have hx6 : ∀ h : 0 < a0.size, ((a0[0]'h).toNat : Int) = bt a0 0 := bt_at a0 0
                    clear p6
                    have qi6 : (0 < (a0.size : Int)) = True := eq_true (of_decide_eq_true (by first | (with_reducible assumption) | assumption))
                    replace q6 := eq_true q6
                    have p11 : 0 ≤ ((ji8) : Int) := of_decide_eq_true (by first | (with_reducible assumption) | assumption)
                    have q11 : (ji8) < (a0.size : Int) := of_decide_eq_true (by first | (with_reducible assumption) | assumption)
                    have hx11 := bt_at a0 (ji8)
                    replace p11 := eq_true p11
                    replace q11 := eq_true q11
                    go_wp2_with (first | (go_at_call 34; (with_reducible refine (racewayref24_begins.calls k a0 (⟨#[97, 119, 115, 46]⟩ : ByteArray) true _ A13.out).mono ?_); rintro e w' ⟨rfl, ⟨nd, rfl⟩⟩))
                    go_meet
                    case rel => exact ⟨_, (true), (by first | rfl | (simp; done) | (simp; decide +kernel) | (simp [*]; done)), (by first | exact H' | (subst_vars; exact H')), ⟨by first | omega | exact Nat.le_refl _⟩, by repeat (first | exact Drawn0.refl _ | apply Drawn0.step)⟩
                  · replace c14 := Bool.eq_false_iff.mpr c14
                    subst c14
                    have H1 : ((racewayref24_begins.f k a0 (⟨#[97, 109, 97, 122, 111, 110, 46]⟩ : ByteArray)).bind fun t125 => (racewayref24_Name.j0 k a0 t125)) = some r := by rw [if_neg (show ¬ (false = true) by decide)] at H; exact H
                    clear H
                    have H := H1
                    clear H1
                    replace H := Option.bind_eq_some_iff.mp H
                    obtain ⟨t125, A150, H⟩ := H
                    replace H : (racewayref24_Name.j0 k a0 t125) = some r := H
                    have A15 := Aside0.mk A150
                    clear A150
                    have H' := Aside0.mk H
                    clear H
                    have p6 : 0 ≤ (0 : Int) := (by omega)
                    have q6 : 0 < a0.size := (by have : (0 : Int) < (a0.size : Int) := of_decide_eq_true (by first | (with_reducible assumption) | assumption); omega)
                    have hx6 : ∀ h : 0 < a0.size, ((a0[0]'h).toNat : Int) = bt a0 0 := bt_at a0 0
                    clear p6
                    have qi6 : (0 < (a0.size : Int)) = True := eq_true (of_decide_eq_true (by first | (with_reducible assumption) | assumption))
                    replace q6 := eq_true q6
                    have p11 : 0 ≤ ((ji8) : Int) := of_decide_eq_true (by first | (with_reducible assumption) | assumption)
                    have q11 : (ji8) < (a0.size : Int) := of_decide_eq_true (by first | (with_reducible assumption) | assumption)
                    have hx11 := bt_at a0 (ji8)
                    replace p11 := eq_true p11
                    replace q11 := eq_true q11
                    go_wp2_with (first | (go_at_call 34; (with_reducible refine (racewayref24_begins.calls k a0 (⟨#[97, 119, 115, 46]⟩ : ByteArray) false _ A13.out).mono ?_); rintro e w' ⟨rfl, ⟨nd, rfl⟩⟩) | (go_at_call 34; (with_reducible refine (racewayref24_begins.calls k a0 (⟨#[97, 109, 97, 122, 111, 110, 46]⟩ : ByteArray) t125 _ A15.out).mono ?_); rintro e w' ⟨rfl, ⟨nd, rfl⟩⟩))
                    go_meet
                    case rel => exact ⟨_, (t125), (by first | rfl | (simp; done) | (simp; decide +kernel) | (simp [*]; done)), (by first | exact H' | (subst_vars; exact H')), ⟨by first | omega | exact Nat.le_refl _⟩, by repeat (first | exact Drawn0.refl _ | apply Drawn0.step)⟩
              · rw [if_neg c10] at H
                exact absurd H (by simp)
            · rw [if_neg c9] at H
              exact absurd H (by simp)
        · rw [if_neg c5] at H
          exact absurd H (by simp)
  case rest =>
    clear HC2
    try clear c1
    try clear p1
    try clear q1
    try clear hx1
    try clear p2
    try clear c3
    try clear c3b0
    try clear c3b1
    try clear c4
    try clear c4b0
    try clear c4b1
    try clear c5
    try clear c5b0
    try clear c5b1
    try clear p6
    try clear q6
    try clear hx6
    try clear qi6
    try clear c7
    try clear c7b0
    try clear c7b1
    try clear c9
    try clear c9b0
    try clear c10
    try clear c10b0
    try clear p11
    try clear q11
    try clear hx11
    try clear c12
    try clear c12b0
    try clear c12b1
    try clear c13
    try clear c14
    try clear p11
    try clear p6
    try clear q11
    try clear q6
    obtain ⟨kq, x32_1, rfl, HA, HJ1, ⟨mc1, rfl⟩⟩ := hcut
    cases kq with
    | zero => exact absurd HA.out (by simp [racewayref24_Name.j0])
    | succ kj1 =>
      have H := HA.out
      clear HA
      simp only [racewayref24_Name.j0] at H
      by_cases c16 : x32_1 = true
      · subst c16
        have H1 : (some false) = some r := by rw [if_pos rfl] at H; exact H
        clear H
        have H := H1
        clear H1
        obtain rfl := Option.some.inj H
        go_wp2
        go_ret
        exact ⟨by first | rfl | (simp; done) | (simp; decide +kernel) | (simp [*]; done), by repeat (first | exact Drawn0.refl _ | apply Drawn0.step)⟩
      · replace c16 := Bool.eq_false_iff.mpr c16
        subst c16
        have H1 : (racewayref24_Name.l0 kj1 a0 0) = some r := by rw [if_neg (show ¬ (false = true) by decide)] at H; exact H
        clear H
        have H := H1
        clear H1
        have H' := Aside0.mk H
        clear H
        go_wp2
        go_loopg [3] kj1 (fun kq v3 w' => ∃ (x3_2 : Int), v3 = .int .i64 x3_2 ∧ Aside0 (racewayref24_Name.l0 kq a0 x3_2 = some r) ∧ Aside0 (kq ≤ kj1) ∧ Drawn0 w w')
        case atStart => exact ⟨(0), (by first | rfl | (simp; done) | (simp; decide +kernel) | (simp [*]; done)), (by first | exact H' | (subst_vars; exact H')), ⟨Nat.le_refl _⟩, by repeat (first | exact Drawn0.refl _ | apply Drawn0.step)⟩
        case round =>
          clear H'
          try clear c1
          try clear p1
          try clear q1
          try clear hx1
          try clear p2
          try clear c3
          try clear c3b0
          try clear c3b1
          try clear c4
          try clear c4b0
          try clear c4b1
          try clear c5
          try clear c5b0
          try clear c5b1
          try clear p6
          try clear q6
          try clear hx6
          try clear qi6
          try clear c7
          try clear c7b0
          try clear c7b1
          try clear c9
          try clear c9b0
          try clear c10
          try clear c10b0
          try clear p11
          try clear q11
          try clear hx11
          try clear c12
          try clear c12b0
          try clear c12b1
          try clear c13
          try clear c14
          try clear c16
          try clear p1
          try clear p11
          try clear p2
          try clear p6
          try clear q1
          try clear q11
          try clear q6
          obtain ⟨x3_2, rfl, HA, HK2, ⟨m2, rfl⟩⟩ := hrel
          cases gk with
          | zero => exact absurd HA.out (by simp [racewayref24_Name.l0])
          | succ k2 =>
            have H := HA.out
            clear HA
            simp only [racewayref24_Name.l0] at H
            by_cases c17 : x3_2 < (a0.size : Int)
            · rw [if_pos c17] at H
              have c17b0 : decide (x3_2 < (a0.size : Int)) = true := decide_eq_true c17
              clear c17
              by_cases c18 : 0 ≤ x3_2
              · rw [if_pos c18] at H
                have c18b0 : decide (0 ≤ x3_2) = true := decide_eq_true c18
                clear c18
                replace H := Option.bind_eq_some_iff.mp H
                obtain ⟨t126, A200, H⟩ := H
                replace H : (if t126 = true then (if x3_2 > 0 then (if (bt a0 x3_2) = 46 then (if 0 ≤ (wrap64 (x3_2 - 1)) then (if (wrap64 (x3_2 - 1)) < (a0.size : Int) then (if (bt a0 (wrap64 (x3_2 - 1))) = 46 then (some false) else (racewayref24_Name.l0 k2 a0 (wrap64 (x3_2 + 1)))) else (none)) else (none)) else (racewayref24_Name.l0 k2 a0 (wrap64 (x3_2 + 1)))) else (racewayref24_Name.l0 k2 a0 (wrap64 (x3_2 + 1)))) else (some false)) = some r := H
                have A20 := Aside0.mk A200
                clear A200
                by_cases c21 : t126 = true
                · subst c21
                  have H1 : (if x3_2 > 0 then (if (bt a0 x3_2) = 46 then (if 0 ≤ (wrap64 (x3_2 - 1)) then (if (wrap64 (x3_2 - 1)) < (a0.size : Int) then (if (bt a0 (wrap64 (x3_2 - 1))) = 46 then (some false) else (racewayref24_Name.l0 k2 a0 (wrap64 (x3_2 + 1)))) else (none)) else (none)) else (racewayref24_Name.l0 k2 a0 (wrap64 (x3_2 + 1)))) else (racewayref24_Name.l0 k2 a0 (wrap64 (x3_2 + 1)))) = some r := by rw [if_pos rfl] at H; exact H
                  clear H
                  have H := H1
                  clear H1
                  by_cases c22 : x3_2 > 0
                  · rw [if_pos c22] at H
                    have c22b0 : decide (0 < x3_2) = true := decide_eq_true c22
                    clear c22
                    by_cases c24 : (bt a0 x3_2) = 46
                    · rw [if_pos c24] at H
                      have c24b0 : ((bt a0 x3_2) == 46) = true := beq_iff_eq.mpr c24
                      have c24b1 : ((bt a0 x3_2) != 46) = false := bne_eq_false_iff_eq.mpr c24
                      clear c24
                      obtain ⟨ji25, hji25⟩ : ∃ j_ : Int, (wrap64 (x3_2 - 1)) = j_ := ⟨_, rfl⟩
                      replace H : (if 0 ≤ (ji25) then (if (ji25) < (a0.size : Int) then (if (bt a0 (ji25)) = 46 then (some false) else (racewayref24_Name.l0 k2 a0 (wrap64 (x3_2 + 1)))) else (none)) else (none)) = some r := by first | (rw [hji25] at H; exact H) | (simp only [hji25] at H ⊢; exact H)
                      (try rw [hji25] at A20)
                      have hji25w : (IntKind.i64.wrap (x3_2 - 1)) = ji25 := (i64_w _).trans hji25
                      by_cases c26 : 0 ≤ (ji25)
                      · rw [if_pos c26] at H
                        have c26b0 : decide (0 ≤ (ji25)) = true := decide_eq_true c26
                        clear c26
                        by_cases c27 : (ji25) < (a0.size : Int)
                        · rw [if_pos c27] at H
                          have c27b0 : decide ((ji25) < (a0.size : Int)) = true := decide_eq_true c27
                          clear c27
                          by_cases c29 : (bt a0 (ji25)) = 46
                          · rw [if_pos c29] at H
                            have c29b0 : ((bt a0 (ji25)) == 46) = true := beq_iff_eq.mpr c29
                            have c29b1 : ((bt a0 (ji25)) != 46) = false := bne_eq_false_iff_eq.mpr c29
                            clear c29
                            obtain rfl := Option.some.inj H
                            have p19 : 0 ≤ (x3_2 : Int) := of_decide_eq_true (by first | (with_reducible assumption) | assumption)
                            have q19 : x3_2 < (a0.size : Int) := of_decide_eq_true (by first | (with_reducible assumption) | assumption)
                            have hx19 := bt_at a0 x3_2
                            replace p19 := eq_true p19
                            replace q19 := eq_true q19
                            go_wp2_with (first | ((with_reducible refine gate_callee (f := 31) rfl ?_); refine goesL_ (some 42) rfl rfl Tryd.func31 (by kernel_rfl) rfl #[.int .u8 (bt a0 x3_2)] rfl (by (try simp only [List.map_toArray, List.map_cons, List.map_nil]); first | done | rfl | (simp only [List.length_drop, List.length_take]; rfl)) ?_; (with_reducible refine (racewayref24_letter.calls (bt a0 x3_2) true _ A20.out).mono ?_); rintro e w' ⟨rfl, ⟨nd, rfl⟩⟩; refine ⟨_, rfl, ?_⟩; have p23 : 0 ≤ (x3_2 : Int) := of_decide_eq_true (by first | (with_reducible assumption) | assumption); have q23 : x3_2 < (a0.size : Int) := of_decide_eq_true (by first | (with_reducible assumption) | assumption); have hx23 := bt_at a0 x3_2; replace p23 := eq_true p23; replace q23 := eq_true q23; have p28 : 0 ≤ ((ji25) : Int) := of_decide_eq_true (by first | (with_reducible assumption) | assumption); have q28 : (ji25) < (a0.size : Int) := of_decide_eq_true (by first | (with_reducible assumption) | assumption); have hx28 := bt_at a0 (ji25); replace p28 := eq_true p28; replace q28 := eq_true q28))
                            go_ret
                            exact ⟨by first | rfl | (simp; done) | (simp only [← hji25] <;> (first | rfl | simp)) | (simp [*]; done), by repeat (first | exact Drawn0.refl _ | apply Drawn0.step)⟩
                          · rw [if_neg c29] at H
                            have c29b0 : ((bt a0 (ji25)) == 46) = false := beq_eq_false_iff_ne.mpr c29
                            have c29b1 : ((bt a0 (ji25)) != 46) = true := bne_iff_ne.mpr c29
                            have H' := Aside0.mk H
                            clear H
                            have p19 : 0 ≤ (x3_2 : Int) := of_decide_eq_true (by first | (with_reducible assumption) | assumption)
                            have q19 : x3_2 < (a0.size : Int) := of_decide_eq_true (by first | (with_reducible assumption) | assumption)
                            have hx19 := bt_at a0 x3_2
                            replace p19 := eq_true p19
                            replace q19 := eq_true q19
                            go_wp2_with (first | ((with_reducible refine gate_callee (f := 31) rfl ?_); refine goesL_ (some 42) rfl rfl Tryd.func31 (by kernel_rfl) rfl #[.int .u8 (bt a0 x3_2)] rfl (by (try simp only [List.map_toArray, List.map_cons, List.map_nil]); first | done | rfl | (simp only [List.length_drop, List.length_take]; rfl)) ?_; (with_reducible refine (racewayref24_letter.calls (bt a0 x3_2) true _ A20.out).mono ?_); rintro e w' ⟨rfl, ⟨nd, rfl⟩⟩; refine ⟨_, rfl, ?_⟩; have p23 : 0 ≤ (x3_2 : Int) := of_decide_eq_true (by first | (with_reducible assumption) | assumption); have q23 : x3_2 < (a0.size : Int) := of_decide_eq_true (by first | (with_reducible assumption) | assumption); have hx23 := bt_at a0 x3_2; replace p23 := eq_true p23; replace q23 := eq_true q23; have p28 : 0 ≤ ((ji25) : Int) := of_decide_eq_true (by first | (with_reducible assumption) | assumption); have q28 : (ji25) < (a0.size : Int) := of_decide_eq_true (by first | (with_reducible assumption) | assumption); have hx28 := bt_at a0 (ji25); replace p28 := eq_true p28; replace q28 := eq_true q28))
                            go_roundg k2
                            case measure => have := HJ1.out; have := HK2.out; omega
                            case rel => exact ⟨(wrap64 (x3_2 + 1)), (by first | rfl | (simp; done) | (simp; decide +kernel) | (simp [*]; done)), (by first | exact H' | (subst_vars; exact H')), ⟨by have := HJ1.out; have := HK2.out; omega⟩, by repeat (first | exact Drawn0.refl _ | apply Drawn0.step)⟩
                        · rw [if_neg c27] at H
                          exact absurd H (by simp)
                      · rw [if_neg c26] at H
                        exact absurd H (by simp)
                    · rw [if_neg c24] at H
                      have c24b0 : ((bt a0 x3_2) == 46) = false := beq_eq_false_iff_ne.mpr c24
                      have c24b1 : ((bt a0 x3_2) != 46) = true := bne_iff_ne.mpr c24
                      have H' := Aside0.mk H
                      clear H
                      have p19 : 0 ≤ (x3_2 : Int) := of_decide_eq_true (by first | (with_reducible assumption) | assumption)
                      have q19 : x3_2 < (a0.size : Int) := of_decide_eq_true (by first | (with_reducible assumption) | assumption)
                      have hx19 := bt_at a0 x3_2
                      replace p19 := eq_true p19
                      replace q19 := eq_true q19
                      go_wp2_with (first | ((with_reducible refine gate_callee (f := 31) rfl ?_); refine goesL_ (some 42) rfl rfl Tryd.func31 (by kernel_rfl) rfl #[.int .u8 (bt a0 x3_2)] rfl (by (try simp only [List.map_toArray, List.map_cons, List.map_nil]); first | done | rfl | (simp only [List.length_drop, List.length_take]; rfl)) ?_; (with_reducible refine (racewayref24_letter.calls (bt a0 x3_2) true _ A20.out).mono ?_); rintro e w' ⟨rfl, ⟨nd, rfl⟩⟩; refine ⟨_, rfl, ?_⟩; have p23 : 0 ≤ (x3_2 : Int) := of_decide_eq_true (by first | (with_reducible assumption) | assumption); have q23 : x3_2 < (a0.size : Int) := of_decide_eq_true (by first | (with_reducible assumption) | assumption); have hx23 := bt_at a0 x3_2; replace p23 := eq_true p23; replace q23 := eq_true q23))
                      go_roundg k2
                      case measure => have := HJ1.out; have := HK2.out; omega
                      case rel => exact ⟨(wrap64 (x3_2 + 1)), (by first | rfl | (simp; done) | (simp; decide +kernel) | (simp [*]; done)), (by first | exact H' | (subst_vars; exact H')), ⟨by have := HJ1.out; have := HK2.out; omega⟩, by repeat (first | exact Drawn0.refl _ | apply Drawn0.step)⟩
                  · rw [if_neg c22] at H
                    have c22b0 : decide (0 < x3_2) = false := decide_eq_false c22
                    clear c22
                    have H' := Aside0.mk H
                    clear H
                    have p19 : 0 ≤ (x3_2 : Int) := of_decide_eq_true (by first | (with_reducible assumption) | assumption)
                    have q19 : x3_2 < (a0.size : Int) := of_decide_eq_true (by first | (with_reducible assumption) | assumption)
                    have hx19 := bt_at a0 x3_2
                    replace p19 := eq_true p19
                    replace q19 := eq_true q19
                    go_wp2_with (first | ((with_reducible refine gate_callee (f := 31) rfl ?_); refine goesL_ (some 42) rfl rfl Tryd.func31 (by kernel_rfl) rfl #[.int .u8 (bt a0 x3_2)] rfl (by (try simp only [List.map_toArray, List.map_cons, List.map_nil]); first | done | rfl | (simp only [List.length_drop, List.length_take]; rfl)) ?_; (with_reducible refine (racewayref24_letter.calls (bt a0 x3_2) true _ A20.out).mono ?_); rintro e w' ⟨rfl, ⟨nd, rfl⟩⟩; refine ⟨_, rfl, ?_⟩))
                    go_roundg k2
                    case measure => have := HJ1.out; have := HK2.out; omega
                    case rel => exact ⟨(wrap64 (x3_2 + 1)), (by first | rfl | (simp; done) | (simp; decide +kernel) | (simp [*]; done)), (by first | exact H' | (subst_vars; exact H')), ⟨by have := HJ1.out; have := HK2.out; omega⟩, by repeat (first | exact Drawn0.refl _ | apply Drawn0.step)⟩
                · replace c21 := Bool.eq_false_iff.mpr c21
                  subst c21
                  have H1 : (some false) = some r := by rw [if_neg (show ¬ (false = true) by decide)] at H; exact H
                  clear H
                  have H := H1
                  clear H1
                  obtain rfl := Option.some.inj H
                  have p19 : 0 ≤ (x3_2 : Int) := of_decide_eq_true (by first | (with_reducible assumption) | assumption)
                  have q19 : x3_2 < (a0.size : Int) := of_decide_eq_true (by first | (with_reducible assumption) | assumption)
                  have hx19 := bt_at a0 x3_2
                  replace p19 := eq_true p19
                  replace q19 := eq_true q19
                  go_wp2_with (first | ((with_reducible refine gate_callee (f := 31) rfl ?_); refine goesL_ (some 42) rfl rfl Tryd.func31 (by kernel_rfl) rfl #[.int .u8 (bt a0 x3_2)] rfl (by (try simp only [List.map_toArray, List.map_cons, List.map_nil]); first | done | rfl | (simp only [List.length_drop, List.length_take]; rfl)) ?_; (with_reducible refine (racewayref24_letter.calls (bt a0 x3_2) false _ A20.out).mono ?_); rintro e w' ⟨rfl, ⟨nd, rfl⟩⟩; refine ⟨_, rfl, ?_⟩))
                  go_ret
                  exact ⟨by first | rfl | (simp; done) | (simp; decide +kernel) | (simp [*]; done), by repeat (first | exact Drawn0.refl _ | apply Drawn0.step)⟩
              · rw [if_neg c18] at H
                exact absurd H (by simp)
            · rw [if_neg c17] at H
              have c17b0 : decide (x3_2 < (a0.size : Int)) = false := decide_eq_false c17
              clear c17
              obtain rfl := Option.some.inj H
              go_wp2
              go_ret
              exact ⟨by first | rfl | (simp; done) | (simp; decide +kernel) | (simp [*]; done), by repeat (first | exact Drawn0.refl _ | apply Drawn0.step)⟩

def strings_HasPrefix.f (a0 : ByteArray) (a1 : ByteArray) : Option (Bool) := (stringslite_HasPrefix.f a0 a1).bind fun t127 => (some t127)
set_option maxHeartbeats 8000000 in
set_option maxRecDepth 100000 in
theorem strings_HasPrefix.calls (a0 : ByteArray) (a1 : ByteArray) (r : Bool) (w : World) (h : strings_HasPrefix.f a0 a1 = some r) :
    Calls Tryd.prog 40 #[.string a0, .string a1] w fun e w' => e = .returned (.bool r) ∧ Drawn0 w w' := by
  have H : ((stringslite_HasPrefix.f a0 a1).bind fun t127 => (some t127)) = some r := h
  clear h
  replace H := Option.bind_eq_some_iff.mp H
  obtain ⟨t127, A30, H⟩ := H
  replace H : (some t127) = some r := H
  have A3 := Aside0.mk A30
  clear A30
  obtain rfl := Option.some.inj H
  go_enter Tryd.func40, Tryd.ntmps40
  go_wp2_with (first | ((with_reducible refine gate_callee (f := 73) rfl ?_); refine goesL_ (some 7) rfl rfl Tryd.func73 (by kernel_rfl) rfl #[.string a0, .string a1] rfl (by (try simp only [List.map_toArray, List.map_cons, List.map_nil]); first | done | rfl | (simp only [List.length_drop, List.length_take]; rfl)) ?_; (with_reducible refine (stringslite_HasPrefix.calls a0 a1 t127 _ A3.out).mono ?_); rintro e w' ⟨rfl, ⟨nd, rfl⟩⟩; refine ⟨_, rfl, ?_⟩))
  go_ret
  exact ⟨by first | rfl | (simp; done) | (simp; decide +kernel) | (simp [*]; done), by repeat (first | exact Drawn0.refl _ | apply Drawn0.step)⟩

def attribute_sign.f (a0 : ByteArray) : Option (ByteArray) := (strings_HasPrefix.f a0 (⟨#[43]⟩ : ByteArray)).bind fun t128 => (if t128 = true then (if 1 ≤ (a0.size : Int) then (some (a0.extract 1 a0.size)) else (none)) else ((strings_HasPrefix.f a0 (⟨#[45]⟩ : ByteArray)).bind fun t129 => (if t129 = true then (if 1 ≤ (a0.size : Int) then (some (a0.extract 1 a0.size)) else (none)) else (some a0))))
set_option maxHeartbeats 8000000 in
set_option maxRecDepth 100000 in
theorem attribute_sign.calls (a0 : ByteArray) (r : ByteArray) (w : World) (h : attribute_sign.f a0 = some r) :
    Calls Tryd.prog 37 #[.string a0] w fun e w' => e = .returned (.string r) ∧ Drawn0 w w' := by
  have H : ((strings_HasPrefix.f a0 (⟨#[43]⟩ : ByteArray)).bind fun t128 => (if t128 = true then (if 1 ≤ (a0.size : Int) then (some (a0.extract 1 a0.size)) else (none)) else ((strings_HasPrefix.f a0 (⟨#[45]⟩ : ByteArray)).bind fun t129 => (if t129 = true then (if 1 ≤ (a0.size : Int) then (some (a0.extract 1 a0.size)) else (none)) else (some a0))))) = some r := h
  clear h
  replace H := Option.bind_eq_some_iff.mp H
  obtain ⟨t128, A20, H⟩ := H
  replace H : (if t128 = true then (if 1 ≤ (a0.size : Int) then (some (a0.extract 1 a0.size)) else (none)) else ((strings_HasPrefix.f a0 (⟨#[45]⟩ : ByteArray)).bind fun t129 => (if t129 = true then (if 1 ≤ (a0.size : Int) then (some (a0.extract 1 a0.size)) else (none)) else (some a0)))) = some r := H
  have A2 := Aside0.mk A20
  clear A20
  by_cases c3 : t128 = true
  · subst c3
    have H1 : (if 1 ≤ (a0.size : Int) then (some (a0.extract 1 a0.size)) else (none)) = some r := by rw [if_pos rfl] at H; exact H
    clear H
    have H := H1
    clear H1
    by_cases c4 : 1 ≤ (a0.size : Int)
    · rw [if_pos c4] at H
      have c4b0 := eq_true c4
      have c4b1 : decide (1 ≤ (a0.size : Int)) = true := decide_eq_true c4
      clear c4
      obtain rfl := Option.some.inj H
      go_enter Tryd.func37, Tryd.ntmps37
      go_wp2_with (first | ((with_reducible refine gate_callee (f := 40) rfl ?_); refine goesL_ (some 4) rfl rfl Tryd.func40 (by kernel_rfl) rfl #[.string a0, .string (⟨#[43]⟩ : ByteArray)] rfl (by (try simp only [List.map_toArray, List.map_cons, List.map_nil]); first | done | rfl | (simp only [List.length_drop, List.length_take]; rfl)) ?_; (with_reducible refine (strings_HasPrefix.calls a0 (⟨#[43]⟩ : ByteArray) true _ A2.out).mono ?_); rintro e w' ⟨rfl, ⟨nd, rfl⟩⟩; refine ⟨_, rfl, ?_⟩))
      go_ret
      exact ⟨by first | rfl | (simp; done) | (simp; decide +kernel) | (simp [*]; done), by repeat (first | exact Drawn0.refl _ | apply Drawn0.step)⟩
    · rw [if_neg c4] at H
      exact absurd H (by simp)
  · replace c3 := Bool.eq_false_iff.mpr c3
    subst c3
    have H1 : ((strings_HasPrefix.f a0 (⟨#[45]⟩ : ByteArray)).bind fun t129 => (if t129 = true then (if 1 ≤ (a0.size : Int) then (some (a0.extract 1 a0.size)) else (none)) else (some a0))) = some r := by rw [if_neg (show ¬ (false = true) by decide)] at H; exact H
    clear H
    have H := H1
    clear H1
    replace H := Option.bind_eq_some_iff.mp H
    obtain ⟨t129, A50, H⟩ := H
    replace H : (if t129 = true then (if 1 ≤ (a0.size : Int) then (some (a0.extract 1 a0.size)) else (none)) else (some a0)) = some r := H
    have A5 := Aside0.mk A50
    clear A50
    by_cases c6 : t129 = true
    · subst c6
      have H1 : (if 1 ≤ (a0.size : Int) then (some (a0.extract 1 a0.size)) else (none)) = some r := by rw [if_pos rfl] at H; exact H
      clear H
      have H := H1
      clear H1
      by_cases c7 : 1 ≤ (a0.size : Int)
      · rw [if_pos c7] at H
        have c7b0 := eq_true c7
        have c7b1 : decide (1 ≤ (a0.size : Int)) = true := decide_eq_true c7
        clear c7
        obtain rfl := Option.some.inj H
        go_enter Tryd.func37, Tryd.ntmps37
        go_wp2_with (first | ((with_reducible refine gate_callee (f := 40) rfl ?_); refine goesL_ (some 4) rfl rfl Tryd.func40 (by kernel_rfl) rfl #[.string a0, .string (⟨#[43]⟩ : ByteArray)] rfl (by (try simp only [List.map_toArray, List.map_cons, List.map_nil]); first | done | rfl | (simp only [List.length_drop, List.length_take]; rfl)) ?_; (with_reducible refine (strings_HasPrefix.calls a0 (⟨#[43]⟩ : ByteArray) false _ A2.out).mono ?_); rintro e w' ⟨rfl, ⟨nd, rfl⟩⟩; refine ⟨_, rfl, ?_⟩) | (go_at_call 40; (with_reducible refine (strings_HasPrefix.calls a0 (⟨#[45]⟩ : ByteArray) true _ A5.out).mono ?_); rintro e w' ⟨rfl, ⟨nd, rfl⟩⟩))
        go_ret
        exact ⟨by first | rfl | (simp; done) | (simp; decide +kernel) | (simp [*]; done), by repeat (first | exact Drawn0.refl _ | apply Drawn0.step)⟩
      · rw [if_neg c7] at H
        exact absurd H (by simp)
    · replace c6 := Bool.eq_false_iff.mpr c6
      subst c6
      have H1 : (some a0) = some r := by rw [if_neg (show ¬ (false = true) by decide)] at H; exact H
      clear H
      have H := H1
      clear H1
      obtain rfl := Option.some.inj H
      go_enter Tryd.func37, Tryd.ntmps37
      go_wp2_with (first | ((with_reducible refine gate_callee (f := 40) rfl ?_); refine goesL_ (some 4) rfl rfl Tryd.func40 (by kernel_rfl) rfl #[.string a0, .string (⟨#[43]⟩ : ByteArray)] rfl (by (try simp only [List.map_toArray, List.map_cons, List.map_nil]); first | done | rfl | (simp only [List.length_drop, List.length_take]; rfl)) ?_; (with_reducible refine (strings_HasPrefix.calls a0 (⟨#[43]⟩ : ByteArray) false _ A2.out).mono ?_); rintro e w' ⟨rfl, ⟨nd, rfl⟩⟩; refine ⟨_, rfl, ?_⟩) | (go_at_call 40; (with_reducible refine (strings_HasPrefix.calls a0 (⟨#[45]⟩ : ByteArray) false _ A5.out).mono ?_); rintro e w' ⟨rfl, ⟨nd, rfl⟩⟩))
      go_ret
      exact ⟨by first | rfl | (simp; done) | (simp; decide +kernel) | (simp [*]; done), by repeat (first | exact Drawn0.refl _ | apply Drawn0.step)⟩

end Go.Proofs.YtolpefnedpgaaaaDoor.X

namespace Go.Proofs.YtolpefnedpgaaaaDoor.X
open Go.RowKit Go.Proofs.YtolpefnedpgaaaaDoorW.PrintWords Go.Proofs.YtolpefnedpgaaaaDoorW.PrintMore
set_option linter.unusedVariables false
set_option linter.unusedSimpArgs false
theorem w64 {x : Int} (h0 : -9223372036854775808 ≤ x) (h1 : x ≤ 9223372036854775807) : wrap64 x = x := by unfold wrap64; omega
theorem bt_range (s : ByteArray) (i : Int) : 0 ≤ bt s i ∧ bt s i < 256 := by
  unfold bt
  split
  · rename_i h
    have := (s[i.toNat]'h).toNat_lt
    omega
  · omega
theorem q_bt (s : ByteArray) (i : Nat) (h : i < s.size) : bt s (i : Int) = ((s[i]'h).toNat : Int) := by
  unfold bt
  simp only [Int.toNat_natCast]
  rw [dif_pos h]
/-- All bytes from i on, d of them. -/
def allD (p : Int → Bool) (s : ByteArray) : Nat → Nat → Bool
  | 0, _ => true
  | d + 1, i => p (bt s (i : Int)) && allD p s d (i + 1)
theorem allD_congr {p q : Int → Bool} (h : ∀ c : Int, 0 ≤ c → c < 256 → p c = q c) (s : ByteArray) (d : Nat) : ∀ i, allD p s d i = allD q s d i := by
  induction d with
  | zero => intro i; rfl
  | succ d ih => intro i; have := bt_range s (i : Int); simp only [allD]; rw [ih, h _ this.1 this.2]
theorem byte_eq {p q : Int → Bool} (h : ∀ n : Fin 256, p (n.val : Int) = q (n.val : Int)) (c : Int) (h0 : 0 ≤ c) (h1 : c < 256) : p c = q c := by
  obtain ⟨n, rfl⟩ := Int.eq_ofNat_of_zero_le h0
  exact h ⟨n, by omega⟩
theorem size_append (a b : ByteArray) : (a ++ b).size = a.size + b.size := by simp
theorem mn_le_left (a b : Int) : mn a b ≤ a := by unfold mn; split <;> omega
theorem mn_cases (a b : Int) : mn a b = a ∨ mn a b = b := by unfold mn; split <;> simp
/-- A text cut at n. -/
def cutB (s : ByteArray) (n : Nat) : ByteArray := s.extract 0 (mn (s.size : Int) (n : Int)).toNat
theorem cutB_size (s : ByteArray) (n : Nat) : (cutB s n).size = min s.size n := by
  unfold cutB mn
  rw [ByteArray.size_extract]
  split <;> omega
end Go.Proofs.YtolpefnedpgaaaaDoor.X

namespace Go.Proofs.YtolpefnedpgaaaaDoor.X
open Go.RowKit Go.Proofs.YtolpefnedpgaaaaDoorW.PrintWords Go.Proofs.YtolpefnedpgaaaaDoorW.PrintMore
set_option linter.unusedVariables false
set_option linter.unusedSimpArgs false
/-- The digits' value, if they all are digits. -/
def digVal : Nat → List UInt8 → Option Nat
  | u, [] => some u
  | u, c :: l => if 48 ≤ c.toNat ∧ c.toNat ≤ 57 then digVal (10 * u + (c.toNat - 48)) l else none
/-- The sign has been cut off. -/
def atoiT (m : Bool) (t : List UInt8) : Int × Int :=
  if t = [] ∨ 19 < t.length ∨ (t.headD 0 = 48 ∧ (1 < t.length ∨ m = true)) then (0, 5)
  else match digVal 0 t with
    | none => (0, 5)
    | some u => if m = true then (if u ≤ 9223372036854775808 then (-(u : Int), 0) else (0, 5)) else (if u ≤ 9223372036854775807 then ((u : Int), 0) else (0, 5))
def atoiB (s : ByteArray) : Int × Int := atoiT (Lib.hasPrefix s.data.toList [45]) (Lib.trimPrefix s.data.toList [45])
theorem digVal_snoc (c : UInt8) : ∀ (l : List UInt8) (u : Nat), digVal u (l ++ [c]) = (digVal u l).bind fun v => if 48 ≤ c.toNat ∧ c.toNat ≤ 57 then some (10 * v + (c.toNat - 48)) else none
  | [], u => by simp [digVal]
  | d :: l, u => by
    simp only [List.cons_append, digVal]
    split
    · exact digVal_snoc c l _
    · rfl
theorem digVal_append (l2 : List UInt8) : ∀ (l : List UInt8) (u : Nat), digVal u (l ++ l2) = (digVal u l).bind fun v => digVal v l2
  | [], u => by simp [digVal]
  | d :: l, u => by
    simp only [List.cons_append, digVal]
    split
    · exact digVal_append l2 l _
    · rfl
theorem digVal_lt : ∀ (l : List UInt8) (u v : Nat), digVal u l = some v → v < (u + 1) * 10 ^ l.length
  | [], u, v, h => by simp [digVal] at h; subst h; simp
  | c :: l, u, v, h => by
    simp only [digVal] at h
    split at h
    · rename_i hc
      have := digVal_lt l _ v h
      simp only [List.length_cons, Nat.pow_succ]
      have h2 : (10 * u + (c.toNat - 48) + 1) * 10 ^ l.length ≤ (u + 1) * (10 ^ l.length * 10) := by
        rw [Nat.mul_comm (10 ^ l.length) 10, ← Nat.mul_assoc]
        exact Nat.mul_le_mul_right _ (by omega)
      omega
    · exact absurd h (by simp)
theorem take_succ_bytes (t : ByteArray) (k : Nat) (h : k < t.size) : t.data.toList.take (k + 1) = t.data.toList.take k ++ [t[k]'h] := by
  rw [List.take_succ_eq_append_getElem (by simpa using h)]; rfl
theorem digVal_stop (t : ByteArray) (k : Nat) (h : k < t.size) (hc : ¬ (48 ≤ (t[k]'h).toNat ∧ (t[k]'h).toNat ≤ 57)) : digVal 0 t.data.toList = none := by
  have e : t.data.toList = t.data.toList.take k ++ (t[k]'h :: t.data.toList.drop (k + 1)) := by
    have h' : k < t.data.toList.length := by simpa using h
    have h2 := List.drop_eq_getElem_cons h'
    have h3 : t.data.toList[k]'h' = t[k]'h := rfl
    rw [h3] at h2
    rw [← h2, List.take_append_drop]
  rw [e, digVal_append]
  cases digVal 0 (t.data.toList.take k) with
  | none => rfl
  | some v => simp only [Option.bind_some, digVal]; rw [if_neg hc]
theorem toList_ne (t : ByteArray) (h1 : 0 < t.size) : t.toList.isEmpty = false := by
  have h : t.toList = t.data.toList := ByteArray.toList_eq t
  rw [h]
  have : t.data.toList.length = t.size := by simp
  cases h2 : t.data.toList with
  | nil => rw [h2] at this; simp at this; omega
  | cons a b => rfl
theorem atoi_not (t : ByteArray) (m : Bool) (h1 : 0 < t.size) (h2 : t.size ≤ 19) (h3 : ((t[0]'h1).toNat : Int) ≠ 48) :
    ¬ (t.data.toList = [] ∨ 19 < t.data.toList.length ∨ (t.data.toList.headD 0 = 48 ∧ (1 < t.data.toList.length ∨ m = true))) := by
  have hl : t.data.toList.length = t.size := by simp
  rintro (h | h | ⟨h, _⟩)
  · rw [h] at hl; simp at hl; omega
  · omega
  · apply h3
    have e : t.data.toList.headD 0 = t[0]'h1 := by
      rw [List.headD_eq_head?_getD, List.head?_eq_getElem?, List.getElem?_eq_getElem (by omega)]
      rfl
    rw [← e, h]
    rfl
theorem trim_less (s : ByteArray) : decide ((Lib.trimPrefix s.data.toList [45]).length < s.size) = Lib.hasPrefix s.data.toList [45] := by
  have hl : s.data.toList.length = s.size := by simp
  unfold Lib.trimPrefix
  split
  · rename_i h
    rw [h, decide_eq_true_iff]
    simp only [List.length_drop, List.length_cons, List.length_nil]
    have : 0 < s.data.toList.length := by
      cases hd : s.data.toList with
      | nil => rw [hd] at h; simp [Lib.hasPrefix] at h
      | cons a b => simp
    omega
  · rename_i h
    rw [Bool.not_eq_true] at h
    rw [h, decide_eq_false_iff_not]
    omega
end Go.Proofs.YtolpefnedpgaaaaDoor.X

namespace Go.Proofs.YtolpefnedpgaaaaDoor.X
open Go.RowKit Go.Proofs.YtolpefnedpgaaaaDoorW.PrintWords
set_option linter.unusedVariables false
set_option linter.unusedSimpArgs false
theorem ret_two {a b : Int × Int} (h : a = b) : Ending.returned (.tuple #[.int .i64 a.1, .int .i64 a.2]) = .returned (.tuple #[.int .i64 b.1, .int .i64 b.2]) := by rw [h]
set_option maxHeartbeats 2000000 in
set_option maxRecDepth 100000 in
theorem atoi_loop (s t : ByteArray) (m : Bool) (w : World) (ht : (⟨(Lib.trimPrefix s.data.toList [45]).toArray⟩ : ByteArray) = t) (hm : decide (t.size < s.size) = m)
    (h1 : 0 < t.size) (h2 : t.size ≤ 19) (h3 : ((t[0]'h1).toNat : Int) ≠ 48) :
    Calls Tryd.prog 38 #[.string s] w fun e w' => e = .returned (.tuple #[.int .i64 (atoiT m t.data.toList).1, .int .i64 (atoiT m t.data.toList).2]) ∧ w' = w := by
  have HT := Lib.hid ht
  clear ht
  have e1 : t.toList.isEmpty = false := toList_ne t h1
  have hnil : ¬ (t.data.toList = [] ∨ 19 < t.data.toList.length ∨ (t.data.toList.headD 0 = 48 ∧ (1 < t.data.toList.length ∨ m = true))) := atoi_not t m h1 h2 h3
  have hAt : ∀ v, digVal 0 t.data.toList = v → atoiT m t.data.toList = match v with | none => (0, 5) | some u => if m = true then (if u ≤ 9223372036854775808 then (-(u : Int), 0) else (0, 5)) else (if u ≤ 9223372036854775807 then ((u : Int), 0) else (0, 5)) := by
    intro v hv; subst hv; unfold atoiT; rw [if_neg hnil] <;> rfl
  have HA := Lib.hid hAt
  clear hnil hAt
  have e3 : (((t[0]'h1).toNat : Int) == 48) = false := by simpa using h3
  go_enter Tryd.func38, Tryd.ntmps38
  go_wp2_with (go_at_call 68; refine (Tryd.strings_TrimPrefix _ _ _).mono ?_; rintro e w1 ⟨rfl, rfl⟩; simp only [HT.out])
  go_loop [6, 37] (fun x i => ∃ k u : Nat, k ≤ t.size ∧ x = .int .u64 u ∧ i = .int .i64 k ∧ Hid (digVal 0 (t.data.toList.take k) = some u)) (fun _ i => t.size - (intOf i).toNat)
  case atStart => exact ⟨0, 0, Nat.zero_le _, rfl, rfl, Lib.hid rfl⟩
  case round =>
    obtain ⟨k, u, hk, rfl, rfl, hu⟩ := hrel
    by_cases hlt : k < t.size
    · have hb : (u : Int) ≤ 1000000000000000000 := by
        have := digVal_lt _ _ _ hu.out
        have hl : (t.data.toList.take k).length = k := by rw [List.length_take, Array.length_toList]; have : k < t.data.size := hlt; omega
        rw [hl] at this
        have h18 : 10 ^ k ≤ 10 ^ 18 := Nat.pow_le_pow_right (by omega) (by omega)
        have : (10 : Nat) ^ 18 = 1000000000000000000 := by decide
        omega
      have hu0 : (0 : Int) ≤ (u : Int) := by omega
      have hc1 : (0 : Int) ≤ ((t[k]'hlt).toNat : Int) := by omega
      have hc2 : ((t[k]'hlt).toNat : Int) ≤ 255 := by have := (t[k]'hlt).toNat_lt; omega
      have hts := Lib.hid (take_succ_bytes t k hlt)
      have hsn := Lib.hid (digVal_snoc (t[k]'hlt) (t.data.toList.take k) 0)
      have hdr := Lib.hid (digVal_stop t k hlt)
      by_cases hd1 : ((t[k]'hlt).toNat : Int) < 48
      · have hq1 : decide (((t[k]'hlt).toNat : Int) < 48) = true := decide_eq_true hd1
        go_wp2
        go_ret2
        exact ⟨ret_two (a := (0, 5)) (HA.out _ (hdr.out (by omega))).symm, rfl⟩
      · have hq1 : decide (((t[k]'hlt).toNat : Int) < 48) = false := decide_eq_false hd1
        by_cases hd2 : (57 : Int) < ((t[k]'hlt).toNat : Int)
        · have hq2 : decide ((57 : Int) < ((t[k]'hlt).toNat : Int)) = true := decide_eq_true hd2
          go_wp2
          go_ret2
          exact ⟨ret_two (a := (0, 5)) (HA.out _ (hdr.out (by omega))).symm, rfl⟩
        · have hq2 : decide ((57 : Int) < ((t[k]'hlt).toNat : Int)) = false := decide_eq_false hd2
          go_wp2
          refine ⟨⟨k + 1, 10 * u + ((t[k]'hlt).toNat - 48), by omega, ?_, by go_num, Lib.hid ?_⟩, by simp [intOf]; omega⟩
          · rw [show ((10 * u + ((t[k]'hlt).toNat - 48) : Nat) : Int) = 10 * (u : Int) + (((t[k]'hlt).toNat : Int) - 48) by omega]
          · rw [hts.out, hsn.out, hu.out, Option.bind_some, if_pos (by omega)]
    · have hke : k = t.size := by omega
      subst hke
      have hdv : digVal 0 t.data.toList = some u := by have := hu.out; rwa [List.take_of_length_le (by simp)] at this
      have HD := Lib.hid (HA.out _ hdv)
      clear hdv hu
      cases m with
      | true =>
        by_cases hb : u ≤ 9223372036854775808
        · have hq : decide ((u : Int) ≤ 9223372036854775808) = true := by simp; omega
          have hw : IntKind.i64.wrap (IntKind.u64.wrap (-(u : Int))) = -(u : Int) := by unfold IntKind.wrap; simp [IntKind.signed, IntKind.bits]; omega
          go_wp2
          go_ret2
          exact ⟨ret_two (a := (-(u : Int), 0)) (by rw [HD.out]; simp only [if_true, if_pos hb]), rfl⟩
        · have hq : decide ((u : Int) ≤ 9223372036854775808) = false := by simp; omega
          go_wp2
          go_ret2
          exact ⟨ret_two (a := (0, 5)) (by rw [HD.out]; simp only [if_true, if_neg hb]), rfl⟩
      | false =>
        by_cases hb : u ≤ 9223372036854775807
        · have hq : decide ((u : Int) ≤ 9223372036854775807) = true := by simp; omega
          go_wp2
          go_ret2
          exact ⟨ret_two (a := ((u : Int), 0)) (by rw [HD.out]; simp only [if_false, Bool.false_eq_true, if_pos hb]), rfl⟩
        · have hq : decide ((u : Int) ≤ 9223372036854775807) = false := by simp; omega
          go_wp2
          go_ret2
          exact ⟨ret_two (a := (0, 5)) (by rw [HD.out]; simp only [if_false, Bool.false_eq_true, if_neg hb]), rfl⟩
set_option maxHeartbeats 2000000 in
set_option maxRecDepth 100000 in
theorem atoi_none (s t : ByteArray) (w : World) (ht : (⟨(Lib.trimPrefix s.data.toList [45]).toArray⟩ : ByteArray) = t) (h : t.size = 0) :
    Calls Tryd.prog 38 #[.string s] w fun e w' => e = .returned (.tuple #[.int .i64 0, .int .i64 5]) ∧ w' = w := by
  have HT := Lib.hid ht
  clear ht
  have e1 : t.toList.isEmpty = true := by
    have : t.toList = t.data.toList := ByteArray.toList_eq t
    rw [this, List.isEmpty_iff, ← List.length_eq_zero_iff]; simpa using h
  clear h
  go_enter Tryd.func38, Tryd.ntmps38
  go_wp2_with (go_at_call 68; refine (Tryd.strings_TrimPrefix _ _ _).mono ?_; rintro e w1 ⟨rfl, rfl⟩; simp only [HT.out])
  go_ret2
  exact ⟨rfl, rfl⟩
set_option maxHeartbeats 2000000 in
set_option maxRecDepth 100000 in
theorem atoi_long (s t : ByteArray) (w : World) (ht : (⟨(Lib.trimPrefix s.data.toList [45]).toArray⟩ : ByteArray) = t) (h1 : 0 < t.size) (h2 : (19 : Int) < t.size) :
    Calls Tryd.prog 38 #[.string s] w fun e w' => e = .returned (.tuple #[.int .i64 0, .int .i64 5]) ∧ w' = w := by
  have HT := Lib.hid ht
  clear ht
  have e1 : t.toList.isEmpty = false := toList_ne t h1
  have e2 : decide ((19 : Int) < (t.size : Int)) = true := decide_eq_true h2
  go_enter Tryd.func38, Tryd.ntmps38
  go_wp2_with (go_at_call 68; refine (Tryd.strings_TrimPrefix _ _ _).mono ?_; rintro e w1 ⟨rfl, rfl⟩; simp only [HT.out])
  go_ret2
  exact ⟨rfl, rfl⟩
set_option maxHeartbeats 2000000 in
set_option maxRecDepth 100000 in
theorem atoi_nought (s t : ByteArray) (m : Bool) (w : World) (ht : (⟨(Lib.trimPrefix s.data.toList [45]).toArray⟩ : ByteArray) = t) (hm : decide (t.size < s.size) = m)
    (h1 : 0 < t.size) (h2 : t.size ≤ 19) (h3 : ((t[0]'h1).toNat : Int) = 48) (h4 : 1 < t.size ∨ m = true) :
    Calls Tryd.prog 38 #[.string s] w fun e w' => e = .returned (.tuple #[.int .i64 0, .int .i64 5]) ∧ w' = w := by
  have HT := Lib.hid ht
  clear ht
  have e1 : t.toList.isEmpty = false := toList_ne t h1
  have e3 : (((t[0]'h1).toNat : Int) == 48) = true := by rw [beq_iff_eq]; exact h3
  by_cases h5 : 1 < t.size
  · have e5 : decide ((1 : Int) < (t.size : Int)) = true := by simp; omega
    have e6 : decide (1 < t.size) = true := by simp; omega
    clear h4 h3
    go_enter Tryd.func38, Tryd.ntmps38
    go_wp2_with (go_at_call 68; refine (Tryd.strings_TrimPrefix _ _ _).mono ?_; rintro e w1 ⟨rfl, rfl⟩; simp only [HT.out])
    go_ret2
    exact ⟨rfl, rfl⟩
  · obtain rfl := h4.resolve_left h5
    have e5 : decide ((1 : Int) < (t.size : Int)) = false := by simp; omega
    have e6 : decide (1 < t.size) = false := by simp; omega
    clear h4 h3
    go_enter Tryd.func38, Tryd.ntmps38
    go_wp2_with (go_at_call 68; refine (Tryd.strings_TrimPrefix _ _ _).mono ?_; rintro e w1 ⟨rfl, rfl⟩; simp only [HT.out])
    go_ret2
    exact ⟨rfl, rfl⟩
set_option maxHeartbeats 2000000 in
set_option maxRecDepth 100000 in
/-- 0 itself. -/
theorem atoi_zero (s t : ByteArray) (w : World) (ht : (⟨(Lib.trimPrefix s.data.toList [45]).toArray⟩ : ByteArray) = t) (hm : decide (t.size < s.size) = false)
    (h1 : 0 < t.size) (h2 : t.size = 1) (h3 : ((t[0]'h1).toNat : Int) = 48) :
    Calls Tryd.prog 38 #[.string s] w fun e w' => e = .returned (.tuple #[.int .i64 0, .int .i64 0]) ∧ w' = w := by
  obtain rfl : t = ⟨#[48]⟩ := by
    obtain ⟨⟨l⟩⟩ := t
    match l, h2 with
    | [c], _ =>
      have : c.toNat = 48 := by have : (c.toNat : Int) = 48 := h3; omega
      have : c = 48 := by apply UInt8.toNat.inj; exact this
      subst this
      rfl
  clear h1 h2 h3
  have HT := Lib.hid ht
  clear ht
  have hm0 : ¬ (1 < s.size) := of_decide_eq_false hm
  have hm1 : decide (1 < s.size) = false := hm
  have hm2 : decide ((1 : Int) < (s.size : Int)) = false := by simp; omega
  clear hm hm0
  go_enter Tryd.func38, Tryd.ntmps38
  go_wp2_with (go_at_call 68; refine (Tryd.strings_TrimPrefix _ _ _).mono ?_; rintro e w1 ⟨rfl, rfl⟩; simp only [HT.out])
  refine wp_loop_rounds 2 ?_
  rw [rounds_succ]
  go_wp2
  rw [rounds_succ]
  go_wp2
  go_ret2
  exact ⟨rfl, rfl⟩
/-- basic.Atoi. -/
def basic_Atoi.f (s : ByteArray) : Option (Int × Int) := some (atoiB s)
theorem basic_Atoi.calls (a0 : ByteArray) (r1 r2 : Int) (w : World) (h : basic_Atoi.f a0 = some (r1, r2)) :
    Calls Tryd.prog 38 #[.string a0] w fun e w' => e = .returned (.tuple #[.int .i64 r1, .int .i64 r2]) ∧ Drawn0 w w' := by
  have h' : atoiB a0 = (r1, r2) := Option.some.inj h
  clear h
  have key : Calls Tryd.prog 38 #[.string a0] w fun e w' => e = .returned (.tuple #[.int .i64 (atoiB a0).1, .int .i64 (atoiB a0).2]) ∧ w' = w := by
    obtain ⟨t, ht⟩ : ∃ t : ByteArray, (⟨(Lib.trimPrefix a0.data.toList [45]).toArray⟩ : ByteArray) = t := ⟨_, rfl⟩
    have htd : t.data.toList = Lib.trimPrefix a0.data.toList [45] := by rw [← ht]
    have hts : t.size = (Lib.trimPrefix a0.data.toList [45]).length := by rw [← htd]; simp
    have hm : decide (t.size < a0.size) = Lib.hasPrefix a0.data.toList [45] := by rw [hts]; exact trim_less a0
    have hl : t.data.toList.length = t.size := by simp
    by_cases h0 : t.size = 0
    · have : atoiB a0 = (0, 5) := by
        unfold atoiB atoiT
        rw [if_pos (.inl (by rw [← htd]; exact List.length_eq_zero_iff.mp (by omega)))]
      rw [this]
      exact atoi_none a0 t w ht h0
    · by_cases h19 : (19 : Int) < t.size
      · have : atoiB a0 = (0, 5) := by
          unfold atoiB atoiT
          rw [if_pos (.inr (.inl (by rw [← htd]; omega)))]
        rw [this]
        exact atoi_long a0 t w ht (by omega) h19
      · by_cases h48 : ((t[0]'(by omega)).toNat : Int) = 48
        · have hhead : t.data.toList.headD 0 = 48 := by
            have e : t.data.toList.headD 0 = t[0]'(by omega) := by
              rw [List.headD_eq_head?_getD, List.head?_eq_getElem?, List.getElem?_eq_getElem (by omega)]
              rfl
            rw [e]
            apply UInt8.toNat.inj
            show (t[0]'(by omega)).toNat = 48
            omega
          by_cases h4 : 1 < t.size ∨ Lib.hasPrefix a0.data.toList [45] = true
          · have : atoiB a0 = (0, 5) := by
              unfold atoiB atoiT
              rw [if_pos (.inr (.inr ⟨by rw [← htd]; exact hhead, by rw [← htd, hl]; exact h4⟩))]
            rw [this]
            exact atoi_nought a0 t _ w ht hm (by omega) (by omega) h48 h4
          · have hone : t.size = 1 := by omega
            have hz : atoiB a0 = (0, 0) := by
              unfold atoiB atoiT
              rw [← htd]
              have hneg : ¬ (t.data.toList = [] ∨ 19 < t.data.toList.length ∨ (t.data.toList.headD 0 = 48 ∧ (1 < t.data.toList.length ∨ Lib.hasPrefix a0.data.toList [45] = true))) := by
                rw [hl]
                rintro (e | e | ⟨_, e⟩)
                · rw [e] at hl
                  simp at hl
                  omega
                · omega
                · exact h4 e
              rw [if_neg hneg]
              match hd : t.data.toList, hl with
              | [c], _ =>
                rw [hd] at hhead
                simp at hhead
                subst hhead
                have : Lib.hasPrefix a0.data.toList [45] = false := by cases hh : Lib.hasPrefix a0.data.toList [45] <;> simp_all
                rw [this]
                decide
              | [], e => rw [hone] at e; simp at e
              | _ :: _ :: _, e => rw [hone] at e; simp at e
            rw [hz]
            exact atoi_zero a0 t w ht (by rw [hm]; cases hh : Lib.hasPrefix a0.data.toList [45] <;> simp_all) (by omega) hone h48
        · have := atoi_loop a0 t _ w ht hm (by omega) (by omega) h48
          rw [htd] at this
          exact this
  rw [h'] at key
  refine key.mono ?_
  rintro e w' ⟨rfl, rfl⟩
  exact ⟨rfl, Drawn0.refl _⟩
end Go.Proofs.YtolpefnedpgaaaaDoor.X

namespace Go.Proofs.YtolpefnedpgaaaaDoor.X
open Go.RowKit Go.Proofs.YtolpefnedpgaaaaDoorW.PrintWords
set_option linter.unusedVariables false
set_option linter.unusedSimpArgs false
/-- strings.Replace, of something by little. -/
def strings_Replace.f (s old new : ByteArray) (n : Int) : Option ByteArray :=
  if s.size < 4294967281 ∧ 1 ≤ old.size ∧ new.size ≤ 16 then some ⟨(Lib.replace s.data.toList old.data.toList new.data.toList n).toArray⟩ else none
theorem strings_Replace.calls (a0 a1 a2 : ByteArray) (a3 : Int) (r : ByteArray) (w : World) (hGMax : GlobMax w) (h : strings_Replace.f a0 a1 a2 a3 = some r) :
    Calls Tryd.prog 36 #[.string a0, .string a1, .string a2, .int .i64 a3] w fun e w' => e = .returned (.string r) ∧ Below w.heap.size w w' := by
  unfold strings_Replace.f at h
  split at h
  · rename_i hh
    obtain rfl := Option.some.inj h
    obtain ⟨_, m, hm⟩ := hGMax
    have hc := Lib.countB_le a1 hh.2.1 _ a0 (Nat.le_refl _)
    have hm2 := Nat.mul_le_mul hc hh.2.2
    exact Tryd.strings_Replace a0 a1 a2 a3 m w hh.1 hm hh.2.1 (by omega)
  · exact absurd h (by simp)
end Go.Proofs.YtolpefnedpgaaaaDoor.X

namespace Go.Proofs.YtolpefnedpgaaaaDoor.X
open Go.RowKit Go.Proofs.YtolpefnedpgaaaaDoorW.PrintWords
set_option linter.unusedVariables false
set_option linter.unusedSimpArgs false
/-- strings.TrimLeft, at a cutset of one byte below 128. -/
def strings_TrimLeft.f (s : ByteArray) (p : ByteArray) : Option ByteArray :=
  match p.data.toList with
  | [c] => if c.toNat < 128 then some ⟨(Lib.trimLeftB s.data.toList c).toArray⟩ else none
  | _ => none
theorem strings_TrimLeft.calls (a0 : ByteArray) (a1 : ByteArray) (r : ByteArray) (w : World) (h : strings_TrimLeft.f a0 a1 = some r) :
    Calls Tryd.prog 39 #[.string a0, .string a1] w fun e w' => e = .returned (.string r) ∧ Drawn0 w w' := by
  unfold strings_TrimLeft.f at h
  obtain ⟨⟨l⟩⟩ := a1
  simp only at h
  split at h
  · rename_i c
    split at h
    · rename_i hc
      obtain rfl := Option.some.inj h
      refine (Tryd.strings_TrimLeft_one a0 c hc w).mono ?_
      rintro e w' ⟨rfl, rfl⟩
      exact ⟨rfl, Drawn0.refl _⟩
    · exact absurd h (by simp)
  · exact absurd h (by simp)
end Go.Proofs.YtolpefnedpgaaaaDoor.X

namespace Go.Proofs.YtolpefnedpgaaaaDoor.X
open Go.RowKit Go.Proofs.YtolpefnedpgaaaaDoorW.PrintWords Go.Proofs.YtolpefnedpgaaaaDoorW.PrintLast Go.Proofs.YtolpefnedpgaaaaDoorW.PrintMore
attribute [local go_sem] max2_int min2_int max_two min_two max_three min_three max_four min_four   -- for this text's walks alone
set_option linter.unusedVariables false
set_option linter.unusedSimpArgs false

def attribute_Number.f (k : Nat) (a0 : ByteArray) : Option (Bool) := (strings_Replace.f a0 (⟨#[69]⟩ : ByteArray) (⟨#[101]⟩ : ByteArray) 1).bind fun t130 => ((strings_Cut.f t130 (⟨#[101]⟩ : ByteArray)).bind fun bt131 => ((attribute_sign.f bt131.1).bind fun t134 => ((strings_Cut.f t134 (⟨#[46]⟩ : ByteArray)).bind fun bt135 => (if bt135.1.size + bt135.2.1.size ≤ 9223372036854775807 then ((attribute_all.f k (bt135.1 ++ bt135.2.1) (⟨#[48, 49, 50, 51, 52, 53, 54, 55, 56, 57]⟩ : ByteArray) 38).bind fun t138 => (if t138 = true then (if bt131.2.2 = true then ((attribute_sign.f bt131.2.1).bind fun t139 => ((attribute_all.f k t139 (⟨#[48, 49, 50, 51, 52, 53, 54, 55, 56, 57]⟩ : ByteArray) 3).bind fun t140 => (if t140 = true then (if 0 ≤ (wrap64 ((t139.size : Int) - 1)) then (if (wrap64 ((t139.size : Int) - 1)) ≤ (t139.size : Int) then ((strings_TrimLeft.f (t139.extract 0 ((wrap64 ((t139.size : Int) - 1)) : Int).toNat) (⟨#[48]⟩ : ByteArray)).bind fun t141 => (if t141.size + (t139.extract ((wrap64 ((t139.size : Int) - 1)) : Int).toNat t139.size).size ≤ 9223372036854775807 then ((basic_Atoi.f (t141 ++ (t139.extract ((wrap64 ((t139.size : Int) - 1)) : Int).toNat t139.size))).bind fun bt142 => ((strings_HasPrefix.f bt131.2.1 (⟨#[45]⟩ : ByteArray)).bind fun t144 => (if t144 = true then (some (decide (bt142.1 ≤ 128))) else (some (decide (bt142.1 ≤ 126)))))) else (none))) else (none)) else (none)) else (some false)))) else (some true)) else (some false))) else (none)))))
set_option maxHeartbeats 8000000 in
set_option maxRecDepth 100000 in
theorem attribute_Number.calls (k : Nat) (a0 : ByteArray) (r : Bool) (w : World) (hGMax : GlobMax w) (h : attribute_Number.f k a0 = some r) :
    Calls Tryd.prog 14 #[.string a0] w fun e w' => e = .returned (.bool r) ∧ Below w.heap.size w w' := by
  have HGMax := Aside0.mk hGMax
  clear hGMax
  have HB := Aside0.mk (Below.refl w.heap.size w)
  have H : ((strings_Replace.f a0 (⟨#[69]⟩ : ByteArray) (⟨#[101]⟩ : ByteArray) 1).bind fun t130 => ((strings_Cut.f t130 (⟨#[101]⟩ : ByteArray)).bind fun bt131 => ((attribute_sign.f bt131.1).bind fun t134 => ((strings_Cut.f t134 (⟨#[46]⟩ : ByteArray)).bind fun bt135 => (if bt135.1.size + bt135.2.1.size ≤ 9223372036854775807 then ((attribute_all.f k (bt135.1 ++ bt135.2.1) (⟨#[48, 49, 50, 51, 52, 53, 54, 55, 56, 57]⟩ : ByteArray) 38).bind fun t138 => (if t138 = true then (if bt131.2.2 = true then ((attribute_sign.f bt131.2.1).bind fun t139 => ((attribute_all.f k t139 (⟨#[48, 49, 50, 51, 52, 53, 54, 55, 56, 57]⟩ : ByteArray) 3).bind fun t140 => (if t140 = true then (if 0 ≤ (wrap64 ((t139.size : Int) - 1)) then (if (wrap64 ((t139.size : Int) - 1)) ≤ (t139.size : Int) then ((strings_TrimLeft.f (t139.extract 0 ((wrap64 ((t139.size : Int) - 1)) : Int).toNat) (⟨#[48]⟩ : ByteArray)).bind fun t141 => (if t141.size + (t139.extract ((wrap64 ((t139.size : Int) - 1)) : Int).toNat t139.size).size ≤ 9223372036854775807 then ((basic_Atoi.f (t141 ++ (t139.extract ((wrap64 ((t139.size : Int) - 1)) : Int).toNat t139.size))).bind fun bt142 => ((strings_HasPrefix.f bt131.2.1 (⟨#[45]⟩ : ByteArray)).bind fun t144 => (if t144 = true then (some (decide (bt142.1 ≤ 128))) else (some (decide (bt142.1 ≤ 126)))))) else (none))) else (none)) else (none)) else (some false)))) else (some true)) else (some false))) else (none)))))) = some r := h
  clear h
  replace H := Option.bind_eq_some_iff.mp H
  obtain ⟨t130, A20, H⟩ := H
  replace H : ((strings_Cut.f t130 (⟨#[101]⟩ : ByteArray)).bind fun bt131 => ((attribute_sign.f bt131.1).bind fun t134 => ((strings_Cut.f t134 (⟨#[46]⟩ : ByteArray)).bind fun bt135 => (if bt135.1.size + bt135.2.1.size ≤ 9223372036854775807 then ((attribute_all.f k (bt135.1 ++ bt135.2.1) (⟨#[48, 49, 50, 51, 52, 53, 54, 55, 56, 57]⟩ : ByteArray) 38).bind fun t138 => (if t138 = true then (if bt131.2.2 = true then ((attribute_sign.f bt131.2.1).bind fun t139 => ((attribute_all.f k t139 (⟨#[48, 49, 50, 51, 52, 53, 54, 55, 56, 57]⟩ : ByteArray) 3).bind fun t140 => (if t140 = true then (if 0 ≤ (wrap64 ((t139.size : Int) - 1)) then (if (wrap64 ((t139.size : Int) - 1)) ≤ (t139.size : Int) then ((strings_TrimLeft.f (t139.extract 0 ((wrap64 ((t139.size : Int) - 1)) : Int).toNat) (⟨#[48]⟩ : ByteArray)).bind fun t141 => (if t141.size + (t139.extract ((wrap64 ((t139.size : Int) - 1)) : Int).toNat t139.size).size ≤ 9223372036854775807 then ((basic_Atoi.f (t141 ++ (t139.extract ((wrap64 ((t139.size : Int) - 1)) : Int).toNat t139.size))).bind fun bt142 => ((strings_HasPrefix.f bt131.2.1 (⟨#[45]⟩ : ByteArray)).bind fun t144 => (if t144 = true then (some (decide (bt142.1 ≤ 128))) else (some (decide (bt142.1 ≤ 126)))))) else (none))) else (none)) else (none)) else (some false)))) else (some true)) else (some false))) else (none))))) = some r := H
  have A2 := Aside0.mk A20
  clear A20
  replace H := Option.bind_eq_some_iff.mp H
  obtain ⟨⟨t131, t132, t133⟩, A30, H⟩ := H
  replace H : ((attribute_sign.f t131).bind fun t134 => ((strings_Cut.f t134 (⟨#[46]⟩ : ByteArray)).bind fun bt135 => (if bt135.1.size + bt135.2.1.size ≤ 9223372036854775807 then ((attribute_all.f k (bt135.1 ++ bt135.2.1) (⟨#[48, 49, 50, 51, 52, 53, 54, 55, 56, 57]⟩ : ByteArray) 38).bind fun t138 => (if t138 = true then (if t133 = true then ((attribute_sign.f t132).bind fun t139 => ((attribute_all.f k t139 (⟨#[48, 49, 50, 51, 52, 53, 54, 55, 56, 57]⟩ : ByteArray) 3).bind fun t140 => (if t140 = true then (if 0 ≤ (wrap64 ((t139.size : Int) - 1)) then (if (wrap64 ((t139.size : Int) - 1)) ≤ (t139.size : Int) then ((strings_TrimLeft.f (t139.extract 0 ((wrap64 ((t139.size : Int) - 1)) : Int).toNat) (⟨#[48]⟩ : ByteArray)).bind fun t141 => (if t141.size + (t139.extract ((wrap64 ((t139.size : Int) - 1)) : Int).toNat t139.size).size ≤ 9223372036854775807 then ((basic_Atoi.f (t141 ++ (t139.extract ((wrap64 ((t139.size : Int) - 1)) : Int).toNat t139.size))).bind fun bt142 => ((strings_HasPrefix.f t132 (⟨#[45]⟩ : ByteArray)).bind fun t144 => (if t144 = true then (some (decide (bt142.1 ≤ 128))) else (some (decide (bt142.1 ≤ 126)))))) else (none))) else (none)) else (none)) else (some false)))) else (some true)) else (some false))) else (none)))) = some r := H
  have A3 := Aside0.mk A30
  clear A30
  replace H := Option.bind_eq_some_iff.mp H
  obtain ⟨t134, A40, H⟩ := H
  replace H : ((strings_Cut.f t134 (⟨#[46]⟩ : ByteArray)).bind fun bt135 => (if bt135.1.size + bt135.2.1.size ≤ 9223372036854775807 then ((attribute_all.f k (bt135.1 ++ bt135.2.1) (⟨#[48, 49, 50, 51, 52, 53, 54, 55, 56, 57]⟩ : ByteArray) 38).bind fun t138 => (if t138 = true then (if t133 = true then ((attribute_sign.f t132).bind fun t139 => ((attribute_all.f k t139 (⟨#[48, 49, 50, 51, 52, 53, 54, 55, 56, 57]⟩ : ByteArray) 3).bind fun t140 => (if t140 = true then (if 0 ≤ (wrap64 ((t139.size : Int) - 1)) then (if (wrap64 ((t139.size : Int) - 1)) ≤ (t139.size : Int) then ((strings_TrimLeft.f (t139.extract 0 ((wrap64 ((t139.size : Int) - 1)) : Int).toNat) (⟨#[48]⟩ : ByteArray)).bind fun t141 => (if t141.size + (t139.extract ((wrap64 ((t139.size : Int) - 1)) : Int).toNat t139.size).size ≤ 9223372036854775807 then ((basic_Atoi.f (t141 ++ (t139.extract ((wrap64 ((t139.size : Int) - 1)) : Int).toNat t139.size))).bind fun bt142 => ((strings_HasPrefix.f t132 (⟨#[45]⟩ : ByteArray)).bind fun t144 => (if t144 = true then (some (decide (bt142.1 ≤ 128))) else (some (decide (bt142.1 ≤ 126)))))) else (none))) else (none)) else (none)) else (some false)))) else (some true)) else (some false))) else (none))) = some r := H
  have A4 := Aside0.mk A40
  clear A40
  replace H := Option.bind_eq_some_iff.mp H
  obtain ⟨⟨t135, t136, t137⟩, A50, H⟩ := H
  replace H : (if t135.size + t136.size ≤ 9223372036854775807 then ((attribute_all.f k (t135 ++ t136) (⟨#[48, 49, 50, 51, 52, 53, 54, 55, 56, 57]⟩ : ByteArray) 38).bind fun t138 => (if t138 = true then (if t133 = true then ((attribute_sign.f t132).bind fun t139 => ((attribute_all.f k t139 (⟨#[48, 49, 50, 51, 52, 53, 54, 55, 56, 57]⟩ : ByteArray) 3).bind fun t140 => (if t140 = true then (if 0 ≤ (wrap64 ((t139.size : Int) - 1)) then (if (wrap64 ((t139.size : Int) - 1)) ≤ (t139.size : Int) then ((strings_TrimLeft.f (t139.extract 0 ((wrap64 ((t139.size : Int) - 1)) : Int).toNat) (⟨#[48]⟩ : ByteArray)).bind fun t141 => (if t141.size + (t139.extract ((wrap64 ((t139.size : Int) - 1)) : Int).toNat t139.size).size ≤ 9223372036854775807 then ((basic_Atoi.f (t141 ++ (t139.extract ((wrap64 ((t139.size : Int) - 1)) : Int).toNat t139.size))).bind fun bt142 => ((strings_HasPrefix.f t132 (⟨#[45]⟩ : ByteArray)).bind fun t144 => (if t144 = true then (some (decide (bt142.1 ≤ 128))) else (some (decide (bt142.1 ≤ 126)))))) else (none))) else (none)) else (none)) else (some false)))) else (some true)) else (some false))) else (none)) = some r := H
  have A5 := Aside0.mk A50
  clear A50
  by_cases c6 : t135.size + t136.size ≤ 9223372036854775807
  · rw [if_pos c6] at H
    have c6b0 := eq_true c6
    have c6b1 : decide (t135.size + t136.size ≤ 9223372036854775807) = true := decide_eq_true c6
    try have c6b2 : (9223372036854775807 < t135.size + t136.size) = False := eq_false (Nat.not_lt.2 c6)
    replace H := Option.bind_eq_some_iff.mp H
    obtain ⟨t138, A70, H⟩ := H
    replace H : (if t138 = true then (if t133 = true then ((attribute_sign.f t132).bind fun t139 => ((attribute_all.f k t139 (⟨#[48, 49, 50, 51, 52, 53, 54, 55, 56, 57]⟩ : ByteArray) 3).bind fun t140 => (if t140 = true then (if 0 ≤ (wrap64 ((t139.size : Int) - 1)) then (if (wrap64 ((t139.size : Int) - 1)) ≤ (t139.size : Int) then ((strings_TrimLeft.f (t139.extract 0 ((wrap64 ((t139.size : Int) - 1)) : Int).toNat) (⟨#[48]⟩ : ByteArray)).bind fun t141 => (if t141.size + (t139.extract ((wrap64 ((t139.size : Int) - 1)) : Int).toNat t139.size).size ≤ 9223372036854775807 then ((basic_Atoi.f (t141 ++ (t139.extract ((wrap64 ((t139.size : Int) - 1)) : Int).toNat t139.size))).bind fun bt142 => ((strings_HasPrefix.f t132 (⟨#[45]⟩ : ByteArray)).bind fun t144 => (if t144 = true then (some (decide (bt142.1 ≤ 128))) else (some (decide (bt142.1 ≤ 126)))))) else (none))) else (none)) else (none)) else (some false)))) else (some true)) else (some false)) = some r := H
    have A7 := Aside0.mk A70
    clear A70
    by_cases c8 : t138 = true
    · subst c8
      have H1 : (if t133 = true then ((attribute_sign.f t132).bind fun t139 => ((attribute_all.f k t139 (⟨#[48, 49, 50, 51, 52, 53, 54, 55, 56, 57]⟩ : ByteArray) 3).bind fun t140 => (if t140 = true then (if 0 ≤ (wrap64 ((t139.size : Int) - 1)) then (if (wrap64 ((t139.size : Int) - 1)) ≤ (t139.size : Int) then ((strings_TrimLeft.f (t139.extract 0 ((wrap64 ((t139.size : Int) - 1)) : Int).toNat) (⟨#[48]⟩ : ByteArray)).bind fun t141 => (if t141.size + (t139.extract ((wrap64 ((t139.size : Int) - 1)) : Int).toNat t139.size).size ≤ 9223372036854775807 then ((basic_Atoi.f (t141 ++ (t139.extract ((wrap64 ((t139.size : Int) - 1)) : Int).toNat t139.size))).bind fun bt142 => ((strings_HasPrefix.f t132 (⟨#[45]⟩ : ByteArray)).bind fun t144 => (if t144 = true then (some (decide (bt142.1 ≤ 128))) else (some (decide (bt142.1 ≤ 126)))))) else (none))) else (none)) else (none)) else (some false)))) else (some true)) = some r := by rw [if_pos rfl] at H; exact H
      clear H
      have H := H1
      clear H1
      by_cases c9 : t133 = true
      · subst c9
        have H1 : ((attribute_sign.f t132).bind fun t139 => ((attribute_all.f k t139 (⟨#[48, 49, 50, 51, 52, 53, 54, 55, 56, 57]⟩ : ByteArray) 3).bind fun t140 => (if t140 = true then (if 0 ≤ (wrap64 ((t139.size : Int) - 1)) then (if (wrap64 ((t139.size : Int) - 1)) ≤ (t139.size : Int) then ((strings_TrimLeft.f (t139.extract 0 ((wrap64 ((t139.size : Int) - 1)) : Int).toNat) (⟨#[48]⟩ : ByteArray)).bind fun t141 => (if t141.size + (t139.extract ((wrap64 ((t139.size : Int) - 1)) : Int).toNat t139.size).size ≤ 9223372036854775807 then ((basic_Atoi.f (t141 ++ (t139.extract ((wrap64 ((t139.size : Int) - 1)) : Int).toNat t139.size))).bind fun bt142 => ((strings_HasPrefix.f t132 (⟨#[45]⟩ : ByteArray)).bind fun t144 => (if t144 = true then (some (decide (bt142.1 ≤ 128))) else (some (decide (bt142.1 ≤ 126)))))) else (none))) else (none)) else (none)) else (some false)))) = some r := by rw [if_pos rfl] at H; exact H
        clear H
        have H := H1
        clear H1
        replace H := Option.bind_eq_some_iff.mp H
        obtain ⟨t139, A100, H⟩ := H
        replace H : ((attribute_all.f k t139 (⟨#[48, 49, 50, 51, 52, 53, 54, 55, 56, 57]⟩ : ByteArray) 3).bind fun t140 => (if t140 = true then (if 0 ≤ (wrap64 ((t139.size : Int) - 1)) then (if (wrap64 ((t139.size : Int) - 1)) ≤ (t139.size : Int) then ((strings_TrimLeft.f (t139.extract 0 ((wrap64 ((t139.size : Int) - 1)) : Int).toNat) (⟨#[48]⟩ : ByteArray)).bind fun t141 => (if t141.size + (t139.extract ((wrap64 ((t139.size : Int) - 1)) : Int).toNat t139.size).size ≤ 9223372036854775807 then ((basic_Atoi.f (t141 ++ (t139.extract ((wrap64 ((t139.size : Int) - 1)) : Int).toNat t139.size))).bind fun bt142 => ((strings_HasPrefix.f t132 (⟨#[45]⟩ : ByteArray)).bind fun t144 => (if t144 = true then (some (decide (bt142.1 ≤ 128))) else (some (decide (bt142.1 ≤ 126)))))) else (none))) else (none)) else (none)) else (some false))) = some r := H
        have A10 := Aside0.mk A100
        clear A100
        replace H := Option.bind_eq_some_iff.mp H
        obtain ⟨t140, A110, H⟩ := H
        replace H : (if t140 = true then (if 0 ≤ (wrap64 ((t139.size : Int) - 1)) then (if (wrap64 ((t139.size : Int) - 1)) ≤ (t139.size : Int) then ((strings_TrimLeft.f (t139.extract 0 ((wrap64 ((t139.size : Int) - 1)) : Int).toNat) (⟨#[48]⟩ : ByteArray)).bind fun t141 => (if t141.size + (t139.extract ((wrap64 ((t139.size : Int) - 1)) : Int).toNat t139.size).size ≤ 9223372036854775807 then ((basic_Atoi.f (t141 ++ (t139.extract ((wrap64 ((t139.size : Int) - 1)) : Int).toNat t139.size))).bind fun bt142 => ((strings_HasPrefix.f t132 (⟨#[45]⟩ : ByteArray)).bind fun t144 => (if t144 = true then (some (decide (bt142.1 ≤ 128))) else (some (decide (bt142.1 ≤ 126)))))) else (none))) else (none)) else (none)) else (some false)) = some r := H
        have A11 := Aside0.mk A110
        clear A110
        by_cases c12 : t140 = true
        · subst c12
          have H1 : (if 0 ≤ (wrap64 ((t139.size : Int) - 1)) then (if (wrap64 ((t139.size : Int) - 1)) ≤ (t139.size : Int) then ((strings_TrimLeft.f (t139.extract 0 ((wrap64 ((t139.size : Int) - 1)) : Int).toNat) (⟨#[48]⟩ : ByteArray)).bind fun t141 => (if t141.size + (t139.extract ((wrap64 ((t139.size : Int) - 1)) : Int).toNat t139.size).size ≤ 9223372036854775807 then ((basic_Atoi.f (t141 ++ (t139.extract ((wrap64 ((t139.size : Int) - 1)) : Int).toNat t139.size))).bind fun bt142 => ((strings_HasPrefix.f t132 (⟨#[45]⟩ : ByteArray)).bind fun t144 => (if t144 = true then (some (decide (bt142.1 ≤ 128))) else (some (decide (bt142.1 ≤ 126)))))) else (none))) else (none)) else (none)) = some r := by rw [if_pos rfl] at H; exact H
          clear H
          have H := H1
          clear H1
          obtain ⟨ji13, hji13⟩ : ∃ j_ : Int, (wrap64 ((t139.size : Int) - 1)) = j_ := ⟨_, rfl⟩
          replace H : (if 0 ≤ (ji13) then (if (ji13) ≤ (t139.size : Int) then ((strings_TrimLeft.f (t139.extract 0 ((ji13) : Int).toNat) (⟨#[48]⟩ : ByteArray)).bind fun t141 => (if t141.size + (t139.extract ((ji13) : Int).toNat t139.size).size ≤ 9223372036854775807 then ((basic_Atoi.f (t141 ++ (t139.extract ((ji13) : Int).toNat t139.size))).bind fun bt142 => ((strings_HasPrefix.f t132 (⟨#[45]⟩ : ByteArray)).bind fun t144 => (if t144 = true then (some (decide (bt142.1 ≤ 128))) else (some (decide (bt142.1 ≤ 126)))))) else (none))) else (none)) else (none)) = some r := by first | (rw [hji13] at H; exact H) | (simp only [hji13] at H ⊢; exact H)
          (try rw [hji13] at A2)
          (try rw [hji13] at A3)
          (try rw [hji13] at A4)
          (try rw [hji13] at A5)
          (try rw [hji13] at A7)
          (try rw [hji13] at A10)
          (try rw [hji13] at A11)
          have hji13w : (IntKind.i64.wrap ((t139.size : Int) - 1)) = ji13 := (i64_w _).trans hji13
          by_cases c14 : 0 ≤ (ji13)
          · rw [if_pos c14] at H
            have c14b0 := eq_true c14
            have c14b1 : decide (0 ≤ (ji13)) = true := decide_eq_true c14
            clear c14
            by_cases c15 : (ji13) ≤ (t139.size : Int)
            · rw [if_pos c15] at H
              have c15b0 := eq_true c15
              have c15b1 : decide ((ji13) ≤ (t139.size : Int)) = true := decide_eq_true c15
              clear c15
              replace H := Option.bind_eq_some_iff.mp H
              obtain ⟨t141, A160, H⟩ := H
              replace H : (if t141.size + (t139.extract ((ji13) : Int).toNat t139.size).size ≤ 9223372036854775807 then ((basic_Atoi.f (t141 ++ (t139.extract ((ji13) : Int).toNat t139.size))).bind fun bt142 => ((strings_HasPrefix.f t132 (⟨#[45]⟩ : ByteArray)).bind fun t144 => (if t144 = true then (some (decide (bt142.1 ≤ 128))) else (some (decide (bt142.1 ≤ 126)))))) else (none)) = some r := H
              have A16 := Aside0.mk A160
              clear A160
              have c17b0 := eq_true (of_decide_eq_true (by first | (with_reducible assumption) | assumption) : 0 ≤ (ji13))
              have c18b0 := eq_true (of_decide_eq_true (by first | (with_reducible assumption) | assumption) : (ji13) ≤ (t139.size : Int))
              by_cases c19 : t141.size + (t139.extract ((ji13) : Int).toNat t139.size).size ≤ 9223372036854775807
              · rw [if_pos c19] at H
                have c19b0 := eq_true c19
                have c19b1 : decide (t141.size + (t139.extract ((ji13) : Int).toNat t139.size).size ≤ 9223372036854775807) = true := decide_eq_true c19
                try have c19b2 : (9223372036854775807 < t141.size + (t139.extract ((ji13) : Int).toNat t139.size).size) = False := eq_false (Nat.not_lt.2 c19)
                replace H := Option.bind_eq_some_iff.mp H
                obtain ⟨⟨t142, t143⟩, A200, H⟩ := H
                replace H : ((strings_HasPrefix.f t132 (⟨#[45]⟩ : ByteArray)).bind fun t144 => (if t144 = true then (some (decide (t142 ≤ 128))) else (some (decide (t142 ≤ 126))))) = some r := H
                have A20 := Aside0.mk A200
                clear A200
                replace H := Option.bind_eq_some_iff.mp H
                obtain ⟨t144, A210, H⟩ := H
                replace H : (if t144 = true then (some (decide (t142 ≤ 128))) else (some (decide (t142 ≤ 126)))) = some r := H
                have A21 := Aside0.mk A210
                clear A210
                by_cases c22 : t144 = true
                · subst c22
                  have H1 : (some (decide (t142 ≤ 128))) = some r := by rw [if_pos rfl] at H; exact H
                  clear H
                  have H := H1
                  clear H1
                  obtain rfl := Option.some.inj H
                  go_enter Tryd.func14, Tryd.ntmps14
                  go_wp2_with (first | (go_at_call 36; (with_reducible refine (strings_Replace.calls a0 (⟨#[69]⟩ : ByteArray) (⟨#[101]⟩ : ByteArray) 1 t130 _ ?side1 A2.out).mono ?_); (case side1 => first | exact HGMax.out | exact GlobMax.below HGMax.out (by repeat (first | (with_reducible first | exact HB.out | apply below_alloc | apply pw_below_drewN | apply below_drew1) | exact HB.out)) | exact GlobMax.drawn HGMax.out (by repeat (first | exact Drawn0.refl _ | apply Drawn0.step))); rintro e w23 ⟨rfl, hb⟩; have n0_ := Aside0.mk (below_step (by repeat (first | (with_reducible first | exact HB.out | apply below_alloc | apply pw_below_drewN | apply below_drew1) | exact HB.out)) hb); clear HB; have HB := n0_; clear n0_; (try clear hb); (try clear hb2); (try clear hk); (try clear hi)) | (go_at_call 35; (with_reducible refine (strings_Cut.calls t130 (⟨#[101]⟩ : ByteArray) t131 t132 true _ ?side1 A3.out).mono ?_); (case side1 => first | exact HGMax.out | exact GlobMax.below HGMax.out (by repeat (first | (with_reducible first | exact HB.out | apply below_alloc | apply pw_below_drewN | apply below_drew1) | exact HB.out)) | exact GlobMax.drawn HGMax.out (by repeat (first | exact Drawn0.refl _ | apply Drawn0.step))); rintro e w' ⟨rfl, ⟨nd, rfl⟩⟩; (try first | exact ⟨rfl, _, World.drewN_drewN _ _ _⟩ | exact ⟨rfl, _, Eq.trans (World.drewN_drewN _ _ _) (congrArg (World.drewN _) (Nat.add_assoc _ _ _))⟩)) | (go_at_call 37; (with_reducible refine (attribute_sign.calls t131 t134 _ A4.out).mono ?_); rintro e w' ⟨rfl, ⟨nd, rfl⟩⟩; (try first | exact ⟨rfl, _, World.drewN_drewN _ _ _⟩ | exact ⟨rfl, _, Eq.trans (World.drewN_drewN _ _ _) (congrArg (World.drewN _) (Nat.add_assoc _ _ _))⟩)) | (go_at_call 35; (with_reducible refine (strings_Cut.calls t134 (⟨#[46]⟩ : ByteArray) t135 t136 t137 _ ?side1 A5.out).mono ?_); (case side1 => first | exact HGMax.out | exact GlobMax.below HGMax.out (by repeat (first | (with_reducible first | exact HB.out | apply below_alloc | apply pw_below_drewN | apply below_drew1) | exact HB.out)) | exact GlobMax.drawn HGMax.out (by repeat (first | exact Drawn0.refl _ | apply Drawn0.step))); rintro e w' ⟨rfl, ⟨nd, rfl⟩⟩; (try first | exact ⟨rfl, _, World.drewN_drewN _ _ _⟩ | exact ⟨rfl, _, Eq.trans (World.drewN_drewN _ _ _) (congrArg (World.drewN _) (Nat.add_assoc _ _ _))⟩)) | (go_at_call 30; (with_reducible refine (attribute_all.calls k (t135 ++ t136) (⟨#[48, 49, 50, 51, 52, 53, 54, 55, 56, 57]⟩ : ByteArray) 38 true _ A7.out).mono ?_); rintro e w' ⟨rfl, ⟨nd, rfl⟩⟩; (try first | exact ⟨rfl, _, World.drewN_drewN _ _ _⟩ | exact ⟨rfl, _, Eq.trans (World.drewN_drewN _ _ _) (congrArg (World.drewN _) (Nat.add_assoc _ _ _))⟩)) | (go_at_call 37; (with_reducible refine (attribute_sign.calls t132 t139 _ A10.out).mono ?_); rintro e w' ⟨rfl, ⟨nd, rfl⟩⟩; (try first | exact ⟨rfl, _, World.drewN_drewN _ _ _⟩ | exact ⟨rfl, _, Eq.trans (World.drewN_drewN _ _ _) (congrArg (World.drewN _) (Nat.add_assoc _ _ _))⟩)) | (go_at_call 30; (with_reducible refine (attribute_all.calls k t139 (⟨#[48, 49, 50, 51, 52, 53, 54, 55, 56, 57]⟩ : ByteArray) 3 true _ A11.out).mono ?_); rintro e w' ⟨rfl, ⟨nd, rfl⟩⟩; (try first | exact ⟨rfl, _, World.drewN_drewN _ _ _⟩ | exact ⟨rfl, _, Eq.trans (World.drewN_drewN _ _ _) (congrArg (World.drewN _) (Nat.add_assoc _ _ _))⟩)) | (go_at_call 39; (with_reducible refine (strings_TrimLeft.calls (t139.extract 0 ((ji13) : Int).toNat) (⟨#[48]⟩ : ByteArray) t141 _ A16.out).mono ?_); rintro e w' ⟨rfl, ⟨nd, rfl⟩⟩; (try first | exact ⟨rfl, _, World.drewN_drewN _ _ _⟩ | exact ⟨rfl, _, Eq.trans (World.drewN_drewN _ _ _) (congrArg (World.drewN _) (Nat.add_assoc _ _ _))⟩)) | (go_at_call 38; (with_reducible refine (basic_Atoi.calls (t141 ++ (t139.extract ((ji13) : Int).toNat t139.size)) t142 t143 _ A20.out).mono ?_); rintro e w' ⟨rfl, ⟨nd, rfl⟩⟩; (try first | exact ⟨rfl, _, World.drewN_drewN _ _ _⟩ | exact ⟨rfl, _, Eq.trans (World.drewN_drewN _ _ _) (congrArg (World.drewN _) (Nat.add_assoc _ _ _))⟩)) | (go_at_call 40; (with_reducible refine (strings_HasPrefix.calls t132 (⟨#[45]⟩ : ByteArray) true _ A21.out).mono ?_); rintro e w' ⟨rfl, ⟨nd, rfl⟩⟩; (try first | exact ⟨rfl, _, World.drewN_drewN _ _ _⟩ | exact ⟨rfl, _, Eq.trans (World.drewN_drewN _ _ _) (congrArg (World.drewN _) (Nat.add_assoc _ _ _))⟩)))
                  repeat (go_quiet (first | (go_at_call 36; (with_reducible refine (strings_Replace.calls a0 (⟨#[69]⟩ : ByteArray) (⟨#[101]⟩ : ByteArray) 1 t130 _ ?side1 A2.out).mono ?_); (case side1 => first | exact HGMax.out | exact GlobMax.below HGMax.out (by repeat (first | (with_reducible first | exact HB.out | apply below_alloc | apply pw_below_drewN | apply below_drew1) | exact HB.out)) | exact GlobMax.drawn HGMax.out (by repeat (first | exact Drawn0.refl _ | apply Drawn0.step))); rintro e w23 ⟨rfl, hb⟩; have n0_ := Aside0.mk (below_step (by repeat (first | (with_reducible first | exact HB.out | apply below_alloc | apply pw_below_drewN | apply below_drew1) | exact HB.out)) hb); clear HB; have HB := n0_; clear n0_; (try clear hb); (try clear hb2); (try clear hk); (try clear hi)) | (go_at_call 35; (with_reducible refine (strings_Cut.calls t130 (⟨#[101]⟩ : ByteArray) t131 t132 true _ ?side1 A3.out).mono ?_); (case side1 => first | exact HGMax.out | exact GlobMax.below HGMax.out (by repeat (first | (with_reducible first | exact HB.out | apply below_alloc | apply pw_below_drewN | apply below_drew1) | exact HB.out)) | exact GlobMax.drawn HGMax.out (by repeat (first | exact Drawn0.refl _ | apply Drawn0.step))); rintro e w' ⟨rfl, ⟨nd, rfl⟩⟩; (try first | exact ⟨rfl, _, World.drewN_drewN _ _ _⟩ | exact ⟨rfl, _, Eq.trans (World.drewN_drewN _ _ _) (congrArg (World.drewN _) (Nat.add_assoc _ _ _))⟩)) | (go_at_call 37; (with_reducible refine (attribute_sign.calls t131 t134 _ A4.out).mono ?_); rintro e w' ⟨rfl, ⟨nd, rfl⟩⟩; (try first | exact ⟨rfl, _, World.drewN_drewN _ _ _⟩ | exact ⟨rfl, _, Eq.trans (World.drewN_drewN _ _ _) (congrArg (World.drewN _) (Nat.add_assoc _ _ _))⟩)) | (go_at_call 35; (with_reducible refine (strings_Cut.calls t134 (⟨#[46]⟩ : ByteArray) t135 t136 t137 _ ?side1 A5.out).mono ?_); (case side1 => first | exact HGMax.out | exact GlobMax.below HGMax.out (by repeat (first | (with_reducible first | exact HB.out | apply below_alloc | apply pw_below_drewN | apply below_drew1) | exact HB.out)) | exact GlobMax.drawn HGMax.out (by repeat (first | exact Drawn0.refl _ | apply Drawn0.step))); rintro e w' ⟨rfl, ⟨nd, rfl⟩⟩; (try first | exact ⟨rfl, _, World.drewN_drewN _ _ _⟩ | exact ⟨rfl, _, Eq.trans (World.drewN_drewN _ _ _) (congrArg (World.drewN _) (Nat.add_assoc _ _ _))⟩)) | (go_at_call 30; (with_reducible refine (attribute_all.calls k (t135 ++ t136) (⟨#[48, 49, 50, 51, 52, 53, 54, 55, 56, 57]⟩ : ByteArray) 38 true _ A7.out).mono ?_); rintro e w' ⟨rfl, ⟨nd, rfl⟩⟩; (try first | exact ⟨rfl, _, World.drewN_drewN _ _ _⟩ | exact ⟨rfl, _, Eq.trans (World.drewN_drewN _ _ _) (congrArg (World.drewN _) (Nat.add_assoc _ _ _))⟩)) | (go_at_call 37; (with_reducible refine (attribute_sign.calls t132 t139 _ A10.out).mono ?_); rintro e w' ⟨rfl, ⟨nd, rfl⟩⟩; (try first | exact ⟨rfl, _, World.drewN_drewN _ _ _⟩ | exact ⟨rfl, _, Eq.trans (World.drewN_drewN _ _ _) (congrArg (World.drewN _) (Nat.add_assoc _ _ _))⟩)) | (go_at_call 30; (with_reducible refine (attribute_all.calls k t139 (⟨#[48, 49, 50, 51, 52, 53, 54, 55, 56, 57]⟩ : ByteArray) 3 true _ A11.out).mono ?_); rintro e w' ⟨rfl, ⟨nd, rfl⟩⟩; (try first | exact ⟨rfl, _, World.drewN_drewN _ _ _⟩ | exact ⟨rfl, _, Eq.trans (World.drewN_drewN _ _ _) (congrArg (World.drewN _) (Nat.add_assoc _ _ _))⟩)) | (go_at_call 39; (with_reducible refine (strings_TrimLeft.calls (t139.extract 0 ((ji13) : Int).toNat) (⟨#[48]⟩ : ByteArray) t141 _ A16.out).mono ?_); rintro e w' ⟨rfl, ⟨nd, rfl⟩⟩; (try first | exact ⟨rfl, _, World.drewN_drewN _ _ _⟩ | exact ⟨rfl, _, Eq.trans (World.drewN_drewN _ _ _) (congrArg (World.drewN _) (Nat.add_assoc _ _ _))⟩)) | (go_at_call 38; (with_reducible refine (basic_Atoi.calls (t141 ++ (t139.extract ((ji13) : Int).toNat t139.size)) t142 t143 _ A20.out).mono ?_); rintro e w' ⟨rfl, ⟨nd, rfl⟩⟩; (try first | exact ⟨rfl, _, World.drewN_drewN _ _ _⟩ | exact ⟨rfl, _, Eq.trans (World.drewN_drewN _ _ _) (congrArg (World.drewN _) (Nat.add_assoc _ _ _))⟩)) | (go_at_call 40; (with_reducible refine (strings_HasPrefix.calls t132 (⟨#[45]⟩ : ByteArray) true _ A21.out).mono ?_); rintro e w' ⟨rfl, ⟨nd, rfl⟩⟩; (try first | exact ⟨rfl, _, World.drewN_drewN _ _ _⟩ | exact ⟨rfl, _, Eq.trans (World.drewN_drewN _ _ _) (congrArg (World.drewN _) (Nat.add_assoc _ _ _))⟩))); try go_wp2_with (first | (go_at_call 36; (with_reducible refine (strings_Replace.calls a0 (⟨#[69]⟩ : ByteArray) (⟨#[101]⟩ : ByteArray) 1 t130 _ ?side1 A2.out).mono ?_); (case side1 => first | exact HGMax.out | exact GlobMax.below HGMax.out (by repeat (first | (with_reducible first | exact HB.out | apply below_alloc | apply pw_below_drewN | apply below_drew1) | exact HB.out)) | exact GlobMax.drawn HGMax.out (by repeat (first | exact Drawn0.refl _ | apply Drawn0.step))); rintro e w23 ⟨rfl, hb⟩; have n0_ := Aside0.mk (below_step (by repeat (first | (with_reducible first | exact HB.out | apply below_alloc | apply pw_below_drewN | apply below_drew1) | exact HB.out)) hb); clear HB; have HB := n0_; clear n0_; (try clear hb); (try clear hb2); (try clear hk); (try clear hi)) | (go_at_call 35; (with_reducible refine (strings_Cut.calls t130 (⟨#[101]⟩ : ByteArray) t131 t132 true _ ?side1 A3.out).mono ?_); (case side1 => first | exact HGMax.out | exact GlobMax.below HGMax.out (by repeat (first | (with_reducible first | exact HB.out | apply below_alloc | apply pw_below_drewN | apply below_drew1) | exact HB.out)) | exact GlobMax.drawn HGMax.out (by repeat (first | exact Drawn0.refl _ | apply Drawn0.step))); rintro e w' ⟨rfl, ⟨nd, rfl⟩⟩; (try first | exact ⟨rfl, _, World.drewN_drewN _ _ _⟩ | exact ⟨rfl, _, Eq.trans (World.drewN_drewN _ _ _) (congrArg (World.drewN _) (Nat.add_assoc _ _ _))⟩)) | (go_at_call 37; (with_reducible refine (attribute_sign.calls t131 t134 _ A4.out).mono ?_); rintro e w' ⟨rfl, ⟨nd, rfl⟩⟩; (try first | exact ⟨rfl, _, World.drewN_drewN _ _ _⟩ | exact ⟨rfl, _, Eq.trans (World.drewN_drewN _ _ _) (congrArg (World.drewN _) (Nat.add_assoc _ _ _))⟩)) | (go_at_call 35; (with_reducible refine (strings_Cut.calls t134 (⟨#[46]⟩ : ByteArray) t135 t136 t137 _ ?side1 A5.out).mono ?_); (case side1 => first | exact HGMax.out | exact GlobMax.below HGMax.out (by repeat (first | (with_reducible first | exact HB.out | apply below_alloc | apply pw_below_drewN | apply below_drew1) | exact HB.out)) | exact GlobMax.drawn HGMax.out (by repeat (first | exact Drawn0.refl _ | apply Drawn0.step))); rintro e w' ⟨rfl, ⟨nd, rfl⟩⟩; (try first | exact ⟨rfl, _, World.drewN_drewN _ _ _⟩ | exact ⟨rfl, _, Eq.trans (World.drewN_drewN _ _ _) (congrArg (World.drewN _) (Nat.add_assoc _ _ _))⟩)) | (go_at_call 30; (with_reducible refine (attribute_all.calls k (t135 ++ t136) (⟨#[48, 49, 50, 51, 52, 53, 54, 55, 56, 57]⟩ : ByteArray) 38 true _ A7.out).mono ?_); rintro e w' ⟨rfl, ⟨nd, rfl⟩⟩; (try first | exact ⟨rfl, _, World.drewN_drewN _ _ _⟩ | exact ⟨rfl, _, Eq.trans (World.drewN_drewN _ _ _) (congrArg (World.drewN _) (Nat.add_assoc _ _ _))⟩)) | (go_at_call 37; (with_reducible refine (attribute_sign.calls t132 t139 _ A10.out).mono ?_); rintro e w' ⟨rfl, ⟨nd, rfl⟩⟩; (try first | exact ⟨rfl, _, World.drewN_drewN _ _ _⟩ | exact ⟨rfl, _, Eq.trans (World.drewN_drewN _ _ _) (congrArg (World.drewN _) (Nat.add_assoc _ _ _))⟩)) | (go_at_call 30; (with_reducible refine (attribute_all.calls k t139 (⟨#[48, 49, 50, 51, 52, 53, 54, 55, 56, 57]⟩ : ByteArray) 3 true _ A11.out).mono ?_); rintro e w' ⟨rfl, ⟨nd, rfl⟩⟩; (try first | exact ⟨rfl, _, World.drewN_drewN _ _ _⟩ | exact ⟨rfl, _, Eq.trans (World.drewN_drewN _ _ _) (congrArg (World.drewN _) (Nat.add_assoc _ _ _))⟩)) | (go_at_call 39; (with_reducible refine (strings_TrimLeft.calls (t139.extract 0 ((ji13) : Int).toNat) (⟨#[48]⟩ : ByteArray) t141 _ A16.out).mono ?_); rintro e w' ⟨rfl, ⟨nd, rfl⟩⟩; (try first | exact ⟨rfl, _, World.drewN_drewN _ _ _⟩ | exact ⟨rfl, _, Eq.trans (World.drewN_drewN _ _ _) (congrArg (World.drewN _) (Nat.add_assoc _ _ _))⟩)) | (go_at_call 38; (with_reducible refine (basic_Atoi.calls (t141 ++ (t139.extract ((ji13) : Int).toNat t139.size)) t142 t143 _ A20.out).mono ?_); rintro e w' ⟨rfl, ⟨nd, rfl⟩⟩; (try first | exact ⟨rfl, _, World.drewN_drewN _ _ _⟩ | exact ⟨rfl, _, Eq.trans (World.drewN_drewN _ _ _) (congrArg (World.drewN _) (Nat.add_assoc _ _ _))⟩)) | (go_at_call 40; (with_reducible refine (strings_HasPrefix.calls t132 (⟨#[45]⟩ : ByteArray) true _ A21.out).mono ?_); rintro e w' ⟨rfl, ⟨nd, rfl⟩⟩; (try first | exact ⟨rfl, _, World.drewN_drewN _ _ _⟩ | exact ⟨rfl, _, Eq.trans (World.drewN_drewN _ _ _) (congrArg (World.drewN _) (Nat.add_assoc _ _ _))⟩))))
                  go_ret
                  exact ⟨by first | rfl | (simp [errW_none, errW_some] <;> rfl) | (simp only [← hji13]; first | rfl | (simp [errW_none, errW_some] <;> rfl)) | (simp [*, errW_none, errW_some] <;> rfl), by repeat (first | (with_reducible first | exact HB.out | apply below_alloc | apply pw_below_drewN | apply below_drew1) | exact HB.out)⟩
                · replace c22 := Bool.eq_false_iff.mpr c22
                  subst c22
                  have H1 : (some (decide (t142 ≤ 126))) = some r := by rw [if_neg (show ¬ (false = true) by decide)] at H; exact H
                  clear H
                  have H := H1
                  clear H1
                  obtain rfl := Option.some.inj H
                  go_enter Tryd.func14, Tryd.ntmps14
                  go_wp2_with (first | (go_at_call 36; (with_reducible refine (strings_Replace.calls a0 (⟨#[69]⟩ : ByteArray) (⟨#[101]⟩ : ByteArray) 1 t130 _ ?side1 A2.out).mono ?_); (case side1 => first | exact HGMax.out | exact GlobMax.below HGMax.out (by repeat (first | (with_reducible first | exact HB.out | apply below_alloc | apply pw_below_drewN | apply below_drew1) | exact HB.out)) | exact GlobMax.drawn HGMax.out (by repeat (first | exact Drawn0.refl _ | apply Drawn0.step))); rintro e w24 ⟨rfl, hb⟩; have n0_ := Aside0.mk (below_step (by repeat (first | (with_reducible first | exact HB.out | apply below_alloc | apply pw_below_drewN | apply below_drew1) | exact HB.out)) hb); clear HB; have HB := n0_; clear n0_; (try clear hb); (try clear hb2); (try clear hk); (try clear hi)) | (go_at_call 35; (with_reducible refine (strings_Cut.calls t130 (⟨#[101]⟩ : ByteArray) t131 t132 true _ ?side1 A3.out).mono ?_); (case side1 => first | exact HGMax.out | exact GlobMax.below HGMax.out (by repeat (first | (with_reducible first | exact HB.out | apply below_alloc | apply pw_below_drewN | apply below_drew1) | exact HB.out)) | exact GlobMax.drawn HGMax.out (by repeat (first | exact Drawn0.refl _ | apply Drawn0.step))); rintro e w' ⟨rfl, ⟨nd, rfl⟩⟩; (try first | exact ⟨rfl, _, World.drewN_drewN _ _ _⟩ | exact ⟨rfl, _, Eq.trans (World.drewN_drewN _ _ _) (congrArg (World.drewN _) (Nat.add_assoc _ _ _))⟩)) | (go_at_call 37; (with_reducible refine (attribute_sign.calls t131 t134 _ A4.out).mono ?_); rintro e w' ⟨rfl, ⟨nd, rfl⟩⟩; (try first | exact ⟨rfl, _, World.drewN_drewN _ _ _⟩ | exact ⟨rfl, _, Eq.trans (World.drewN_drewN _ _ _) (congrArg (World.drewN _) (Nat.add_assoc _ _ _))⟩)) | (go_at_call 35; (with_reducible refine (strings_Cut.calls t134 (⟨#[46]⟩ : ByteArray) t135 t136 t137 _ ?side1 A5.out).mono ?_); (case side1 => first | exact HGMax.out | exact GlobMax.below HGMax.out (by repeat (first | (with_reducible first | exact HB.out | apply below_alloc | apply pw_below_drewN | apply below_drew1) | exact HB.out)) | exact GlobMax.drawn HGMax.out (by repeat (first | exact Drawn0.refl _ | apply Drawn0.step))); rintro e w' ⟨rfl, ⟨nd, rfl⟩⟩; (try first | exact ⟨rfl, _, World.drewN_drewN _ _ _⟩ | exact ⟨rfl, _, Eq.trans (World.drewN_drewN _ _ _) (congrArg (World.drewN _) (Nat.add_assoc _ _ _))⟩)) | (go_at_call 30; (with_reducible refine (attribute_all.calls k (t135 ++ t136) (⟨#[48, 49, 50, 51, 52, 53, 54, 55, 56, 57]⟩ : ByteArray) 38 true _ A7.out).mono ?_); rintro e w' ⟨rfl, ⟨nd, rfl⟩⟩; (try first | exact ⟨rfl, _, World.drewN_drewN _ _ _⟩ | exact ⟨rfl, _, Eq.trans (World.drewN_drewN _ _ _) (congrArg (World.drewN _) (Nat.add_assoc _ _ _))⟩)) | (go_at_call 37; (with_reducible refine (attribute_sign.calls t132 t139 _ A10.out).mono ?_); rintro e w' ⟨rfl, ⟨nd, rfl⟩⟩; (try first | exact ⟨rfl, _, World.drewN_drewN _ _ _⟩ | exact ⟨rfl, _, Eq.trans (World.drewN_drewN _ _ _) (congrArg (World.drewN _) (Nat.add_assoc _ _ _))⟩)) | (go_at_call 30; (with_reducible refine (attribute_all.calls k t139 (⟨#[48, 49, 50, 51, 52, 53, 54, 55, 56, 57]⟩ : ByteArray) 3 true _ A11.out).mono ?_); rintro e w' ⟨rfl, ⟨nd, rfl⟩⟩; (try first | exact ⟨rfl, _, World.drewN_drewN _ _ _⟩ | exact ⟨rfl, _, Eq.trans (World.drewN_drewN _ _ _) (congrArg (World.drewN _) (Nat.add_assoc _ _ _))⟩)) | (go_at_call 39; (with_reducible refine (strings_TrimLeft.calls (t139.extract 0 ((ji13) : Int).toNat) (⟨#[48]⟩ : ByteArray) t141 _ A16.out).mono ?_); rintro e w' ⟨rfl, ⟨nd, rfl⟩⟩; (try first | exact ⟨rfl, _, World.drewN_drewN _ _ _⟩ | exact ⟨rfl, _, Eq.trans (World.drewN_drewN _ _ _) (congrArg (World.drewN _) (Nat.add_assoc _ _ _))⟩)) | (go_at_call 38; (with_reducible refine (basic_Atoi.calls (t141 ++ (t139.extract ((ji13) : Int).toNat t139.size)) t142 t143 _ A20.out).mono ?_); rintro e w' ⟨rfl, ⟨nd, rfl⟩⟩; (try first | exact ⟨rfl, _, World.drewN_drewN _ _ _⟩ | exact ⟨rfl, _, Eq.trans (World.drewN_drewN _ _ _) (congrArg (World.drewN _) (Nat.add_assoc _ _ _))⟩)) | (go_at_call 40; (with_reducible refine (strings_HasPrefix.calls t132 (⟨#[45]⟩ : ByteArray) false _ A21.out).mono ?_); rintro e w' ⟨rfl, ⟨nd, rfl⟩⟩; (try first | exact ⟨rfl, _, World.drewN_drewN _ _ _⟩ | exact ⟨rfl, _, Eq.trans (World.drewN_drewN _ _ _) (congrArg (World.drewN _) (Nat.add_assoc _ _ _))⟩)))
                  repeat (go_quiet (first | (go_at_call 36; (with_reducible refine (strings_Replace.calls a0 (⟨#[69]⟩ : ByteArray) (⟨#[101]⟩ : ByteArray) 1 t130 _ ?side1 A2.out).mono ?_); (case side1 => first | exact HGMax.out | exact GlobMax.below HGMax.out (by repeat (first | (with_reducible first | exact HB.out | apply below_alloc | apply pw_below_drewN | apply below_drew1) | exact HB.out)) | exact GlobMax.drawn HGMax.out (by repeat (first | exact Drawn0.refl _ | apply Drawn0.step))); rintro e w24 ⟨rfl, hb⟩; have n0_ := Aside0.mk (below_step (by repeat (first | (with_reducible first | exact HB.out | apply below_alloc | apply pw_below_drewN | apply below_drew1) | exact HB.out)) hb); clear HB; have HB := n0_; clear n0_; (try clear hb); (try clear hb2); (try clear hk); (try clear hi)) | (go_at_call 35; (with_reducible refine (strings_Cut.calls t130 (⟨#[101]⟩ : ByteArray) t131 t132 true _ ?side1 A3.out).mono ?_); (case side1 => first | exact HGMax.out | exact GlobMax.below HGMax.out (by repeat (first | (with_reducible first | exact HB.out | apply below_alloc | apply pw_below_drewN | apply below_drew1) | exact HB.out)) | exact GlobMax.drawn HGMax.out (by repeat (first | exact Drawn0.refl _ | apply Drawn0.step))); rintro e w' ⟨rfl, ⟨nd, rfl⟩⟩; (try first | exact ⟨rfl, _, World.drewN_drewN _ _ _⟩ | exact ⟨rfl, _, Eq.trans (World.drewN_drewN _ _ _) (congrArg (World.drewN _) (Nat.add_assoc _ _ _))⟩)) | (go_at_call 37; (with_reducible refine (attribute_sign.calls t131 t134 _ A4.out).mono ?_); rintro e w' ⟨rfl, ⟨nd, rfl⟩⟩; (try first | exact ⟨rfl, _, World.drewN_drewN _ _ _⟩ | exact ⟨rfl, _, Eq.trans (World.drewN_drewN _ _ _) (congrArg (World.drewN _) (Nat.add_assoc _ _ _))⟩)) | (go_at_call 35; (with_reducible refine (strings_Cut.calls t134 (⟨#[46]⟩ : ByteArray) t135 t136 t137 _ ?side1 A5.out).mono ?_); (case side1 => first | exact HGMax.out | exact GlobMax.below HGMax.out (by repeat (first | (with_reducible first | exact HB.out | apply below_alloc | apply pw_below_drewN | apply below_drew1) | exact HB.out)) | exact GlobMax.drawn HGMax.out (by repeat (first | exact Drawn0.refl _ | apply Drawn0.step))); rintro e w' ⟨rfl, ⟨nd, rfl⟩⟩; (try first | exact ⟨rfl, _, World.drewN_drewN _ _ _⟩ | exact ⟨rfl, _, Eq.trans (World.drewN_drewN _ _ _) (congrArg (World.drewN _) (Nat.add_assoc _ _ _))⟩)) | (go_at_call 30; (with_reducible refine (attribute_all.calls k (t135 ++ t136) (⟨#[48, 49, 50, 51, 52, 53, 54, 55, 56, 57]⟩ : ByteArray) 38 true _ A7.out).mono ?_); rintro e w' ⟨rfl, ⟨nd, rfl⟩⟩; (try first | exact ⟨rfl, _, World.drewN_drewN _ _ _⟩ | exact ⟨rfl, _, Eq.trans (World.drewN_drewN _ _ _) (congrArg (World.drewN _) (Nat.add_assoc _ _ _))⟩)) | (go_at_call 37; (with_reducible refine (attribute_sign.calls t132 t139 _ A10.out).mono ?_); rintro e w' ⟨rfl, ⟨nd, rfl⟩⟩; (try first | exact ⟨rfl, _, World.drewN_drewN _ _ _⟩ | exact ⟨rfl, _, Eq.trans (World.drewN_drewN _ _ _) (congrArg (World.drewN _) (Nat.add_assoc _ _ _))⟩)) | (go_at_call 30; (with_reducible refine (attribute_all.calls k t139 (⟨#[48, 49, 50, 51, 52, 53, 54, 55, 56, 57]⟩ : ByteArray) 3 true _ A11.out).mono ?_); rintro e w' ⟨rfl, ⟨nd, rfl⟩⟩; (try first | exact ⟨rfl, _, World.drewN_drewN _ _ _⟩ | exact ⟨rfl, _, Eq.trans (World.drewN_drewN _ _ _) (congrArg (World.drewN _) (Nat.add_assoc _ _ _))⟩)) | (go_at_call 39; (with_reducible refine (strings_TrimLeft.calls (t139.extract 0 ((ji13) : Int).toNat) (⟨#[48]⟩ : ByteArray) t141 _ A16.out).mono ?_); rintro e w' ⟨rfl, ⟨nd, rfl⟩⟩; (try first | exact ⟨rfl, _, World.drewN_drewN _ _ _⟩ | exact ⟨rfl, _, Eq.trans (World.drewN_drewN _ _ _) (congrArg (World.drewN _) (Nat.add_assoc _ _ _))⟩)) | (go_at_call 38; (with_reducible refine (basic_Atoi.calls (t141 ++ (t139.extract ((ji13) : Int).toNat t139.size)) t142 t143 _ A20.out).mono ?_); rintro e w' ⟨rfl, ⟨nd, rfl⟩⟩; (try first | exact ⟨rfl, _, World.drewN_drewN _ _ _⟩ | exact ⟨rfl, _, Eq.trans (World.drewN_drewN _ _ _) (congrArg (World.drewN _) (Nat.add_assoc _ _ _))⟩)) | (go_at_call 40; (with_reducible refine (strings_HasPrefix.calls t132 (⟨#[45]⟩ : ByteArray) false _ A21.out).mono ?_); rintro e w' ⟨rfl, ⟨nd, rfl⟩⟩; (try first | exact ⟨rfl, _, World.drewN_drewN _ _ _⟩ | exact ⟨rfl, _, Eq.trans (World.drewN_drewN _ _ _) (congrArg (World.drewN _) (Nat.add_assoc _ _ _))⟩))); try go_wp2_with (first | (go_at_call 36; (with_reducible refine (strings_Replace.calls a0 (⟨#[69]⟩ : ByteArray) (⟨#[101]⟩ : ByteArray) 1 t130 _ ?side1 A2.out).mono ?_); (case side1 => first | exact HGMax.out | exact GlobMax.below HGMax.out (by repeat (first | (with_reducible first | exact HB.out | apply below_alloc | apply pw_below_drewN | apply below_drew1) | exact HB.out)) | exact GlobMax.drawn HGMax.out (by repeat (first | exact Drawn0.refl _ | apply Drawn0.step))); rintro e w24 ⟨rfl, hb⟩; have n0_ := Aside0.mk (below_step (by repeat (first | (with_reducible first | exact HB.out | apply below_alloc | apply pw_below_drewN | apply below_drew1) | exact HB.out)) hb); clear HB; have HB := n0_; clear n0_; (try clear hb); (try clear hb2); (try clear hk); (try clear hi)) | (go_at_call 35; (with_reducible refine (strings_Cut.calls t130 (⟨#[101]⟩ : ByteArray) t131 t132 true _ ?side1 A3.out).mono ?_); (case side1 => first | exact HGMax.out | exact GlobMax.below HGMax.out (by repeat (first | (with_reducible first | exact HB.out | apply below_alloc | apply pw_below_drewN | apply below_drew1) | exact HB.out)) | exact GlobMax.drawn HGMax.out (by repeat (first | exact Drawn0.refl _ | apply Drawn0.step))); rintro e w' ⟨rfl, ⟨nd, rfl⟩⟩; (try first | exact ⟨rfl, _, World.drewN_drewN _ _ _⟩ | exact ⟨rfl, _, Eq.trans (World.drewN_drewN _ _ _) (congrArg (World.drewN _) (Nat.add_assoc _ _ _))⟩)) | (go_at_call 37; (with_reducible refine (attribute_sign.calls t131 t134 _ A4.out).mono ?_); rintro e w' ⟨rfl, ⟨nd, rfl⟩⟩; (try first | exact ⟨rfl, _, World.drewN_drewN _ _ _⟩ | exact ⟨rfl, _, Eq.trans (World.drewN_drewN _ _ _) (congrArg (World.drewN _) (Nat.add_assoc _ _ _))⟩)) | (go_at_call 35; (with_reducible refine (strings_Cut.calls t134 (⟨#[46]⟩ : ByteArray) t135 t136 t137 _ ?side1 A5.out).mono ?_); (case side1 => first | exact HGMax.out | exact GlobMax.below HGMax.out (by repeat (first | (with_reducible first | exact HB.out | apply below_alloc | apply pw_below_drewN | apply below_drew1) | exact HB.out)) | exact GlobMax.drawn HGMax.out (by repeat (first | exact Drawn0.refl _ | apply Drawn0.step))); rintro e w' ⟨rfl, ⟨nd, rfl⟩⟩; (try first | exact ⟨rfl, _, World.drewN_drewN _ _ _⟩ | exact ⟨rfl, _, Eq.trans (World.drewN_drewN _ _ _) (congrArg (World.drewN _) (Nat.add_assoc _ _ _))⟩)) | (go_at_call 30; (with_reducible refine (attribute_all.calls k (t135 ++ t136) (⟨#[48, 49, 50, 51, 52, 53, 54, 55, 56, 57]⟩ : ByteArray) 38 true _ A7.out).mono ?_); rintro e w' ⟨rfl, ⟨nd, rfl⟩⟩; (try first | exact ⟨rfl, _, World.drewN_drewN _ _ _⟩ | exact ⟨rfl, _, Eq.trans (World.drewN_drewN _ _ _) (congrArg (World.drewN _) (Nat.add_assoc _ _ _))⟩)) | (go_at_call 37; (with_reducible refine (attribute_sign.calls t132 t139 _ A10.out).mono ?_); rintro e w' ⟨rfl, ⟨nd, rfl⟩⟩; (try first | exact ⟨rfl, _, World.drewN_drewN _ _ _⟩ | exact ⟨rfl, _, Eq.trans (World.drewN_drewN _ _ _) (congrArg (World.drewN _) (Nat.add_assoc _ _ _))⟩)) | (go_at_call 30; (with_reducible refine (attribute_all.calls k t139 (⟨#[48, 49, 50, 51, 52, 53, 54, 55, 56, 57]⟩ : ByteArray) 3 true _ A11.out).mono ?_); rintro e w' ⟨rfl, ⟨nd, rfl⟩⟩; (try first | exact ⟨rfl, _, World.drewN_drewN _ _ _⟩ | exact ⟨rfl, _, Eq.trans (World.drewN_drewN _ _ _) (congrArg (World.drewN _) (Nat.add_assoc _ _ _))⟩)) | (go_at_call 39; (with_reducible refine (strings_TrimLeft.calls (t139.extract 0 ((ji13) : Int).toNat) (⟨#[48]⟩ : ByteArray) t141 _ A16.out).mono ?_); rintro e w' ⟨rfl, ⟨nd, rfl⟩⟩; (try first | exact ⟨rfl, _, World.drewN_drewN _ _ _⟩ | exact ⟨rfl, _, Eq.trans (World.drewN_drewN _ _ _) (congrArg (World.drewN _) (Nat.add_assoc _ _ _))⟩)) | (go_at_call 38; (with_reducible refine (basic_Atoi.calls (t141 ++ (t139.extract ((ji13) : Int).toNat t139.size)) t142 t143 _ A20.out).mono ?_); rintro e w' ⟨rfl, ⟨nd, rfl⟩⟩; (try first | exact ⟨rfl, _, World.drewN_drewN _ _ _⟩ | exact ⟨rfl, _, Eq.trans (World.drewN_drewN _ _ _) (congrArg (World.drewN _) (Nat.add_assoc _ _ _))⟩)) | (go_at_call 40; (with_reducible refine (strings_HasPrefix.calls t132 (⟨#[45]⟩ : ByteArray) false _ A21.out).mono ?_); rintro e w' ⟨rfl, ⟨nd, rfl⟩⟩; (try first | exact ⟨rfl, _, World.drewN_drewN _ _ _⟩ | exact ⟨rfl, _, Eq.trans (World.drewN_drewN _ _ _) (congrArg (World.drewN _) (Nat.add_assoc _ _ _))⟩))))
                  go_ret
                  exact ⟨by first | rfl | (simp [errW_none, errW_some] <;> rfl) | (simp only [← hji13]; first | rfl | (simp [errW_none, errW_some] <;> rfl)) | (simp [*, errW_none, errW_some] <;> rfl), by repeat (first | (with_reducible first | exact HB.out | apply below_alloc | apply pw_below_drewN | apply below_drew1) | exact HB.out)⟩
              · rw [if_neg c19] at H
                exact absurd H (by simp)
            · rw [if_neg c15] at H
              exact absurd H (by simp)
          · rw [if_neg c14] at H
            exact absurd H (by simp)
        · replace c12 := Bool.eq_false_iff.mpr c12
          subst c12
          have H1 : (some false) = some r := by rw [if_neg (show ¬ (false = true) by decide)] at H; exact H
          clear H
          have H := H1
          clear H1
          obtain rfl := Option.some.inj H
          go_enter Tryd.func14, Tryd.ntmps14
          go_wp2_with (first | (go_at_call 36; (with_reducible refine (strings_Replace.calls a0 (⟨#[69]⟩ : ByteArray) (⟨#[101]⟩ : ByteArray) 1 t130 _ ?side1 A2.out).mono ?_); (case side1 => first | exact HGMax.out | exact GlobMax.below HGMax.out (by repeat (first | (with_reducible first | exact HB.out | apply below_alloc | apply pw_below_drewN | apply below_drew1) | exact HB.out)) | exact GlobMax.drawn HGMax.out (by repeat (first | exact Drawn0.refl _ | apply Drawn0.step))); rintro e w25 ⟨rfl, hb⟩; have n0_ := Aside0.mk (below_step (by repeat (first | (with_reducible first | exact HB.out | apply below_alloc | apply pw_below_drewN | apply below_drew1) | exact HB.out)) hb); clear HB; have HB := n0_; clear n0_; (try clear hb); (try clear hb2); (try clear hk); (try clear hi)) | (go_at_call 35; (with_reducible refine (strings_Cut.calls t130 (⟨#[101]⟩ : ByteArray) t131 t132 true _ ?side1 A3.out).mono ?_); (case side1 => first | exact HGMax.out | exact GlobMax.below HGMax.out (by repeat (first | (with_reducible first | exact HB.out | apply below_alloc | apply pw_below_drewN | apply below_drew1) | exact HB.out)) | exact GlobMax.drawn HGMax.out (by repeat (first | exact Drawn0.refl _ | apply Drawn0.step))); rintro e w' ⟨rfl, ⟨nd, rfl⟩⟩; (try first | exact ⟨rfl, _, World.drewN_drewN _ _ _⟩ | exact ⟨rfl, _, Eq.trans (World.drewN_drewN _ _ _) (congrArg (World.drewN _) (Nat.add_assoc _ _ _))⟩)) | (go_at_call 37; (with_reducible refine (attribute_sign.calls t131 t134 _ A4.out).mono ?_); rintro e w' ⟨rfl, ⟨nd, rfl⟩⟩; (try first | exact ⟨rfl, _, World.drewN_drewN _ _ _⟩ | exact ⟨rfl, _, Eq.trans (World.drewN_drewN _ _ _) (congrArg (World.drewN _) (Nat.add_assoc _ _ _))⟩)) | (go_at_call 35; (with_reducible refine (strings_Cut.calls t134 (⟨#[46]⟩ : ByteArray) t135 t136 t137 _ ?side1 A5.out).mono ?_); (case side1 => first | exact HGMax.out | exact GlobMax.below HGMax.out (by repeat (first | (with_reducible first | exact HB.out | apply below_alloc | apply pw_below_drewN | apply below_drew1) | exact HB.out)) | exact GlobMax.drawn HGMax.out (by repeat (first | exact Drawn0.refl _ | apply Drawn0.step))); rintro e w' ⟨rfl, ⟨nd, rfl⟩⟩; (try first | exact ⟨rfl, _, World.drewN_drewN _ _ _⟩ | exact ⟨rfl, _, Eq.trans (World.drewN_drewN _ _ _) (congrArg (World.drewN _) (Nat.add_assoc _ _ _))⟩)) | (go_at_call 30; (with_reducible refine (attribute_all.calls k (t135 ++ t136) (⟨#[48, 49, 50, 51, 52, 53, 54, 55, 56, 57]⟩ : ByteArray) 38 true _ A7.out).mono ?_); rintro e w' ⟨rfl, ⟨nd, rfl⟩⟩; (try first | exact ⟨rfl, _, World.drewN_drewN _ _ _⟩ | exact ⟨rfl, _, Eq.trans (World.drewN_drewN _ _ _) (congrArg (World.drewN _) (Nat.add_assoc _ _ _))⟩)) | (go_at_call 37; (with_reducible refine (attribute_sign.calls t132 t139 _ A10.out).mono ?_); rintro e w' ⟨rfl, ⟨nd, rfl⟩⟩; (try first | exact ⟨rfl, _, World.drewN_drewN _ _ _⟩ | exact ⟨rfl, _, Eq.trans (World.drewN_drewN _ _ _) (congrArg (World.drewN _) (Nat.add_assoc _ _ _))⟩)) | (go_at_call 30; (with_reducible refine (attribute_all.calls k t139 (⟨#[48, 49, 50, 51, 52, 53, 54, 55, 56, 57]⟩ : ByteArray) 3 false _ A11.out).mono ?_); rintro e w' ⟨rfl, ⟨nd, rfl⟩⟩; (try first | exact ⟨rfl, _, World.drewN_drewN _ _ _⟩ | exact ⟨rfl, _, Eq.trans (World.drewN_drewN _ _ _) (congrArg (World.drewN _) (Nat.add_assoc _ _ _))⟩)))
          repeat (go_quiet (first | (go_at_call 36; (with_reducible refine (strings_Replace.calls a0 (⟨#[69]⟩ : ByteArray) (⟨#[101]⟩ : ByteArray) 1 t130 _ ?side1 A2.out).mono ?_); (case side1 => first | exact HGMax.out | exact GlobMax.below HGMax.out (by repeat (first | (with_reducible first | exact HB.out | apply below_alloc | apply pw_below_drewN | apply below_drew1) | exact HB.out)) | exact GlobMax.drawn HGMax.out (by repeat (first | exact Drawn0.refl _ | apply Drawn0.step))); rintro e w25 ⟨rfl, hb⟩; have n0_ := Aside0.mk (below_step (by repeat (first | (with_reducible first | exact HB.out | apply below_alloc | apply pw_below_drewN | apply below_drew1) | exact HB.out)) hb); clear HB; have HB := n0_; clear n0_; (try clear hb); (try clear hb2); (try clear hk); (try clear hi)) | (go_at_call 35; (with_reducible refine (strings_Cut.calls t130 (⟨#[101]⟩ : ByteArray) t131 t132 true _ ?side1 A3.out).mono ?_); (case side1 => first | exact HGMax.out | exact GlobMax.below HGMax.out (by repeat (first | (with_reducible first | exact HB.out | apply below_alloc | apply pw_below_drewN | apply below_drew1) | exact HB.out)) | exact GlobMax.drawn HGMax.out (by repeat (first | exact Drawn0.refl _ | apply Drawn0.step))); rintro e w' ⟨rfl, ⟨nd, rfl⟩⟩; (try first | exact ⟨rfl, _, World.drewN_drewN _ _ _⟩ | exact ⟨rfl, _, Eq.trans (World.drewN_drewN _ _ _) (congrArg (World.drewN _) (Nat.add_assoc _ _ _))⟩)) | (go_at_call 37; (with_reducible refine (attribute_sign.calls t131 t134 _ A4.out).mono ?_); rintro e w' ⟨rfl, ⟨nd, rfl⟩⟩; (try first | exact ⟨rfl, _, World.drewN_drewN _ _ _⟩ | exact ⟨rfl, _, Eq.trans (World.drewN_drewN _ _ _) (congrArg (World.drewN _) (Nat.add_assoc _ _ _))⟩)) | (go_at_call 35; (with_reducible refine (strings_Cut.calls t134 (⟨#[46]⟩ : ByteArray) t135 t136 t137 _ ?side1 A5.out).mono ?_); (case side1 => first | exact HGMax.out | exact GlobMax.below HGMax.out (by repeat (first | (with_reducible first | exact HB.out | apply below_alloc | apply pw_below_drewN | apply below_drew1) | exact HB.out)) | exact GlobMax.drawn HGMax.out (by repeat (first | exact Drawn0.refl _ | apply Drawn0.step))); rintro e w' ⟨rfl, ⟨nd, rfl⟩⟩; (try first | exact ⟨rfl, _, World.drewN_drewN _ _ _⟩ | exact ⟨rfl, _, Eq.trans (World.drewN_drewN _ _ _) (congrArg (World.drewN _) (Nat.add_assoc _ _ _))⟩)) | (go_at_call 30; (with_reducible refine (attribute_all.calls k (t135 ++ t136) (⟨#[48, 49, 50, 51, 52, 53, 54, 55, 56, 57]⟩ : ByteArray) 38 true _ A7.out).mono ?_); rintro e w' ⟨rfl, ⟨nd, rfl⟩⟩; (try first | exact ⟨rfl, _, World.drewN_drewN _ _ _⟩ | exact ⟨rfl, _, Eq.trans (World.drewN_drewN _ _ _) (congrArg (World.drewN _) (Nat.add_assoc _ _ _))⟩)) | (go_at_call 37; (with_reducible refine (attribute_sign.calls t132 t139 _ A10.out).mono ?_); rintro e w' ⟨rfl, ⟨nd, rfl⟩⟩; (try first | exact ⟨rfl, _, World.drewN_drewN _ _ _⟩ | exact ⟨rfl, _, Eq.trans (World.drewN_drewN _ _ _) (congrArg (World.drewN _) (Nat.add_assoc _ _ _))⟩)) | (go_at_call 30; (with_reducible refine (attribute_all.calls k t139 (⟨#[48, 49, 50, 51, 52, 53, 54, 55, 56, 57]⟩ : ByteArray) 3 false _ A11.out).mono ?_); rintro e w' ⟨rfl, ⟨nd, rfl⟩⟩; (try first | exact ⟨rfl, _, World.drewN_drewN _ _ _⟩ | exact ⟨rfl, _, Eq.trans (World.drewN_drewN _ _ _) (congrArg (World.drewN _) (Nat.add_assoc _ _ _))⟩))); try go_wp2_with (first | (go_at_call 36; (with_reducible refine (strings_Replace.calls a0 (⟨#[69]⟩ : ByteArray) (⟨#[101]⟩ : ByteArray) 1 t130 _ ?side1 A2.out).mono ?_); (case side1 => first | exact HGMax.out | exact GlobMax.below HGMax.out (by repeat (first | (with_reducible first | exact HB.out | apply below_alloc | apply pw_below_drewN | apply below_drew1) | exact HB.out)) | exact GlobMax.drawn HGMax.out (by repeat (first | exact Drawn0.refl _ | apply Drawn0.step))); rintro e w25 ⟨rfl, hb⟩; have n0_ := Aside0.mk (below_step (by repeat (first | (with_reducible first | exact HB.out | apply below_alloc | apply pw_below_drewN | apply below_drew1) | exact HB.out)) hb); clear HB; have HB := n0_; clear n0_; (try clear hb); (try clear hb2); (try clear hk); (try clear hi)) | (go_at_call 35; (with_reducible refine (strings_Cut.calls t130 (⟨#[101]⟩ : ByteArray) t131 t132 true _ ?side1 A3.out).mono ?_); (case side1 => first | exact HGMax.out | exact GlobMax.below HGMax.out (by repeat (first | (with_reducible first | exact HB.out | apply below_alloc | apply pw_below_drewN | apply below_drew1) | exact HB.out)) | exact GlobMax.drawn HGMax.out (by repeat (first | exact Drawn0.refl _ | apply Drawn0.step))); rintro e w' ⟨rfl, ⟨nd, rfl⟩⟩; (try first | exact ⟨rfl, _, World.drewN_drewN _ _ _⟩ | exact ⟨rfl, _, Eq.trans (World.drewN_drewN _ _ _) (congrArg (World.drewN _) (Nat.add_assoc _ _ _))⟩)) | (go_at_call 37; (with_reducible refine (attribute_sign.calls t131 t134 _ A4.out).mono ?_); rintro e w' ⟨rfl, ⟨nd, rfl⟩⟩; (try first | exact ⟨rfl, _, World.drewN_drewN _ _ _⟩ | exact ⟨rfl, _, Eq.trans (World.drewN_drewN _ _ _) (congrArg (World.drewN _) (Nat.add_assoc _ _ _))⟩)) | (go_at_call 35; (with_reducible refine (strings_Cut.calls t134 (⟨#[46]⟩ : ByteArray) t135 t136 t137 _ ?side1 A5.out).mono ?_); (case side1 => first | exact HGMax.out | exact GlobMax.below HGMax.out (by repeat (first | (with_reducible first | exact HB.out | apply below_alloc | apply pw_below_drewN | apply below_drew1) | exact HB.out)) | exact GlobMax.drawn HGMax.out (by repeat (first | exact Drawn0.refl _ | apply Drawn0.step))); rintro e w' ⟨rfl, ⟨nd, rfl⟩⟩; (try first | exact ⟨rfl, _, World.drewN_drewN _ _ _⟩ | exact ⟨rfl, _, Eq.trans (World.drewN_drewN _ _ _) (congrArg (World.drewN _) (Nat.add_assoc _ _ _))⟩)) | (go_at_call 30; (with_reducible refine (attribute_all.calls k (t135 ++ t136) (⟨#[48, 49, 50, 51, 52, 53, 54, 55, 56, 57]⟩ : ByteArray) 38 true _ A7.out).mono ?_); rintro e w' ⟨rfl, ⟨nd, rfl⟩⟩; (try first | exact ⟨rfl, _, World.drewN_drewN _ _ _⟩ | exact ⟨rfl, _, Eq.trans (World.drewN_drewN _ _ _) (congrArg (World.drewN _) (Nat.add_assoc _ _ _))⟩)) | (go_at_call 37; (with_reducible refine (attribute_sign.calls t132 t139 _ A10.out).mono ?_); rintro e w' ⟨rfl, ⟨nd, rfl⟩⟩; (try first | exact ⟨rfl, _, World.drewN_drewN _ _ _⟩ | exact ⟨rfl, _, Eq.trans (World.drewN_drewN _ _ _) (congrArg (World.drewN _) (Nat.add_assoc _ _ _))⟩)) | (go_at_call 30; (with_reducible refine (attribute_all.calls k t139 (⟨#[48, 49, 50, 51, 52, 53, 54, 55, 56, 57]⟩ : ByteArray) 3 false _ A11.out).mono ?_); rintro e w' ⟨rfl, ⟨nd, rfl⟩⟩; (try first | exact ⟨rfl, _, World.drewN_drewN _ _ _⟩ | exact ⟨rfl, _, Eq.trans (World.drewN_drewN _ _ _) (congrArg (World.drewN _) (Nat.add_assoc _ _ _))⟩))))
          go_ret
          exact ⟨by first | rfl | (simp [errW_none, errW_some] <;> rfl) | (simp [*, errW_none, errW_some] <;> rfl), by repeat (first | (with_reducible first | exact HB.out | apply below_alloc | apply pw_below_drewN | apply below_drew1) | exact HB.out)⟩
      · replace c9 := Bool.eq_false_iff.mpr c9
        subst c9
        have H1 : (some true) = some r := by rw [if_neg (show ¬ (false = true) by decide)] at H; exact H
        clear H
        have H := H1
        clear H1
        obtain rfl := Option.some.inj H
        go_enter Tryd.func14, Tryd.ntmps14
        go_wp2_with (first | (go_at_call 36; (with_reducible refine (strings_Replace.calls a0 (⟨#[69]⟩ : ByteArray) (⟨#[101]⟩ : ByteArray) 1 t130 _ ?side1 A2.out).mono ?_); (case side1 => first | exact HGMax.out | exact GlobMax.below HGMax.out (by repeat (first | (with_reducible first | exact HB.out | apply below_alloc | apply pw_below_drewN | apply below_drew1) | exact HB.out)) | exact GlobMax.drawn HGMax.out (by repeat (first | exact Drawn0.refl _ | apply Drawn0.step))); rintro e w26 ⟨rfl, hb⟩; have n0_ := Aside0.mk (below_step (by repeat (first | (with_reducible first | exact HB.out | apply below_alloc | apply pw_below_drewN | apply below_drew1) | exact HB.out)) hb); clear HB; have HB := n0_; clear n0_; (try clear hb); (try clear hb2); (try clear hk); (try clear hi)) | (go_at_call 35; (with_reducible refine (strings_Cut.calls t130 (⟨#[101]⟩ : ByteArray) t131 t132 false _ ?side1 A3.out).mono ?_); (case side1 => first | exact HGMax.out | exact GlobMax.below HGMax.out (by repeat (first | (with_reducible first | exact HB.out | apply below_alloc | apply pw_below_drewN | apply below_drew1) | exact HB.out)) | exact GlobMax.drawn HGMax.out (by repeat (first | exact Drawn0.refl _ | apply Drawn0.step))); rintro e w' ⟨rfl, ⟨nd, rfl⟩⟩; (try first | exact ⟨rfl, _, World.drewN_drewN _ _ _⟩ | exact ⟨rfl, _, Eq.trans (World.drewN_drewN _ _ _) (congrArg (World.drewN _) (Nat.add_assoc _ _ _))⟩)) | (go_at_call 37; (with_reducible refine (attribute_sign.calls t131 t134 _ A4.out).mono ?_); rintro e w' ⟨rfl, ⟨nd, rfl⟩⟩; (try first | exact ⟨rfl, _, World.drewN_drewN _ _ _⟩ | exact ⟨rfl, _, Eq.trans (World.drewN_drewN _ _ _) (congrArg (World.drewN _) (Nat.add_assoc _ _ _))⟩)) | (go_at_call 35; (with_reducible refine (strings_Cut.calls t134 (⟨#[46]⟩ : ByteArray) t135 t136 t137 _ ?side1 A5.out).mono ?_); (case side1 => first | exact HGMax.out | exact GlobMax.below HGMax.out (by repeat (first | (with_reducible first | exact HB.out | apply below_alloc | apply pw_below_drewN | apply below_drew1) | exact HB.out)) | exact GlobMax.drawn HGMax.out (by repeat (first | exact Drawn0.refl _ | apply Drawn0.step))); rintro e w' ⟨rfl, ⟨nd, rfl⟩⟩; (try first | exact ⟨rfl, _, World.drewN_drewN _ _ _⟩ | exact ⟨rfl, _, Eq.trans (World.drewN_drewN _ _ _) (congrArg (World.drewN _) (Nat.add_assoc _ _ _))⟩)) | (go_at_call 30; (with_reducible refine (attribute_all.calls k (t135 ++ t136) (⟨#[48, 49, 50, 51, 52, 53, 54, 55, 56, 57]⟩ : ByteArray) 38 true _ A7.out).mono ?_); rintro e w' ⟨rfl, ⟨nd, rfl⟩⟩; (try first | exact ⟨rfl, _, World.drewN_drewN _ _ _⟩ | exact ⟨rfl, _, Eq.trans (World.drewN_drewN _ _ _) (congrArg (World.drewN _) (Nat.add_assoc _ _ _))⟩)))
        repeat (go_quiet (first | (go_at_call 36; (with_reducible refine (strings_Replace.calls a0 (⟨#[69]⟩ : ByteArray) (⟨#[101]⟩ : ByteArray) 1 t130 _ ?side1 A2.out).mono ?_); (case side1 => first | exact HGMax.out | exact GlobMax.below HGMax.out (by repeat (first | (with_reducible first | exact HB.out | apply below_alloc | apply pw_below_drewN | apply below_drew1) | exact HB.out)) | exact GlobMax.drawn HGMax.out (by repeat (first | exact Drawn0.refl _ | apply Drawn0.step))); rintro e w26 ⟨rfl, hb⟩; have n0_ := Aside0.mk (below_step (by repeat (first | (with_reducible first | exact HB.out | apply below_alloc | apply pw_below_drewN | apply below_drew1) | exact HB.out)) hb); clear HB; have HB := n0_; clear n0_; (try clear hb); (try clear hb2); (try clear hk); (try clear hi)) | (go_at_call 35; (with_reducible refine (strings_Cut.calls t130 (⟨#[101]⟩ : ByteArray) t131 t132 false _ ?side1 A3.out).mono ?_); (case side1 => first | exact HGMax.out | exact GlobMax.below HGMax.out (by repeat (first | (with_reducible first | exact HB.out | apply below_alloc | apply pw_below_drewN | apply below_drew1) | exact HB.out)) | exact GlobMax.drawn HGMax.out (by repeat (first | exact Drawn0.refl _ | apply Drawn0.step))); rintro e w' ⟨rfl, ⟨nd, rfl⟩⟩; (try first | exact ⟨rfl, _, World.drewN_drewN _ _ _⟩ | exact ⟨rfl, _, Eq.trans (World.drewN_drewN _ _ _) (congrArg (World.drewN _) (Nat.add_assoc _ _ _))⟩)) | (go_at_call 37; (with_reducible refine (attribute_sign.calls t131 t134 _ A4.out).mono ?_); rintro e w' ⟨rfl, ⟨nd, rfl⟩⟩; (try first | exact ⟨rfl, _, World.drewN_drewN _ _ _⟩ | exact ⟨rfl, _, Eq.trans (World.drewN_drewN _ _ _) (congrArg (World.drewN _) (Nat.add_assoc _ _ _))⟩)) | (go_at_call 35; (with_reducible refine (strings_Cut.calls t134 (⟨#[46]⟩ : ByteArray) t135 t136 t137 _ ?side1 A5.out).mono ?_); (case side1 => first | exact HGMax.out | exact GlobMax.below HGMax.out (by repeat (first | (with_reducible first | exact HB.out | apply below_alloc | apply pw_below_drewN | apply below_drew1) | exact HB.out)) | exact GlobMax.drawn HGMax.out (by repeat (first | exact Drawn0.refl _ | apply Drawn0.step))); rintro e w' ⟨rfl, ⟨nd, rfl⟩⟩; (try first | exact ⟨rfl, _, World.drewN_drewN _ _ _⟩ | exact ⟨rfl, _, Eq.trans (World.drewN_drewN _ _ _) (congrArg (World.drewN _) (Nat.add_assoc _ _ _))⟩)) | (go_at_call 30; (with_reducible refine (attribute_all.calls k (t135 ++ t136) (⟨#[48, 49, 50, 51, 52, 53, 54, 55, 56, 57]⟩ : ByteArray) 38 true _ A7.out).mono ?_); rintro e w' ⟨rfl, ⟨nd, rfl⟩⟩; (try first | exact ⟨rfl, _, World.drewN_drewN _ _ _⟩ | exact ⟨rfl, _, Eq.trans (World.drewN_drewN _ _ _) (congrArg (World.drewN _) (Nat.add_assoc _ _ _))⟩))); try go_wp2_with (first | (go_at_call 36; (with_reducible refine (strings_Replace.calls a0 (⟨#[69]⟩ : ByteArray) (⟨#[101]⟩ : ByteArray) 1 t130 _ ?side1 A2.out).mono ?_); (case side1 => first | exact HGMax.out | exact GlobMax.below HGMax.out (by repeat (first | (with_reducible first | exact HB.out | apply below_alloc | apply pw_below_drewN | apply below_drew1) | exact HB.out)) | exact GlobMax.drawn HGMax.out (by repeat (first | exact Drawn0.refl _ | apply Drawn0.step))); rintro e w26 ⟨rfl, hb⟩; have n0_ := Aside0.mk (below_step (by repeat (first | (with_reducible first | exact HB.out | apply below_alloc | apply pw_below_drewN | apply below_drew1) | exact HB.out)) hb); clear HB; have HB := n0_; clear n0_; (try clear hb); (try clear hb2); (try clear hk); (try clear hi)) | (go_at_call 35; (with_reducible refine (strings_Cut.calls t130 (⟨#[101]⟩ : ByteArray) t131 t132 false _ ?side1 A3.out).mono ?_); (case side1 => first | exact HGMax.out | exact GlobMax.below HGMax.out (by repeat (first | (with_reducible first | exact HB.out | apply below_alloc | apply pw_below_drewN | apply below_drew1) | exact HB.out)) | exact GlobMax.drawn HGMax.out (by repeat (first | exact Drawn0.refl _ | apply Drawn0.step))); rintro e w' ⟨rfl, ⟨nd, rfl⟩⟩; (try first | exact ⟨rfl, _, World.drewN_drewN _ _ _⟩ | exact ⟨rfl, _, Eq.trans (World.drewN_drewN _ _ _) (congrArg (World.drewN _) (Nat.add_assoc _ _ _))⟩)) | (go_at_call 37; (with_reducible refine (attribute_sign.calls t131 t134 _ A4.out).mono ?_); rintro e w' ⟨rfl, ⟨nd, rfl⟩⟩; (try first | exact ⟨rfl, _, World.drewN_drewN _ _ _⟩ | exact ⟨rfl, _, Eq.trans (World.drewN_drewN _ _ _) (congrArg (World.drewN _) (Nat.add_assoc _ _ _))⟩)) | (go_at_call 35; (with_reducible refine (strings_Cut.calls t134 (⟨#[46]⟩ : ByteArray) t135 t136 t137 _ ?side1 A5.out).mono ?_); (case side1 => first | exact HGMax.out | exact GlobMax.below HGMax.out (by repeat (first | (with_reducible first | exact HB.out | apply below_alloc | apply pw_below_drewN | apply below_drew1) | exact HB.out)) | exact GlobMax.drawn HGMax.out (by repeat (first | exact Drawn0.refl _ | apply Drawn0.step))); rintro e w' ⟨rfl, ⟨nd, rfl⟩⟩; (try first | exact ⟨rfl, _, World.drewN_drewN _ _ _⟩ | exact ⟨rfl, _, Eq.trans (World.drewN_drewN _ _ _) (congrArg (World.drewN _) (Nat.add_assoc _ _ _))⟩)) | (go_at_call 30; (with_reducible refine (attribute_all.calls k (t135 ++ t136) (⟨#[48, 49, 50, 51, 52, 53, 54, 55, 56, 57]⟩ : ByteArray) 38 true _ A7.out).mono ?_); rintro e w' ⟨rfl, ⟨nd, rfl⟩⟩; (try first | exact ⟨rfl, _, World.drewN_drewN _ _ _⟩ | exact ⟨rfl, _, Eq.trans (World.drewN_drewN _ _ _) (congrArg (World.drewN _) (Nat.add_assoc _ _ _))⟩))))
        go_ret
        exact ⟨by first | rfl | (simp [errW_none, errW_some] <;> rfl) | (simp [*, errW_none, errW_some] <;> rfl), by repeat (first | (with_reducible first | exact HB.out | apply below_alloc | apply pw_below_drewN | apply below_drew1) | exact HB.out)⟩
    · replace c8 := Bool.eq_false_iff.mpr c8
      subst c8
      have H1 : (some false) = some r := by rw [if_neg (show ¬ (false = true) by decide)] at H; exact H
      clear H
      have H := H1
      clear H1
      obtain rfl := Option.some.inj H
      go_enter Tryd.func14, Tryd.ntmps14
      go_wp2_with (first | (go_at_call 36; (with_reducible refine (strings_Replace.calls a0 (⟨#[69]⟩ : ByteArray) (⟨#[101]⟩ : ByteArray) 1 t130 _ ?side1 A2.out).mono ?_); (case side1 => first | exact HGMax.out | exact GlobMax.below HGMax.out (by repeat (first | (with_reducible first | exact HB.out | apply below_alloc | apply pw_below_drewN | apply below_drew1) | exact HB.out)) | exact GlobMax.drawn HGMax.out (by repeat (first | exact Drawn0.refl _ | apply Drawn0.step))); rintro e w27 ⟨rfl, hb⟩; have n0_ := Aside0.mk (below_step (by repeat (first | (with_reducible first | exact HB.out | apply below_alloc | apply pw_below_drewN | apply below_drew1) | exact HB.out)) hb); clear HB; have HB := n0_; clear n0_; (try clear hb); (try clear hb2); (try clear hk); (try clear hi)) | (go_at_call 35; (with_reducible refine (strings_Cut.calls t130 (⟨#[101]⟩ : ByteArray) t131 t132 t133 _ ?side1 A3.out).mono ?_); (case side1 => first | exact HGMax.out | exact GlobMax.below HGMax.out (by repeat (first | (with_reducible first | exact HB.out | apply below_alloc | apply pw_below_drewN | apply below_drew1) | exact HB.out)) | exact GlobMax.drawn HGMax.out (by repeat (first | exact Drawn0.refl _ | apply Drawn0.step))); rintro e w' ⟨rfl, ⟨nd, rfl⟩⟩; (try first | exact ⟨rfl, _, World.drewN_drewN _ _ _⟩ | exact ⟨rfl, _, Eq.trans (World.drewN_drewN _ _ _) (congrArg (World.drewN _) (Nat.add_assoc _ _ _))⟩)) | (go_at_call 37; (with_reducible refine (attribute_sign.calls t131 t134 _ A4.out).mono ?_); rintro e w' ⟨rfl, ⟨nd, rfl⟩⟩; (try first | exact ⟨rfl, _, World.drewN_drewN _ _ _⟩ | exact ⟨rfl, _, Eq.trans (World.drewN_drewN _ _ _) (congrArg (World.drewN _) (Nat.add_assoc _ _ _))⟩)) | (go_at_call 35; (with_reducible refine (strings_Cut.calls t134 (⟨#[46]⟩ : ByteArray) t135 t136 t137 _ ?side1 A5.out).mono ?_); (case side1 => first | exact HGMax.out | exact GlobMax.below HGMax.out (by repeat (first | (with_reducible first | exact HB.out | apply below_alloc | apply pw_below_drewN | apply below_drew1) | exact HB.out)) | exact GlobMax.drawn HGMax.out (by repeat (first | exact Drawn0.refl _ | apply Drawn0.step))); rintro e w' ⟨rfl, ⟨nd, rfl⟩⟩; (try first | exact ⟨rfl, _, World.drewN_drewN _ _ _⟩ | exact ⟨rfl, _, Eq.trans (World.drewN_drewN _ _ _) (congrArg (World.drewN _) (Nat.add_assoc _ _ _))⟩)) | (go_at_call 30; (with_reducible refine (attribute_all.calls k (t135 ++ t136) (⟨#[48, 49, 50, 51, 52, 53, 54, 55, 56, 57]⟩ : ByteArray) 38 false _ A7.out).mono ?_); rintro e w' ⟨rfl, ⟨nd, rfl⟩⟩; (try first | exact ⟨rfl, _, World.drewN_drewN _ _ _⟩ | exact ⟨rfl, _, Eq.trans (World.drewN_drewN _ _ _) (congrArg (World.drewN _) (Nat.add_assoc _ _ _))⟩)))
      repeat (go_quiet (first | (go_at_call 36; (with_reducible refine (strings_Replace.calls a0 (⟨#[69]⟩ : ByteArray) (⟨#[101]⟩ : ByteArray) 1 t130 _ ?side1 A2.out).mono ?_); (case side1 => first | exact HGMax.out | exact GlobMax.below HGMax.out (by repeat (first | (with_reducible first | exact HB.out | apply below_alloc | apply pw_below_drewN | apply below_drew1) | exact HB.out)) | exact GlobMax.drawn HGMax.out (by repeat (first | exact Drawn0.refl _ | apply Drawn0.step))); rintro e w27 ⟨rfl, hb⟩; have n0_ := Aside0.mk (below_step (by repeat (first | (with_reducible first | exact HB.out | apply below_alloc | apply pw_below_drewN | apply below_drew1) | exact HB.out)) hb); clear HB; have HB := n0_; clear n0_; (try clear hb); (try clear hb2); (try clear hk); (try clear hi)) | (go_at_call 35; (with_reducible refine (strings_Cut.calls t130 (⟨#[101]⟩ : ByteArray) t131 t132 t133 _ ?side1 A3.out).mono ?_); (case side1 => first | exact HGMax.out | exact GlobMax.below HGMax.out (by repeat (first | (with_reducible first | exact HB.out | apply below_alloc | apply pw_below_drewN | apply below_drew1) | exact HB.out)) | exact GlobMax.drawn HGMax.out (by repeat (first | exact Drawn0.refl _ | apply Drawn0.step))); rintro e w' ⟨rfl, ⟨nd, rfl⟩⟩; (try first | exact ⟨rfl, _, World.drewN_drewN _ _ _⟩ | exact ⟨rfl, _, Eq.trans (World.drewN_drewN _ _ _) (congrArg (World.drewN _) (Nat.add_assoc _ _ _))⟩)) | (go_at_call 37; (with_reducible refine (attribute_sign.calls t131 t134 _ A4.out).mono ?_); rintro e w' ⟨rfl, ⟨nd, rfl⟩⟩; (try first | exact ⟨rfl, _, World.drewN_drewN _ _ _⟩ | exact ⟨rfl, _, Eq.trans (World.drewN_drewN _ _ _) (congrArg (World.drewN _) (Nat.add_assoc _ _ _))⟩)) | (go_at_call 35; (with_reducible refine (strings_Cut.calls t134 (⟨#[46]⟩ : ByteArray) t135 t136 t137 _ ?side1 A5.out).mono ?_); (case side1 => first | exact HGMax.out | exact GlobMax.below HGMax.out (by repeat (first | (with_reducible first | exact HB.out | apply below_alloc | apply pw_below_drewN | apply below_drew1) | exact HB.out)) | exact GlobMax.drawn HGMax.out (by repeat (first | exact Drawn0.refl _ | apply Drawn0.step))); rintro e w' ⟨rfl, ⟨nd, rfl⟩⟩; (try first | exact ⟨rfl, _, World.drewN_drewN _ _ _⟩ | exact ⟨rfl, _, Eq.trans (World.drewN_drewN _ _ _) (congrArg (World.drewN _) (Nat.add_assoc _ _ _))⟩)) | (go_at_call 30; (with_reducible refine (attribute_all.calls k (t135 ++ t136) (⟨#[48, 49, 50, 51, 52, 53, 54, 55, 56, 57]⟩ : ByteArray) 38 false _ A7.out).mono ?_); rintro e w' ⟨rfl, ⟨nd, rfl⟩⟩; (try first | exact ⟨rfl, _, World.drewN_drewN _ _ _⟩ | exact ⟨rfl, _, Eq.trans (World.drewN_drewN _ _ _) (congrArg (World.drewN _) (Nat.add_assoc _ _ _))⟩))); try go_wp2_with (first | (go_at_call 36; (with_reducible refine (strings_Replace.calls a0 (⟨#[69]⟩ : ByteArray) (⟨#[101]⟩ : ByteArray) 1 t130 _ ?side1 A2.out).mono ?_); (case side1 => first | exact HGMax.out | exact GlobMax.below HGMax.out (by repeat (first | (with_reducible first | exact HB.out | apply below_alloc | apply pw_below_drewN | apply below_drew1) | exact HB.out)) | exact GlobMax.drawn HGMax.out (by repeat (first | exact Drawn0.refl _ | apply Drawn0.step))); rintro e w27 ⟨rfl, hb⟩; have n0_ := Aside0.mk (below_step (by repeat (first | (with_reducible first | exact HB.out | apply below_alloc | apply pw_below_drewN | apply below_drew1) | exact HB.out)) hb); clear HB; have HB := n0_; clear n0_; (try clear hb); (try clear hb2); (try clear hk); (try clear hi)) | (go_at_call 35; (with_reducible refine (strings_Cut.calls t130 (⟨#[101]⟩ : ByteArray) t131 t132 t133 _ ?side1 A3.out).mono ?_); (case side1 => first | exact HGMax.out | exact GlobMax.below HGMax.out (by repeat (first | (with_reducible first | exact HB.out | apply below_alloc | apply pw_below_drewN | apply below_drew1) | exact HB.out)) | exact GlobMax.drawn HGMax.out (by repeat (first | exact Drawn0.refl _ | apply Drawn0.step))); rintro e w' ⟨rfl, ⟨nd, rfl⟩⟩; (try first | exact ⟨rfl, _, World.drewN_drewN _ _ _⟩ | exact ⟨rfl, _, Eq.trans (World.drewN_drewN _ _ _) (congrArg (World.drewN _) (Nat.add_assoc _ _ _))⟩)) | (go_at_call 37; (with_reducible refine (attribute_sign.calls t131 t134 _ A4.out).mono ?_); rintro e w' ⟨rfl, ⟨nd, rfl⟩⟩; (try first | exact ⟨rfl, _, World.drewN_drewN _ _ _⟩ | exact ⟨rfl, _, Eq.trans (World.drewN_drewN _ _ _) (congrArg (World.drewN _) (Nat.add_assoc _ _ _))⟩)) | (go_at_call 35; (with_reducible refine (strings_Cut.calls t134 (⟨#[46]⟩ : ByteArray) t135 t136 t137 _ ?side1 A5.out).mono ?_); (case side1 => first | exact HGMax.out | exact GlobMax.below HGMax.out (by repeat (first | (with_reducible first | exact HB.out | apply below_alloc | apply pw_below_drewN | apply below_drew1) | exact HB.out)) | exact GlobMax.drawn HGMax.out (by repeat (first | exact Drawn0.refl _ | apply Drawn0.step))); rintro e w' ⟨rfl, ⟨nd, rfl⟩⟩; (try first | exact ⟨rfl, _, World.drewN_drewN _ _ _⟩ | exact ⟨rfl, _, Eq.trans (World.drewN_drewN _ _ _) (congrArg (World.drewN _) (Nat.add_assoc _ _ _))⟩)) | (go_at_call 30; (with_reducible refine (attribute_all.calls k (t135 ++ t136) (⟨#[48, 49, 50, 51, 52, 53, 54, 55, 56, 57]⟩ : ByteArray) 38 false _ A7.out).mono ?_); rintro e w' ⟨rfl, ⟨nd, rfl⟩⟩; (try first | exact ⟨rfl, _, World.drewN_drewN _ _ _⟩ | exact ⟨rfl, _, Eq.trans (World.drewN_drewN _ _ _) (congrArg (World.drewN _) (Nat.add_assoc _ _ _))⟩))))
      go_ret
      exact ⟨by first | rfl | (simp [errW_none, errW_some] <;> rfl) | (simp [*, errW_none, errW_some] <;> rfl), by repeat (first | (with_reducible first | exact HB.out | apply below_alloc | apply pw_below_drewN | apply below_drew1) | exact HB.out)⟩
  · rw [if_neg c6] at H
    exact absurd H (by simp)

end Go.Proofs.YtolpefnedpgaaaaDoor.X

