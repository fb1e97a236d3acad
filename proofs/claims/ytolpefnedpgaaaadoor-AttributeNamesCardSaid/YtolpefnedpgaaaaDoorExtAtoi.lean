/-
  basic.Atoi answers the number that decimal digits tell: the walk.
-/
import Derived.Test.YtolpefnedpgaaaaDoorExtAtoiPure
import Derived.Test.YtolpefnedpgaaaaDoorShelf
import Derived.WalkKit
import Derived.BigQuiet
import Derived.Lib.Hide
import Derived.Test.YtolpefnedpgaaaaDoorProg
import Derived.WalkLawsBesides
import Derived.WalkSpells
namespace Go.Proofs.YtolpefnedpgaaaaDoor.X
open Go.RowKit Go.Proofs.YtolpefnedpgaaaaDoorW.PrintWords
set_option linter.unusedVariables false
set_option linter.unusedSimpArgs false
theorem ret_two {a b : Int × Int} (h : a = b) : Ending.returned (.tuple #[.int .i64 a.1, .int .i64 a.2]) = .returned (.tuple #[.int .i64 b.1, .int .i64 b.2]) := by rw [h]
set_option maxHeartbeats 2000000 in
set_option maxRecDepth 100000 in
theorem atoi_loop (s t : ByteArray) (m : Bool) (w : World) (ht : (⟨(Lib.trimPrefix s.data.toList [45]).toArray⟩ : ByteArray) = t) (hm : decide (t.size < s.size) = m)
    (h1 : 0 < t.size) (h2 : t.size ≤ 19) (h3 : ((t[0]'h1).toNat : Int) ≠ 48) :
    Calls Tryd.prog 38 #[.string s] w fun e w' => e = .returned (.tuple #[.int .i64 (atoiT m t.data.toList).1, .int .i64 (atoiT m t.data.toList).2]) ∧ w' = w := by
  have HT := Lib.hid ht
  clear ht
  have e1 : t.toList.isEmpty = false := toList_ne t h1
  have hnil : ¬ (t.data.toList = [] ∨ 19 < t.data.toList.length ∨ (t.data.toList.headD 0 = 48 ∧ (1 < t.data.toList.length ∨ m = true))) := atoi_not t m h1 h2 h3
  have hAt : ∀ v, digVal 0 t.data.toList = v → atoiT m t.data.toList = match v with | none => (0, 5) | some u => if m = true then (if u ≤ 9223372036854775808 then (-(u : Int), 0) else (0, 5)) else (if u ≤ 9223372036854775807 then ((u : Int), 0) else (0, 5)) := by
    intro v hv; subst hv; unfold atoiT; rw [if_neg hnil]; rfl
  have HA := Lib.hid hAt
  clear hnil hAt
  have e3 : (((t[0]'h1).toNat : Int) == 48) = false := by simpa using h3
  go_enter Tryd.func38, Tryd.ntmps38
  go_wp2_with (go_at_call 68; refine (Tryd.strings_TrimPrefix _ _ _).mono ?_; rintro e w1 ⟨rfl, rfl⟩; simp only [HT.out])
  go_loop [6, 37] (fun x i => ∃ k u : Nat, k ≤ t.size ∧ x = .int .u64 u ∧ i = .int .i64 k ∧ Hid (digVal 0 (t.data.toList.take k) = some u)) (fun _ i => t.size - (intOf i).toNat)
  case atStart => exact ⟨0, 0, Nat.zero_le _, rfl, rfl, Lib.hid rfl⟩
  case round =>
    obtain ⟨k, u, hk, rfl, rfl, hu⟩ := hrel
    by_cases hlt : k < t.size
    · have hb : (u : Int) ≤ 1000000000000000000 := by
        have := digVal_lt _ _ _ hu.out
        have hl : (t.data.toList.take k).length = k := by rw [List.length_take, Array.length_toList]; have : k < t.data.size := hlt; omega
        rw [hl] at this
        have h18 : 10 ^ k ≤ 10 ^ 18 := Nat.pow_le_pow_right (by omega) (by omega)
        have : (10 : Nat) ^ 18 = 1000000000000000000 := by decide
        omega
      have hu0 : (0 : Int) ≤ (u : Int) := by omega
      have hc1 : (0 : Int) ≤ ((t[k]'hlt).toNat : Int) := by omega
      have hc2 : ((t[k]'hlt).toNat : Int) ≤ 255 := by have := (t[k]'hlt).toNat_lt; omega
      have hts := Lib.hid (take_succ_bytes t k hlt)
      have hsn := Lib.hid (digVal_snoc (t[k]'hlt) (t.data.toList.take k) 0)
      have hdr := Lib.hid (digVal_stop t k hlt)
      by_cases hd1 : ((t[k]'hlt).toNat : Int) < 48
      · have hq1 : decide (((t[k]'hlt).toNat : Int) < 48) = true := decide_eq_true hd1
        go_wp2
        go_ret2
        exact ⟨ret_two (a := (0, 5)) (HA.out _ (hdr.out (by omega))).symm, rfl⟩
      · have hq1 : decide (((t[k]'hlt).toNat : Int) < 48) = false := decide_eq_false hd1
        by_cases hd2 : (57 : Int) < ((t[k]'hlt).toNat : Int)
        · have hq2 : decide ((57 : Int) < ((t[k]'hlt).toNat : Int)) = true := decide_eq_true hd2
          go_wp2
          go_ret2
          exact ⟨ret_two (a := (0, 5)) (HA.out _ (hdr.out (by omega))).symm, rfl⟩
        · have hq2 : decide ((57 : Int) < ((t[k]'hlt).toNat : Int)) = false := decide_eq_false hd2
          go_wp2
          refine ⟨⟨k + 1, 10 * u + ((t[k]'hlt).toNat - 48), by omega, ?_, by go_num, Lib.hid ?_⟩, by simp [intOf]; omega⟩
          · rw [show ((10 * u + ((t[k]'hlt).toNat - 48) : Nat) : Int) = 10 * (u : Int) + (((t[k]'hlt).toNat : Int) - 48) by omega]
          · rw [hts.out, hsn.out, hu.out, Option.bind_some, if_pos (by omega)]
    · have hke : k = t.size := by omega
      subst hke
      have hdv : digVal 0 t.data.toList = some u := by have := hu.out; rwa [List.take_of_length_le (by simp)] at this
      have HD := Lib.hid (HA.out _ hdv)
      clear hdv hu
      cases m with
      | true =>
        by_cases hb : u ≤ 9223372036854775808
        · have hq : decide ((u : Int) ≤ 9223372036854775808) = true := by simp; omega
          have hw : IntKind.i64.wrap (IntKind.u64.wrap (-(u : Int))) = -(u : Int) := by unfold IntKind.wrap; simp [IntKind.signed, IntKind.bits]; omega
          go_wp2
          go_ret2
          exact ⟨ret_two (a := (-(u : Int), 0)) (by rw [HD.out]; simp only [if_true, if_pos hb]), rfl⟩
        · have hq : decide ((u : Int) ≤ 9223372036854775808) = false := by simp; omega
          go_wp2
          go_ret2
          exact ⟨ret_two (a := (0, 5)) (by rw [HD.out]; simp only [if_true, if_neg hb]), rfl⟩
      | false =>
        by_cases hb : u ≤ 9223372036854775807
        · have hq : decide ((u : Int) ≤ 9223372036854775807) = true := by simp; omega
          go_wp2
          go_ret2
          exact ⟨ret_two (a := ((u : Int), 0)) (by rw [HD.out]; simp only [if_false, Bool.false_eq_true, if_pos hb]), rfl⟩
        · have hq : decide ((u : Int) ≤ 9223372036854775807) = false := by simp; omega
          go_wp2
          go_ret2
          exact ⟨ret_two (a := (0, 5)) (by rw [HD.out]; simp only [if_false, Bool.false_eq_true, if_neg hb]), rfl⟩
set_option maxHeartbeats 2000000 in
set_option maxRecDepth 100000 in
theorem atoi_none (s t : ByteArray) (w : World) (ht : (⟨(Lib.trimPrefix s.data.toList [45]).toArray⟩ : ByteArray) = t) (h : t.size = 0) :
    Calls Tryd.prog 38 #[.string s] w fun e w' => e = .returned (.tuple #[.int .i64 0, .int .i64 5]) ∧ w' = w := by
  have HT := Lib.hid ht
  clear ht
  have e1 : t.toList.isEmpty = true := by
    have : t.toList = t.data.toList := ByteArray.toList_eq t
    rw [this, List.isEmpty_iff, ← List.length_eq_zero_iff]; simpa using h
  clear h
  go_enter Tryd.func38, Tryd.ntmps38
  go_wp2_with (go_at_call 68; refine (Tryd.strings_TrimPrefix _ _ _).mono ?_; rintro e w1 ⟨rfl, rfl⟩; simp only [HT.out])
  go_ret2
  exact ⟨rfl, rfl⟩
set_option maxHeartbeats 2000000 in
set_option maxRecDepth 100000 in
theorem atoi_long (s t : ByteArray) (w : World) (ht : (⟨(Lib.trimPrefix s.data.toList [45]).toArray⟩ : ByteArray) = t) (h1 : 0 < t.size) (h2 : (19 : Int) < t.size) :
    Calls Tryd.prog 38 #[.string s] w fun e w' => e = .returned (.tuple #[.int .i64 0, .int .i64 5]) ∧ w' = w := by
  have HT := Lib.hid ht
  clear ht
  have e1 : t.toList.isEmpty = false := toList_ne t h1
  have e2 : decide ((19 : Int) < (t.size : Int)) = true := decide_eq_true h2
  go_enter Tryd.func38, Tryd.ntmps38
  go_wp2_with (go_at_call 68; refine (Tryd.strings_TrimPrefix _ _ _).mono ?_; rintro e w1 ⟨rfl, rfl⟩; simp only [HT.out])
  go_ret2
  exact ⟨rfl, rfl⟩
set_option maxHeartbeats 2000000 in
set_option maxRecDepth 100000 in
theorem atoi_nought (s t : ByteArray) (m : Bool) (w : World) (ht : (⟨(Lib.trimPrefix s.data.toList [45]).toArray⟩ : ByteArray) = t) (hm : decide (t.size < s.size) = m)
    (h1 : 0 < t.size) (h2 : t.size ≤ 19) (h3 : ((t[0]'h1).toNat : Int) = 48) (h4 : 1 < t.size ∨ m = true) :
    Calls Tryd.prog 38 #[.string s] w fun e w' => e = .returned (.tuple #[.int .i64 0, .int .i64 5]) ∧ w' = w := by
  have HT := Lib.hid ht
  clear ht
  have e1 : t.toList.isEmpty = false := toList_ne t h1
  have e3 : (((t[0]'h1).toNat : Int) == 48) = true := by rw [beq_iff_eq]; exact h3
  by_cases h5 : 1 < t.size
  · have e5 : decide ((1 : Int) < (t.size : Int)) = true := by simp; omega
    have e6 : decide (1 < t.size) = true := by simp; omega
    clear h4 h3
    go_enter Tryd.func38, Tryd.ntmps38
    go_wp2_with (go_at_call 68; refine (Tryd.strings_TrimPrefix _ _ _).mono ?_; rintro e w1 ⟨rfl, rfl⟩; simp only [HT.out])
    go_ret2
    exact ⟨rfl, rfl⟩
  · obtain rfl := h4.resolve_left h5
    have e5 : decide ((1 : Int) < (t.size : Int)) = false := by simp; omega
    have e6 : decide (1 < t.size) = false := by simp; omega
    clear h4 h3
    go_enter Tryd.func38, Tryd.ntmps38
    go_wp2_with (go_at_call 68; refine (Tryd.strings_TrimPrefix _ _ _).mono ?_; rintro e w1 ⟨rfl, rfl⟩; simp only [HT.out])
    go_ret2
    exact ⟨rfl, rfl⟩
set_option maxHeartbeats 2000000 in
set_option maxRecDepth 100000 in
/-- 0 itself. -/
theorem atoi_zero (s t : ByteArray) (w : World) (ht : (⟨(Lib.trimPrefix s.data.toList [45]).toArray⟩ : ByteArray) = t) (hm : decide (t.size < s.size) = false)
    (h1 : 0 < t.size) (h2 : t.size = 1) (h3 : ((t[0]'h1).toNat : Int) = 48) :
    Calls Tryd.prog 38 #[.string s] w fun e w' => e = .returned (.tuple #[.int .i64 0, .int .i64 0]) ∧ w' = w := by
  obtain rfl : t = ⟨#[48]⟩ := by
    obtain ⟨⟨l⟩⟩ := t
    match l, h2 with
    | [c], _ =>
      have : c.toNat = 48 := by have : (c.toNat : Int) = 48 := h3; omega
      have : c = 48 := by apply UInt8.toNat.inj; exact this
      subst this
      rfl
  clear h1 h2 h3
  have HT := Lib.hid ht
  clear ht
  have hm0 : ¬ (1 < s.size) := of_decide_eq_false hm
  have hm1 : decide (1 < s.size) = false := hm
  have hm2 : decide ((1 : Int) < (s.size : Int)) = false := by simp; omega
  clear hm hm0
  go_enter Tryd.func38, Tryd.ntmps38
  go_wp2_with (go_at_call 68; refine (Tryd.strings_TrimPrefix _ _ _).mono ?_; rintro e w1 ⟨rfl, rfl⟩; simp only [HT.out])
  refine wp_loop_rounds 2 ?_
  rw [rounds_succ]
  go_wp2
  rw [rounds_succ]
  go_wp2
  go_ret2
  exact ⟨rfl, rfl⟩
/-- basic.Atoi. -/
def basic_Atoi.f (s : ByteArray) : Option (Int × Int) := some (atoiB s)
theorem basic_Atoi.calls (a0 : ByteArray) (r1 r2 : Int) (w : World) (h : basic_Atoi.f a0 = some (r1, r2)) :
    Calls Tryd.prog 38 #[.string a0] w fun e w' => e = .returned (.tuple #[.int .i64 r1, .int .i64 r2]) ∧ Drawn0 w w' := by
  have h' : atoiB a0 = (r1, r2) := Option.some.inj h
  clear h
  have key : Calls Tryd.prog 38 #[.string a0] w fun e w' => e = .returned (.tuple #[.int .i64 (atoiB a0).1, .int .i64 (atoiB a0).2]) ∧ w' = w := by
    obtain ⟨t, ht⟩ : ∃ t : ByteArray, (⟨(Lib.trimPrefix a0.data.toList [45]).toArray⟩ : ByteArray) = t := ⟨_, rfl⟩
    have htd : t.data.toList = Lib.trimPrefix a0.data.toList [45] := by rw [← ht]
    have hts : t.size = (Lib.trimPrefix a0.data.toList [45]).length := by rw [← htd]; simp
    have hm : decide (t.size < a0.size) = Lib.hasPrefix a0.data.toList [45] := by rw [hts]; exact trim_less a0
    have hl : t.data.toList.length = t.size := by simp
    by_cases h0 : t.size = 0
    · have : atoiB a0 = (0, 5) := by
        unfold atoiB atoiT
        rw [if_pos (.inl (by rw [← htd]; exact List.length_eq_zero_iff.mp (by omega)))]
      rw [this]
      exact atoi_none a0 t w ht h0
    · by_cases h19 : (19 : Int) < t.size
      · have : atoiB a0 = (0, 5) := by
          unfold atoiB atoiT
          rw [if_pos (.inr (.inl (by rw [← htd]; omega)))]
        rw [this]
        exact atoi_long a0 t w ht (by omega) h19
      · by_cases h48 : ((t[0]'(by omega)).toNat : Int) = 48
        · have hhead : t.data.toList.headD 0 = 48 := by
            have e : t.data.toList.headD 0 = t[0]'(by omega) := by
              rw [List.headD_eq_head?_getD, List.head?_eq_getElem?, List.getElem?_eq_getElem (by omega)]
              rfl
            rw [e]
            apply UInt8.toNat.inj
            show (t[0]'(by omega)).toNat = 48
            omega
          by_cases h4 : 1 < t.size ∨ Lib.hasPrefix a0.data.toList [45] = true
          · have : atoiB a0 = (0, 5) := by
              unfold atoiB atoiT
              rw [if_pos (.inr (.inr ⟨by rw [← htd]; exact hhead, by rw [← htd, hl]; exact h4⟩))]
            rw [this]
            exact atoi_nought a0 t _ w ht hm (by omega) (by omega) h48 h4
          · have hone : t.size = 1 := by omega
            have hz : atoiB a0 = (0, 0) := by
              unfold atoiB atoiT
              rw [← htd]
              have hneg : ¬ (t.data.toList = [] ∨ 19 < t.data.toList.length ∨ (t.data.toList.headD 0 = 48 ∧ (1 < t.data.toList.length ∨ Lib.hasPrefix a0.data.toList [45] = true))) := by
                rw [hl]
                rintro (e | e | ⟨_, e⟩)
                · rw [e] at hl
                  simp at hl
                  omega
                · omega
                · exact h4 e
              rw [if_neg hneg]
              match hd : t.data.toList, hl with
              | [c], _ =>
                rw [hd] at hhead
                simp at hhead
                subst hhead
                have : Lib.hasPrefix a0.data.toList [45] = false := by cases hh : Lib.hasPrefix a0.data.toList [45] <;> simp_all
                rw [this]
                decide
              | [], e => rw [hone] at e; simp at e
              | _ :: _ :: _, e => rw [hone] at e; simp at e
            rw [hz]
            exact atoi_zero a0 t w ht (by rw [hm]; cases hh : Lib.hasPrefix a0.data.toList [45] <;> simp_all) (by omega) hone h48
        · have := atoi_loop a0 t _ w ht hm (by omega) (by omega) h48
          rw [htd] at this
          exact this
  rw [h'] at key
  refine key.mono ?_
  rintro e w' ⟨rfl, rfl⟩
  exact ⟨rfl, Drawn0.refl _⟩
end Go.Proofs.YtolpefnedpgaaaaDoor.X
