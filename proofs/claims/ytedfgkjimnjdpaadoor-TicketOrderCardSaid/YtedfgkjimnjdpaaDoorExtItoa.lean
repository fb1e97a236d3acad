/-
  basic.Itoa answers the decimal digits of its number: the walk through its loop.
-/
import Derived.Test.YtedfgkjimnjdpaaDoorExtItoaPure
import Derived.Test.YtedfgkjimnjdpaaDoorWMore
import Derived.Test.YtedfgkjimnjdpaaDoorProg
import Derived.WalkKit
import Derived.WalkLawsBesides
import Derived.WalkSpells
namespace Go.Proofs.YtedfgkjimnjdpaaDoor.X
open Go.RowKit Go.Proofs.YtedfgkjimnjdpaaDoorW.PrintWords
set_option linter.unusedVariables false
set_option linter.unusedSimpArgs false
theorem itoa_arr : Tryd.prog.underlying 131 = some (.array (Tryd.prog.arrayLen 131) (Tryd.prog.elem 131)) := by kernel_rfl
theorem itoa_len : Tryd.prog.arrayLen 131 = 20 := by kernel_rfl
theorem itoa_size (W : World) : (sizeOf (Tryd.prog.elem 131)).run Tryd.prog W = .ok 1 W := by kernel_rfl
theorem itoa_slice (B : Nat) (k : Int) (h0 : 0 ≤ k) (h1 : k ≤ 19) (W : World) :
    (Instr.sliceAt 131 (.pointer (some ⟨B, 0, none⟩)) (some (.int .i64 k)) none none).run Tryd.prog W = .ok (.slice (some ⟨B, k.toNat, none⟩) (20 - k.toNat) (20 - k.toNat)) W := by
  rw [run_sliceAt_array_l W 131 ⟨B, 0, none⟩ itoa_arr .i64 k h0 (by rw [itoa_len]; omega), itoa_size, itoa_len]
  simp only [Result.andThen, slicedAt]
  rw [if_neg (by omega)]
  unfold Addr.add
  split
  · rename_i hz
    have : k.toNat = 0 := by omega
    rw [this]
  · simp
theorem itoa_conv (B p : Nat) (d : List Int) (hl : d.length = 20) (hp : p < 20) (W : World) (hb : W.heap[B]? = some (.cells (nums .u8 d).toArray 131 (0, 0))) :
    (convert 49 9 (.slice (some ⟨B, p, none⟩) (20 - p) (20 - p))).run Tryd.prog W = .ok (.string (strOfNums (d.drop p))) W := by
  refine string_of_reads Tryd.underlying49 Tryd.underlying5 Tryd.underlying9 ⟨by rw [List.length_drop, hl], by omega, fun _ => ⟨_, rfl, fun j hj => ?_⟩⟩
  have := blk_cell hb (p + j)
  have e : (Addr.add ⟨B, p, none⟩ j) = ⟨B, p + j, none⟩ := by unfold Addr.add; split <;> simp_all
  rw [e, this]
  simp only [nums, List.getElem?_toArray, List.getElem?_map, List.getD_eq_getElem?_getD, List.getElem?_drop]
  rw [List.getElem?_eq_getElem (by omega)]
  rfl
theorem itoa_set (d : List Int) (j : Nat) (x : Int) : (nums .u8 d).toArray.setIfInBounds j (.int .u8 x) = (nums .u8 (d.set j x)).toArray := by
  simp [nums, List.map_set]
theorem ret_str {a b : ByteArray} (h : a = b) : Ending.returned (.string a) = .returned (.string b) := by rw [h]
set_option maxHeartbeats 1000000 in
set_option maxRecDepth 100000 in
theorem itoa_pos (n : Int) (h0 : 0 ≤ n) (h1 : n ≤ 9223372036854775807) (w : World) : Calls Tryd.prog 60 #[.int .i64 n] w fun e w' => e = .returned (.string ⟨(Lib.decDigits n.toNat).toArray⟩) ∧ Below w.heap.size w w' := by
  have hd : decide (n < 0) = false := by simpa using h0
  go_enter Tryd.func60, Tryd.ntmps60
  go_wp2
  go_loopw [4, 5] (fun i x wr => ∃ (k v : Nat) (d : List Int), i = .int .i64 k ∧ x = .int .u64 v ∧ wr.heap[w.heap.size]? = some (.cells (nums .u8 d).toArray 131 (0, 0)) ∧ ItoaInv n.toNat k v d ∧ Below w.heap.size w wr)
    (fun i _ _ => (intOf i).toNat)
  case atStart => exact ⟨20, n.toNat, List.replicate 20 0, rfl, by rw [Int.toNat_of_nonneg h0], heap_alloc_new w _, ItoaInv.start (by omega) _ (by simp), (Below.refl _ _).alloc (Nat.le_refl _) _⟩
  case round =>
    obtain ⟨k, v, d, rfl, rfl, hb, hinv, hbel⟩ := hrel
    have hk1 := hinv.pos
    have hk2 := hinv.le
    have hlen := hinv.len
    have hv0 : (0 : Int) ≤ (v : Int) := by omega
    have hv1 : (v : Int) ≤ 18446744073709551615 := by
      have := Nat.div_le_self n.toNat (10 ^ (20 - k))
      have := hinv.rest
      omega
    have hcell : wr.cell? ⟨w.heap.size, k - 1, none⟩ = some (.int .u8 (d.getD (k - 1) 0)) := by
      rw [blk_cell hb]
      simp only [nums, List.getElem?_toArray, List.getElem?_map, List.getD_eq_getElem?_getD]
      rw [List.getElem?_eq_getElem (by omega)]
      rfl
    have hfr : wr.frozen? ⟨w.heap.size, k - 1, none⟩ = false := blk_frozen hb _
    have hsl := itoa_slice w.heap.size ((k : Int) - 1) (by omega) (by omega)
    have hb2 : (wr.setCell ⟨w.heap.size, k - 1, none⟩ (.int .u8 (48 + (v : Int) % 10))).heap[w.heap.size]? = some (.cells (nums .u8 (d.set (k - 1) (48 + (v : Int) % 10))).toArray 131 (0, 0)) := by
      rw [← itoa_set]; exact blk_set hb _ _
    have hcv := itoa_conv w.heap.size (k - 1) _ (by rw [List.length_set]; exact hlen) (by omega) _ hb2
    rw [show ((k : Int) - 1).toNat = k - 1 by omega] at hsl
    have hB2 := Lib.hid hb2
    have hB := Lib.hid hb
    have hL := Lib.hid hlen
    clear hb2 hb hlen
    by_cases hv : v / 10 = 0
    · have hq : ((v : Int) / 10 == 0) = true := by simp; omega
      go_wp2
      go_ret
      exact ⟨ret_str (by rw [hinv.result hv, strOfNums_map]), hbel.setCell (by simp) _⟩
    · have hq : ((v : Int) / 10 == 0) = false := by simp; omega
      go_wp2
      go_roundw
      case rel => exact ⟨k - 1, v / 10, _, by rw [show ((k - 1 : Nat) : Int) = (k : Int) - 1 by omega], by rw [show ((v / 10 : Nat) : Int) = (v : Int) / 10 by omega], hB2.out, hinv.next hv, hbel.setCell (by simp) _⟩
      case measure => simp [intOf]; omega
set_option maxHeartbeats 1000000 in
set_option maxRecDepth 100000 in
theorem itoa_neg (m : Nat) (h0 : 0 < m) (h1 : m ≤ 9223372036854775808) (w : World) : Calls Tryd.prog 60 #[.int .i64 (-(m : Int))] w fun e w' => e = .returned (.string ⟨(45 :: Lib.decDigits m).toArray⟩) ∧ Below w.heap.size w w' := by
  have hd : decide (-(m : Int) < 0) = true := by simp; omega
  have hw : IntKind.u64.wrap (-IntKind.u64.wrap (-(m : Int))) = (m : Int) := by unfold IntKind.wrap; simp [IntKind.signed, IntKind.bits]; omega
  go_enter Tryd.func60, Tryd.ntmps60
  go_wp2
  go_loopw [4, 5] (fun i x wr => ∃ (k v : Nat) (d : List Int), i = .int .i64 k ∧ x = .int .u64 v ∧ wr.heap[w.heap.size]? = some (.cells (nums .u8 d).toArray 131 (0, 0)) ∧ ItoaInv m k v d ∧ Below w.heap.size w wr)
    (fun i _ _ => (intOf i).toNat)
  case atStart => exact ⟨20, m, List.replicate 20 0, rfl, rfl, heap_alloc_new w _, ItoaInv.start (by omega) _ (by simp), (Below.refl _ _).alloc (Nat.le_refl _) _⟩
  case round =>
    obtain ⟨k, v, d, rfl, rfl, hb, hinv, hbel⟩ := hrel
    have hk1 := hinv.pos
    have hk2 := hinv.le
    have hlen := hinv.len
    have hv0 : (0 : Int) ≤ (v : Int) := by omega
    have hv1 : (v : Int) ≤ 18446744073709551615 := by
      have := Nat.div_le_self m (10 ^ (20 - k))
      have := hinv.rest
      omega
    have hcell : wr.cell? ⟨w.heap.size, k - 1, none⟩ = some (.int .u8 (d.getD (k - 1) 0)) := by
      rw [blk_cell hb]
      simp only [nums, List.getElem?_toArray, List.getElem?_map, List.getD_eq_getElem?_getD]
      rw [List.getElem?_eq_getElem (by omega)]
      rfl
    have hfr : wr.frozen? ⟨w.heap.size, k - 1, none⟩ = false := blk_frozen hb _
    have hcell2 : wr.cell? ⟨w.heap.size, k - 1 - 1, none⟩ = some (.int .u8 (d.getD (k - 1 - 1) 0)) := by
      rw [blk_cell hb]
      simp only [nums, List.getElem?_toArray, List.getElem?_map, List.getD_eq_getElem?_getD]
      rw [List.getElem?_eq_getElem (by omega)]
      rfl
    have hfr2 : wr.frozen? ⟨w.heap.size, k - 1 - 1, none⟩ = false := blk_frozen hb _
    have hsl := itoa_slice w.heap.size ((k : Int) - 1 - 1) (by omega) (by omega)
    have hb2 : (wr.setCell ⟨w.heap.size, k - 1, none⟩ (.int .u8 (48 + (v : Int) % 10))).heap[w.heap.size]? = some (.cells (nums .u8 (d.set (k - 1) (48 + (v : Int) % 10))).toArray 131 (0, 0)) := by
      rw [← itoa_set]; exact blk_set hb _ _
    have hb3 : ((wr.setCell ⟨w.heap.size, k - 1, none⟩ (.int .u8 (48 + (v : Int) % 10))).setCell ⟨w.heap.size, k - 1 - 1, none⟩ (.int .u8 45)).heap[w.heap.size]? = some (.cells (nums .u8 ((d.set (k - 1) (48 + (v : Int) % 10)).set (k - 1 - 1) 45)).toArray 131 (0, 0)) := by
      rw [← itoa_set]; exact blk_set hb2 _ _
    have hcv := itoa_conv w.heap.size (k - 1 - 1) _ (by rw [List.length_set, List.length_set]; exact hlen) (by omega) _ hb3
    have hcell3 : (wr.setCell ⟨w.heap.size, k - 1, none⟩ (.int .u8 (48 + (v : Int) % 10))).cell? ⟨w.heap.size, k - 1 - 1, none⟩ = some (.int .u8 ((d.set (k - 1) (48 + (v : Int) % 10)).getD (k - 1 - 1) 0)) := by
      rw [blk_cell hb2]
      simp only [nums, List.getElem?_toArray, List.getElem?_map, List.getD_eq_getElem?_getD]
      rw [List.getElem?_eq_getElem (by rw [List.length_set]; omega)]
      rfl
    have hfr3 : (wr.setCell ⟨w.heap.size, k - 1, none⟩ (.int .u8 (48 + (v : Int) % 10))).frozen? ⟨w.heap.size, k - 1 - 1, none⟩ = false := blk_frozen hb2 _
    clear hb3
    rw [show ((k : Int) - 1 - 1).toNat = k - 1 - 1 by omega] at hsl
    have hB2 := Lib.hid hb2
    have hB := Lib.hid hb
    have hL := Lib.hid hlen
    clear hb2 hb hlen
    by_cases hv : v / 10 = 0
    · have hq : ((v : Int) / 10 == 0) = true := by simp; omega
      go_wp2
      go_ret
      exact ⟨ret_str (by rw [show k - 1 - 1 = k - 2 by omega, hinv.resultN hL.out hv]; exact strOfNums_map (45 :: Lib.decDigits m)), (hbel.setCell (by simp) _).setCell (by simp) _⟩
    · have hq : ((v : Int) / 10 == 0) = false := by simp; omega
      go_wp2
      go_roundw
      case rel => exact ⟨k - 1, v / 10, _, by rw [show ((k - 1 : Nat) : Int) = (k : Int) - 1 by omega], by rw [show ((v / 10 : Nat) : Int) = (v : Int) / 10 by omega], hB2.out, hinv.next hv, hbel.setCell (by simp) _⟩
      case measure => simp [intOf]; omega
/-- basic.Itoa. -/
def basic_Itoa.f (n : Int) : Option ByteArray := if -9223372036854775808 ≤ n ∧ n ≤ 9223372036854775807 then some ⟨(Lib.itoa n).toArray⟩ else none
theorem basic_Itoa.calls (a0 : Int) (r : ByteArray) (w : World) (h : basic_Itoa.f a0 = some r) :
    Calls Tryd.prog 60 #[.int .i64 a0] w fun e w' => e = .returned (.string r) ∧ Below w.heap.size w w' := by
  unfold basic_Itoa.f at h
  split at h
  · rename_i hh
    obtain rfl := Option.some.inj h
    unfold Lib.itoa
    by_cases hn : a0 < 0
    · rw [if_pos hn]
      obtain ⟨m, rfl⟩ : ∃ m : Nat, a0 = -(m : Int) := ⟨a0.natAbs, by omega⟩
      rw [Int.natAbs_neg, Int.natAbs_natCast]
      exact itoa_neg m (by omega) (by omega) w
    · rw [if_neg hn]
      exact itoa_pos a0 (by omega) hh.2 w
  · exact absurd h (by simp)
end Go.Proofs.YtedfgkjimnjdpaaDoor.X
