/-
  (*fingerprint.Print).mix: a block taken into the words.
-/
import Derived.Test.YtolpefnedpgaaaaDoorExtFp1
import Derived.StillTailTactics
import Derived.Lib.Hide
namespace Go.Proofs.YtolpefnedpgaaaaDoor.X
open Go.RowKit Go.Proofs.YtolpefnedpgaaaaDoorW.PrintWords
set_option linter.unusedVariables false
set_option linter.unusedSimpArgs false
def sinesL : List Int := [0xd76aa478, 0xe8c7b756, 0x242070db, 0xc1bdceee, 0xf57c0faf, 0x4787c62a, 0xa8304613, 0xfd469501, 0x698098d8, 0x8b44f7af, 0xffff5bb1, 0x895cd7be, 0x6b901122, 0xfd987193, 0xa679438e, 0x49b40821, 0xf61e2562, 0xc040b340, 0x265e5a51, 0xe9b6c7aa, 0xd62f105d, 0x02441453, 0xd8a1e681, 0xe7d3fbc8, 0x21e1cde6, 0xc33707d6, 0xf4d50d87, 0x455a14ed, 0xa9e3e905, 0xfcefa3f8, 0x676f02d9, 0x8d2a4c8a, 0xfffa3942, 0x8771f681, 0x6d9d6122, 0xfde5380c, 0xa4beea44, 0x4bdecfa9, 0xf6bb4b60, 0xbebfbc70, 0x289b7ec6, 0xeaa127fa, 0xd4ef3085, 0x04881d05, 0xd9d4d039, 0xe6db99e5, 0x1fa27cf8, 0xc4ac5665, 0xf4292244, 0x432aff97, 0xab9423a7, 0xfc93a039, 0x655b59c3, 0x8f0ccc92, 0xffeff47d, 0x85845dd1, 0x6fa87e4f, 0xfe2ce6e0, 0xa3014314, 0x4e0811a1, 0xf7537e82, 0xbd3af235, 0x2ad7d2bb, 0xeb86d391]
def turnsL : List Int := [7, 12, 17, 22, 5, 9, 14, 20, 4, 11, 16, 23, 6, 10, 15, 21]
/-- What the two tables hold. -/
def FpTables (w : World) : Prop := w.heap[1]? = some (.cells (nums .u32 sinesL).toArray 116 (0, 0)) ∧ w.heap[2]? = some (.cells (nums .i64 turnsL).toArray 118 (0, 0))
/-- The state's cells. -/
def fpCells (ws bl : List Int) (n : Int) : List Value := .bool true :: (nums .u32 ws ++ (nums .u8 bl ++ [.int .i64 n]))
/-- A word of a block. -/
def word4 (b0 b1 b2 b3 : Int) : Int := bits .or .u32 (bits .or .u32 (bits .or .u32 (b0 % 4294967296) (b1 % 4294967296 * 256 % 4294967296)) (b2 % 4294967296 * 65536 % 4294967296)) (b3 % 4294967296 * 16777216 % 4294967296)
def fpWord (bl : List Int) (i : Nat) : Int := word4 (bl.getD (4 * i) 0) (bl.getD (4 * i + 1) 0) (bl.getD (4 * i + 2) 0) (bl.getD (4 * i + 3) 0)
def fpM (bl : List Int) (i : Nat) : List Int := (List.range i).map (fpWord bl) ++ List.replicate (16 - i) 0
theorem nums_set32 (d : List Int) (j : Nat) (x : Int) : (nums .u32 d).toArray.setIfInBounds j (.int .u32 x) = (nums .u32 (d.set j x)).toArray := by
  simp [nums, List.map_set]
theorem fpM_set (bl : List Int) (k : Nat) (h : k < 16) : (fpM bl k).set k (fpWord bl k) = fpM bl (k + 1) := by
  unfold fpM
  rw [List.set_append, if_neg (by simp), show 16 - k = (16 - (k + 1)) + 1 by omega, List.replicate_succ, List.range_succ]
  simp
/-- One of the 64 steps. -/
def fpStep (m : List Int) (i : Nat) (s : Int × Int × Int × Int) : Int × Int × Int × Int :=
  (s.2.2.2, (s.2.1 + rotl (((((fstep i s.2.1 s.2.2.1 s.2.2.2).1 + s.1) % 4294967296 + sinesL.getD i 0) % 4294967296 + m.getD (fstep i s.2.1 s.2.2.1 s.2.2.2).2.toNat 0) % 4294967296) (turnsL.getD (4 * (i / 16) + i % 4) 0)) % 4294967296, s.2.1, s.2.2.1)
def fpRun (m : List Int) (s : Int × Int × Int × Int) : Nat → Int × Int × Int × Int
  | 0 => s
  | i + 1 => fpStep m i (fpRun m s i)
theorem fstep_snd (i b c d : Int) (h0 : 0 ≤ i) (h1 : i < 64) : 0 ≤ (fstep i b c d).2 ∧ (fstep i b c d).2 < 16 := by
  unfold fstep
  split
  · simp only; omega
  · split
    · simp only; omega
    · split
      · simp only; omega
      · simp only; omega
theorem turns_lt (j : Nat) (h : j < 16) : 0 ≤ turnsL.getD j 0 ∧ turnsL.getD j 0 < 32 := by
  have : ∀ j : Fin 16, 0 ≤ turnsL.getD j.val 0 ∧ turnsL.getD j.val 0 < 32 := by decide
  exact this ⟨j, h⟩
theorem four_of {l : List Int} (h : l.length = 4) : ∃ a b c d, l = [a, b, c, d] := by
  match l, h with
  | [a, b, c, d], _ => exact ⟨a, b, c, d, rfl⟩
/-- What a block makes of the words. -/
def mixW (ws bl : List Int) : List Int :=
  [(ws.getD 0 0 + (fpRun (fpM bl 16) (ws.getD 0 0, ws.getD 1 0, ws.getD 2 0, ws.getD 3 0) 64).1) % 4294967296,
   (ws.getD 1 0 + (fpRun (fpM bl 16) (ws.getD 0 0, ws.getD 1 0, ws.getD 2 0, ws.getD 3 0) 64).2.1) % 4294967296,
   (ws.getD 2 0 + (fpRun (fpM bl 16) (ws.getD 0 0, ws.getD 1 0, ws.getD 2 0, ws.getD 3 0) 64).2.2.1) % 4294967296,
   (ws.getD 3 0 + (fpRun (fpM bl 16) (ws.getD 0 0, ws.getD 1 0, ws.getD 2 0, ws.getD 3 0) 64).2.2.2) % 4294967296]
/-- A block alone, of the elder ones, has been written. -/
structure Upd (B : Nat) (w w' : World) : Prop where
  os : w'.os = w.os
  tape : w'.tape = w.tape
  output : w'.output = w.output
  size : w.heap.size ≤ w'.heap.size
  block : ∀ k, k < w.heap.size → k ≠ B → w'.heap[k]? = w.heap[k]?
theorem Upd.refl (B : Nat) (w : World) : Upd B w w := ⟨rfl, rfl, rfl, Nat.le_refl _, fun _ _ _ => rfl⟩
theorem Upd.trans {B : Nat} {a b c : World} (h : Upd B a b) (k : Upd B b c) : Upd B a c :=
  ⟨k.os.trans h.os, k.tape.trans h.tape, k.output.trans h.output, Nat.le_trans h.size k.size, fun i hi hb => (k.block i (Nat.lt_of_lt_of_le hi h.size) hb).trans (h.block i hi hb)⟩
theorem Upd.of_below {B : Nat} {w w' : World} (h : Below w.heap.size w w') : Upd B w w' := ⟨h.os, h.tape, h.output, h.size, fun k hk _ => h.block k hk⟩
theorem Upd.set {B : Nat} {w w' : World} (h : Upd B w w') (j : Nat) (u : Value) : Upd B w (w'.setCell ⟨B, j, none⟩ u) :=
  ⟨h.os, h.tape, h.output, by simpa [World.setCell] using h.size, fun k hk hb => (Below.heap_setCell w' ⟨B, j, none⟩ u k hb).trans (h.block k hk hb)⟩
theorem Upd.below {B base : Nat} {w w' : World} (h : Upd B w w') (hb : base ≤ B) (hs : base ≤ w.heap.size) : Below base w w' := ⟨h.os, h.tape, h.output, h.size, fun k hk => h.block k (by omega) (by omega)⟩
theorem at_array (t : TypeId) (len B o : Nat) (i : Int) (j : Nat) (W : World) (hj : i = j) (hl : j < len) (ht : Tryd.prog.underlying t = some (.array (Tryd.prog.arrayLen t) (Tryd.prog.elem t))) (hn : Tryd.prog.arrayLen t = len) (hs : ∀ W, (sizeOf (Tryd.prog.elem t)).run Tryd.prog W = .ok 1 W) :
    (Instr.indexAt t (.pointer (some ⟨B, o, none⟩)) (.int .i64 i)).run Tryd.prog W = .ok (.pointer (some ⟨B, o + j, none⟩)) W := by
  rw [run_indexAt_array W t ⟨B, o, none⟩ .i64 i ht, hn, hs, if_pos (by omega)]
  simp only [Result.andThen]
  subst hj
  simp only [Int.toNat_natCast, Nat.mul_one]
  unfold Addr.add
  split
  · rename_i hz
    rw [hz, Nat.add_zero]
  · rfl
theorem at_block (B : Nat) (i : Int) (j : Nat) (W : World) (hj : i = j) (hl : j < 64) :
    (Instr.indexAt 95 (.pointer (some ⟨B, 5, none⟩)) (.int .i64 i)).run Tryd.prog W = .ok (.pointer (some ⟨B, 5 + j, none⟩)) W :=
  at_array 95 64 B 5 i j W hj hl (by kernel_rfl) (by kernel_rfl) (fun W => by kernel_rfl)
theorem at_m (B : Nat) (i : Int) (j : Nat) (W : World) (hj : i = j) (hl : j < 16) :
    (Instr.indexAt 112 (.pointer (some ⟨B, 0, none⟩)) (.int .i64 i)).run Tryd.prog W = .ok (.pointer (some ⟨B, j, none⟩)) W := by
  have := at_array 112 16 B 0 i j W hj hl (by kernel_rfl) (by kernel_rfl) (fun W => by kernel_rfl)
  rw [Nat.zero_add] at this
  exact this
theorem at_sines (i : Int) (j : Nat) (W : World) (hj : i = j) (hl : j < 64) :
    (Instr.indexAt 116 (.pointer (some ⟨1, 0, none⟩)) (.int .i64 i)).run Tryd.prog W = .ok (.pointer (some ⟨1, j, none⟩)) W := by
  have := at_array 116 64 1 0 i j W hj hl (by kernel_rfl) (by kernel_rfl) (fun W => by kernel_rfl)
  rw [Nat.zero_add] at this
  exact this
theorem at_turns (i : Int) (j : Nat) (W : World) (hj : i = j) (hl : j < 4) :
    (Instr.indexAt 118 (.pointer (some ⟨2, 0, none⟩)) (.int .i64 i)).run Tryd.prog W = .ok (.pointer (some ⟨2, 4 * j, none⟩)) W := by
  have hs : ∀ W, (sizeOf (Tryd.prog.elem 118)).run Tryd.prog W = .ok 4 W := fun W => by kernel_rfl
  have hn : Tryd.prog.arrayLen 118 = 4 := by kernel_rfl
  rw [run_indexAt_array W 118 ⟨2, 0, none⟩ .i64 i (by kernel_rfl), hn, hs, if_pos (by omega)]
  simp only [Result.andThen]
  subst hj
  simp only [Int.toNat_natCast]
  unfold Addr.add
  split
  · rename_i hz
    rw [show 4 * j = 0 by omega]
  · simp [Nat.mul_comm]
set_option maxHeartbeats 2000000 in
set_option maxRecDepth 100000 in
theorem mix_calls (B : Nat) (ws bl : List Int) (n : Int) (w : World) (hw : ws.length = 4) (hbl : bl.length = 64) (hT : FpTables w) (hB : w.heap[B]? = some (.cells (fpCells ws bl n).toArray 97 (0, 0))) :
    Calls Tryd.prog 78 #[.pointer (some ⟨B, 0, none⟩)] w fun e w' => e = .returned (.tuple #[]) ∧ w'.heap[B]? = some (.cells (fpCells (mixW ws bl) bl n).toArray 97 (0, 0)) ∧ Upd B w w' := by
  have hBlt : B < w.heap.size := (Array.getElem?_eq_some_iff.mp hB).1
  go_enter Tryd.func78, Tryd.ntmps78
  go_wp2
  go_loopw [11] (fun i wr => ∃ (k : Nat), i = .int .i64 k ∧ k ≤ 16 ∧ wr.heap[w.heap.size]? = some (.cells (nums .u32 (fpM bl k)).toArray 112 (0, 0)) ∧ Below w.heap.size w wr)
    (fun i _ => (16 - intOf i).toNat)
  case atStart => exact ⟨0, rfl, by omega, heap_alloc_new w _, (Below.refl _ _).alloc (Nat.le_refl _) _⟩
  case round =>
    obtain ⟨k, rfl, hk, hm, hbel⟩ := hrel
    by_cases h16 : k < 16
    · have hlt : decide ((k : Int) < 16) = true := by simp; omega
      have hBr : wr.heap[B]? = some (.cells (fpCells ws bl n).toArray 97 (0, 0)) := by rw [hbel.block B hBlt]; exact hB
      have hd : wr.drew.heap[B]? = some (.cells (fpCells ws bl n).toArray 97 (0, 0)) := hBr
      have cell : ∀ j, j < 64 → (fpCells ws bl n).toArray[5 + j]? = some (.int .u8 (bl.getD j 0)) := by
        intro j hj
        simp only [fpCells, nums, List.getElem?_toArray]
        rw [show 5 + j = (4 + j) + 1 by omega, List.getElem?_cons_succ, List.getElem?_append_right (by simp; omega), List.getElem?_append_left (by simp; omega)]
        simp only [List.length_map, hw, List.getElem?_map, List.getD_eq_getElem?_getD]
        rw [show 4 + j - 4 = j by omega, List.getElem?_eq_getElem (by omega)]
        rfl
      have hword : fpWord bl k = word4 (bl.getD (4 * k) 0) (bl.getD (4 * k + 1) 0) (bl.getD (4 * k + 2) 0) (bl.getD (4 * k + 3) 0) := rfl
      have c0 : wr.drew.cell? ⟨B, 5 + 4 * k, none⟩ = some (.int .u8 (bl.getD (4 * k) 0)) := by rw [blk_cell hd]; exact cell _ (by omega)
      have c1 : wr.drew.cell? ⟨B, 5 + (4 * k + 1), none⟩ = some (.int .u8 (bl.getD (4 * k + 1) 0)) := by rw [blk_cell hd]; exact cell _ (by omega)
      have c2 : wr.drew.cell? ⟨B, 5 + (4 * k + 2), none⟩ = some (.int .u8 (bl.getD (4 * k + 2) 0)) := by rw [blk_cell hd]; exact cell _ (by omega)
      have c3 : wr.drew.cell? ⟨B, 5 + (4 * k + 3), none⟩ = some (.int .u8 (bl.getD (4 * k + 3) 0)) := by rw [blk_cell hd]; exact cell _ (by omega)
      have hmd : wr.drew.heap[w.heap.size]? = some (.cells (nums .u32 (fpM bl k)).toArray 112 (0, 0)) := hm
      have hbeld : Below w.heap.size w wr.drew := ⟨hbel.os, hbel.tape, hbel.output, hbel.size, hbel.block⟩
      have hlen : (fpM bl k).length = 16 := by simp [fpM]; omega
      have hset : (fpM bl k).set k (fpWord bl k) = fpM bl (k + 1) := fpM_set bl k h16
      have hcm : wr.drew.cell? ⟨w.heap.size, k, none⟩ = some (.int .u32 ((fpM bl k).getD k 0)) := by
        rw [blk_cell hmd]
        simp only [nums, List.getElem?_toArray, List.getElem?_map, List.getD_eq_getElem?_getD]
        rw [List.getElem?_eq_getElem (by omega)]
        rfl
      have hfr : wr.drew.frozen? ⟨w.heap.size, k, none⟩ = false := blk_frozen hmd _
      have hb2 : (wr.drew.setCell ⟨w.heap.size, k, none⟩ (.int .u32 (fpWord bl k))).heap[w.heap.size]? = some (.cells (nums .u32 (fpM bl (k + 1))).toArray 112 (0, 0)) := by
        rw [← hset, ← nums_set32]; exact blk_set hmd _ _
      generalize bl.getD (4 * k) 0 = b0 at *
      generalize bl.getD (4 * k + 1) 0 = b1 at *
      generalize bl.getD (4 * k + 2) 0 = b2 at *
      generalize bl.getD (4 * k + 3) 0 = b3 at *
      rw [hword] at hb2
      have HM := Lib.hid hb2
      clear hb2 hset hword hmd hm hd hBr
      have e0 : IntKind.i64.wrap (4 * (k : Int)) = 4 * (k : Int) := IntWalk.i64_in _ (by omega)
      have e1 : IntKind.i64.wrap (4 * (k : Int) + 1) = 4 * (k : Int) + 1 := IntWalk.i64_in _ (by omega)
      have e2 : IntKind.i64.wrap (4 * (k : Int) + 2) = 4 * (k : Int) + 2 := IntWalk.i64_in _ (by omega)
      have e3 : IntKind.i64.wrap (4 * (k : Int) + 3) = 4 * (k : Int) + 3 := IntWalk.i64_in _ (by omega)
      have l0 := fun W => at_block B (4 * (k : Int)) (4 * k) W (by omega) (by omega)
      have l1 := fun W => at_block B (4 * (k : Int) + 1) (4 * k + 1) W (by omega) (by omega)
      have l2 := fun W => at_block B (4 * (k : Int) + 2) (4 * k + 2) W (by omega) (by omega)
      have l3 := fun W => at_block B (4 * (k : Int) + 3) (4 * k + 3) W (by omega) (by omega)
      have lm := fun W => at_m w.heap.size (k : Int) k W (by omega) (by omega)
      go_wp2
      go_still_tail 43, (by kernel_rfl)
      change wpList _ _ _ _ _ wr.drew
      generalize wr.drew = w2 at *
      go_wp2
      go_roundw
      case rel => exact ⟨k + 1, rfl, by omega, HM.out, hbeld.setCell (by simp) _⟩
      case measure => simp [intOf]; omega
    · have hk16 : k = 16 := by omega
      subst hk16
      clear h16 hk
      have hcell : ∀ W : World, W.heap[B]? = some (.cells (fpCells ws bl n).toArray 97 (0, 0)) → ∀ j, j < 4 → W.cell? ⟨B, 1 + j, none⟩ = some (.int .u32 (ws.getD j 0)) := by
        intro W hW j hj
        rw [blk_cell hW]
        simp only [fpCells, nums, List.getElem?_toArray]
        rw [show 1 + j = j + 1 by omega, List.getElem?_cons_succ, List.getElem?_append_left (by simp; omega)]
        simp only [List.getElem?_map, List.getD_eq_getElem?_getD]
        rw [List.getElem?_eq_getElem (by omega)]
        rfl
      have hBr : wr.heap[B]? = some (.cells (fpCells ws bl n).toArray 97 (0, 0)) := by rw [hbel.block B hBlt]; exact hB
      have c0 := hcell wr.drew hBr 0 (by omega)
      have c1 := hcell wr.drew hBr 1 (by omega)
      have c2 := hcell wr.drew hBr 2 (by omega)
      have c3 := hcell wr.drew hBr 3 (by omega)
      obtain ⟨v0, hv0⟩ : ∃ v, ws.getD 0 0 = v := ⟨_, rfl⟩
      rw [hv0] at c0
      obtain ⟨v1, hv1⟩ : ∃ v, ws.getD 1 0 = v := ⟨_, rfl⟩
      rw [hv1] at c1
      obtain ⟨v2, hv2⟩ : ∃ v, ws.getD 2 0 = v := ⟨_, rfl⟩
      rw [hv2] at c2
      obtain ⟨v3, hv3⟩ : ∃ v, ws.getD 3 0 = v := ⟨_, rfl⟩
      rw [hv3] at c3
      go_wp2
      go_still (by kernel_rfl)
      have hbeld : Below w.heap.size w wr.drew := hbel.drew
      have hmd : wr.drew.heap[w.heap.size]? = some (.cells (nums .u32 (fpM bl 16)).toArray 112 (0, 0)) := hm
      clear c0 c1 c2 c3 hBr hm hbel
      change Exit.then _ _ Exit.normal _ wr.drew
      generalize wr.drew = w2 at *
      clear wr
      have hml : (fpM bl 16).length = 16 := by simp [fpM]
      obtain ⟨m, hmm⟩ : ∃ m, fpM bl 16 = m := ⟨_, rfl⟩
      rw [hmm] at hmd hml
      go_wp2
      go_loopw [4, 5, 6, 7, 78] (fun a b c d i wr => ∃ (k : Nat) (s : Int × Int × Int × Int), i = .int .i64 k ∧ k ≤ 64 ∧ s = fpRun m (v0, v1, v2, v3) k ∧ a = .int .u32 s.1 ∧ b = .int .u32 s.2.1 ∧ c = .int .u32 s.2.2.1 ∧ d = .int .u32 s.2.2.2 ∧ wr.heap[w.heap.size]? = some (.cells (nums .u32 m).toArray 112 (0, 0)) ∧ Below w.heap.size w wr)
        (fun _ _ _ _ i _ => (64 - intOf i).toNat)
      case atStart => exact ⟨0, _, rfl, by omega, rfl, rfl, rfl, rfl, rfl, hmd, hbeld⟩
      case round =>
        obtain ⟨k, ⟨a, b, c, d⟩, rfl, hk, hs, rfl, rfl, rfl, rfl, hm, hbel⟩ := hrel
        simp only
        by_cases h64 : k < 64
        · have hlt : decide ((k : Int) < 64) = true := by simp; omega
          have hfc := fun W => fstep_calls (k : Int) b c d (by omega) (by omega) W
          obtain ⟨g0, g1⟩ := fstep_snd (k : Int) b c d (by omega) (by omega)
          have hst : fpStep m k (a, b, c, d) = fpRun m (v0, v1, v2, v3) (k + 1) := by rw [fpRun, hs]
          unfold fpStep at hst
          simp only at hst
          obtain ⟨⟨f, g⟩, hfg⟩ : ∃ p, fstep (k : Int) b c d = p := ⟨_, rfl⟩
          rw [hfg] at hfc g0 g1 hst
          simp only at hfc g0 g1 hst
          obtain ⟨g, rfl⟩ := Int.eq_ofNat_of_zero_le g0
          simp only [Int.toNat_natCast] at hst
          obtain ⟨t0, t1⟩ := turns_lt (4 * (k / 16) + k % 4) (by omega)
          have hs1 : wr.drew.cell? ⟨1, k, none⟩ = some (.int .u32 (sinesL.getD k 0)) := by
            rw [blk_cell (t := 116) (cs := (nums .u32 sinesL).toArray) (by rw [World.drew]; rw [hbel.block _ (Array.getElem?_eq_some_iff.mp hT.1).1]; exact hT.1)]
            simp only [nums, List.getElem?_toArray, List.getElem?_map, List.getD_eq_getElem?_getD]
            rw [List.getElem?_eq_getElem (show k < sinesL.length from h64)]
            rfl
          have ht1 : wr.drew.cell? ⟨2, 4 * (k / 16) + k % 4, none⟩ = some (.int .i64 (turnsL.getD (4 * (k / 16) + k % 4) 0)) := by
            rw [blk_cell (t := 118) (cs := (nums .i64 turnsL).toArray) (by rw [World.drew]; rw [hbel.block _ (Array.getElem?_eq_some_iff.mp hT.2).1]; exact hT.2)]
            simp only [nums, List.getElem?_toArray, List.getElem?_map, List.getD_eq_getElem?_getD]
            rw [List.getElem?_eq_getElem (show 4 * (k / 16) + k % 4 < turnsL.length from (by have : turnsL.length = 16 := rfl; omega))]
            rfl
          have hm1 : wr.drew.cell? ⟨w.heap.size, g, none⟩ = some (.int .u32 (m.getD g 0)) := by
            rw [blk_cell (t := 112) (cs := (nums .u32 m).toArray) (w := wr.drew) hm]
            simp only [nums, List.getElem?_toArray, List.getElem?_map, List.getD_eq_getElem?_getD]
            rw [List.getElem?_eq_getElem (show g < m.length by omega)]
            rfl
          have ls : ∀ W, (Instr.indexAt 116 (.pointer (some ⟨1, 0, none⟩)) (.int .i64 (k : Int))).run Tryd.prog W = .ok (.pointer (some ⟨1, k, none⟩)) W := fun W => at_sines (k : Int) k W rfl h64
          have lt1 : ∀ W, (Instr.indexAt 118 (.pointer (some ⟨2, 0, none⟩)) (.int .i64 ((k : Int) / 16))).run Tryd.prog W = .ok (.pointer (some ⟨2, 4 * (k / 16), none⟩)) W := fun W => at_turns ((k : Int) / 16) (k / 16) W (by omega) (by omega)
          have lt2 : ∀ W, (Instr.indexAt 117 (.pointer (some ⟨2, 4 * (k / 16), none⟩)) (.int .i64 ((k : Int) % 4))).run Tryd.prog W = .ok (.pointer (some ⟨2, 4 * (k / 16) + k % 4, none⟩)) W := fun W => at_array 117 4 2 (4 * (k / 16)) ((k : Int) % 4) (k % 4) W (by omega) (by omega) (by kernel_rfl) (by kernel_rfl) (fun W => by kernel_rfl)
          have lm := fun W => at_m w.heap.size (g : Int) g W rfl (by omega)
          have ww : IntKind.i64.wrap ((k : Int) / 16) = (k : Int) / 16 := IntWalk.i64_in _ (by omega)
          have wd : (k : Int).tdiv 16 = (k : Int) / 16 := Int.tdiv_eq_ediv_of_nonneg (by omega)
          have wm : (k : Int).tmod 4 = (k : Int) % 4 := Int.tmod_eq_emod_of_nonneg (by omega)
          generalize sinesL.getD k 0 = sn at *
          generalize turnsL.getD (4 * (k / 16) + k % 4) 0 = tn at *
          generalize m.getD g 0 = mg at *
          go_wp2_with (go_at_call 100; refine (hfc _).mono ?_; rintro e w1 ⟨rfl, rfl⟩)
          refine wp_region_still_lit (by kernel_rfl) (by kernel_rfl) ?_
          repeat still_step
          still_call (rotl_calls _ _ t0 t1 _)
          repeat still_step
          refine wpStill_nil ?_
          change Exit.then _ _ Exit.normal _ w1.drew
          have hmd : w1.drew.heap[w.heap.size]? = some (.cells (nums .u32 m).toArray 112 (0, 0)) := hm
          have hbeld : Below w.heap.size w w1.drew := hbel.drew
          clear hs1 ht1 hm1 hm hbel
          generalize w1.drew = w3 at *
          go_wp2
          go_roundw
          case rel => exact ⟨k + 1, _, rfl, by omega, hst, rfl, rfl, rfl, rfl, hmd, hbeld⟩
          case measure => simp [intOf]; omega
        · have hk64 : k = 64 := by omega
          subst hk64
          clear h64 hk
          have hBr : wr.heap[B]? = some (.cells (fpCells ws bl n).toArray 97 (0, 0)) := by rw [hbel.block B hBlt]; exact hB
          have c0 := hcell wr.drew hBr 0 (by omega)
          have c1 := hcell wr.drew hBr 1 (by omega)
          have c2 := hcell wr.drew hBr 2 (by omega)
          have c3 := hcell wr.drew hBr 3 (by omega)
          rw [hv0] at c0
          rw [hv1] at c1
          rw [hv2] at c2
          rw [hv3] at c3
          go_wp2
          go_still_tail 32, (by kernel_rfl)
          change wpList _ _ _ _ _ wr.drew
          have hBd : wr.drew.heap[B]? = some (.cells (fpCells ws bl n).toArray 97 (0, 0)) := hBr
          have hbd : Below w.heap.size w wr.drew := hbel.drew
          clear hBr hm hmd
          generalize wr.drew = w3 at *
          have f0 : w3.frozen? ⟨B, 1, none⟩ = false := blk_frozen hBd 1
          have hs0 : (w3.setCell ⟨B, 1, none⟩ (.int .u32 ((v0 + a) % 4294967296))).heap[B]? = some (.cells ((fpCells ws bl n).toArray.setIfInBounds 1 (.int .u32 ((v0 + a) % 4294967296))) 97 (0, 0)) := blk_set hBd 1 _
          have e1 := blk_frozen hBd 2
          have e2 := blk_frozen hBd 3
          have e3 := blk_frozen hBd 4
          have f1 := blk_frozen hs0 2
          have g1 : ((w3.setCell ⟨B, 1, none⟩ (.int .u32 ((v0 + a) % 4294967296))).cell? ⟨B, 2, none⟩).isSome = true := by rw [blk_cell hs0]; simp [fpCells, nums, hw]; omega
          have hs1 := blk_set hs0 2 (.int .u32 ((v1 + b) % 4294967296))
          have f2 := blk_frozen hs1 3
          have hs2 := blk_set hs1 3 (.int .u32 ((v2 + c) % 4294967296))
          have f3 := blk_frozen hs2 4
          have hs3 := blk_set hs2 4 (.int .u32 ((v3 + d) % 4294967296))
          have hfin : ((((fpCells ws bl n).toArray.setIfInBounds 1 (.int .u32 ((v0 + a) % 4294967296))).setIfInBounds 2 (.int .u32 ((v1 + b) % 4294967296))).setIfInBounds 3 (.int .u32 ((v2 + c) % 4294967296))).setIfInBounds 4 (.int .u32 ((v3 + d) % 4294967296)) = (fpCells (mixW ws bl) bl n).toArray := by
            obtain ⟨y0, y1, y2, y3, rfl⟩ := four_of hw
            unfold mixW
            rw [hv0, hv1, hv2, hv3, hmm, ← hs]
            simp [fpCells, nums]
          have HF := Lib.hid hs3
          have HN := Lib.hid hfin
          clear hs0 hs1 hs2 hs3 hBd hfin
          go_wp2
          go_end0
          exact ⟨rfl, by rw [← HN.out]; exact HF.out, ((((Upd.of_below hbd).set 1 _).set 2 _).set 3 _).set 4 _⟩
end Go.Proofs.YtolpefnedpgaaaaDoor.X
