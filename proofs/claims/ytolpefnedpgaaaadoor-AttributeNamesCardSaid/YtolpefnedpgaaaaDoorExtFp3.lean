/-
  (*fingerprint.Print).Write: bytes taken into a fingerprint.
-/
import Derived.Test.YtolpefnedpgaaaaDoorExtFp2
import Derived.Lib.ConvBytes
namespace Go.Proofs.YtolpefnedpgaaaaDoor.X
open Go.RowKit Go.Proofs.YtolpefnedpgaaaaDoorW.PrintWords
set_option linter.unusedVariables false
set_option linter.unusedSimpArgs false
/-- A fingerprint that is being made. -/
structure Fp where
  ws : List Int
  bl : List Int
  n : Nat
def Fp.Ok (s : Fp) : Prop := s.ws.length = 4 ∧ s.bl.length = 64
def Fp.cells (s : Fp) : Array Value := (fpCells s.ws s.bl s.n).toArray
/-- A byte more. -/
def Fp.byte (s : Fp) (x : Int) : Fp :=
  if (s.n + 1) % 64 = 0 then ⟨mixW s.ws (s.bl.set (s.n % 64) x), s.bl.set (s.n % 64) x, s.n + 1⟩ else ⟨s.ws, s.bl.set (s.n % 64) x, s.n + 1⟩
def Fp.bytes (s : Fp) (l : List Int) : Fp := l.foldl Fp.byte s
theorem Fp.byte_ok {s : Fp} (h : s.Ok) (x : Int) : (s.byte x).Ok := by
  unfold Fp.byte
  split
  · exact ⟨rfl, by simp [h.2]⟩
  · exact ⟨h.1, by simp [h.2]⟩
theorem Fp.byte_n (s : Fp) (x : Int) : (s.byte x).n = s.n + 1 := by
  unfold Fp.byte
  split <;> rfl
theorem Fp.bytes_ok {s : Fp} (h : s.Ok) (l : List Int) : (s.bytes l).Ok := by
  induction l generalizing s with
  | nil => exact h
  | cons x l ih => exact ih (Fp.byte_ok h x)
theorem Fp.bytes_n (s : Fp) (l : List Int) : (s.bytes l).n = s.n + l.length := by
  induction l generalizing s with
  | nil => rfl
  | cons x l ih =>
    show ((s.byte x).bytes l).n = _
    rw [ih, Fp.byte_n, List.length_cons]
    omega
theorem Fp.bytes_snoc (s : Fp) (l : List Int) (x : Int) : s.bytes (l ++ [x]) = (s.bytes l).byte x := by simp [Fp.bytes]
theorem fpCells_n (ws bl : List Int) (n : Int) (h : ws.length = 4) (hb : bl.length = 64) : (fpCells ws bl n).toArray[69]? = some (.int .i64 n) := by
  simp only [fpCells, nums, List.getElem?_toArray]
  rw [List.getElem?_cons_succ, List.getElem?_append_right (by simp [h]), List.getElem?_append_right (by simp [h, hb])]
  simp [h, hb]
theorem fpCells_set (ws bl : List Int) (n : Int) (h : ws.length = 4) (hb : bl.length = 64) (j : Nat) (hj : j < 64) (x : Int) : (fpCells ws bl n).toArray.setIfInBounds (5 + j) (.int .u8 x) = (fpCells ws (bl.set j x) n).toArray := by
  obtain ⟨a, b, c, d, rfl⟩ := four_of h
  simp only [fpCells, nums, List.setIfInBounds_toArray, List.map_cons, List.map_nil, List.cons_append, List.nil_append]
  rw [show 5 + j = j + 1 + 1 + 1 + 1 + 1 by omega]
  simp only [List.set_cons_succ]
  rw [List.set_append, if_pos (by simp; omega), List.map_set]
theorem fpCells_setn (ws bl : List Int) (n m : Int) (h : ws.length = 4) (hb : bl.length = 64) : (fpCells ws bl n).toArray.setIfInBounds 69 (.int .i64 m) = (fpCells ws bl m).toArray := by
  obtain ⟨a, b, c, d, rfl⟩ := four_of h
  simp only [fpCells, nums, List.setIfInBounds_toArray, List.map_cons, List.map_nil, List.cons_append, List.nil_append, List.set_cons_succ]
  rw [List.set_append, if_neg (by simp [hb])]
  simp [hb]
theorem fpCells_blk (ws bl : List Int) (n : Int) (h : ws.length = 4) (hb : bl.length = 64) (j : Nat) (hj : j < 64) : (fpCells ws bl n).toArray[5 + j]? = some (.int .u8 (bl.getD j 0)) := by
  simp only [fpCells, nums, List.getElem?_toArray]
  rw [show 5 + j = (4 + j) + 1 by omega, List.getElem?_cons_succ, List.getElem?_append_right (by simp; omega), List.getElem?_append_left (by simp; omega)]
  simp only [List.length_map, h, List.getElem?_map, List.getD_eq_getElem?_getD]
  rw [show 4 + j - 4 = j by omega, List.getElem?_eq_getElem (by omega)]
  rfl
/-- Bytes that are read, of another block than the state's. -/
def BytesAt (B : Nat) (w : World) (A : Option Addr) (l : List Int) : Prop :=
  l = [] ∨ ∃ M, A = some ⟨M, 0, none⟩ ∧ M ≠ B ∧ M < w.heap.size ∧ ∀ w' : World, w'.heap[M]? = w.heap[M]? → ∀ j, j < l.length → w'.cell? ⟨M, j, none⟩ = some (.int .u8 (l.getD j 0))
set_option maxHeartbeats 1000000 in
set_option maxRecDepth 100000 in
theorem none_calls (B : Nat) (cs : List Value) (w : World) (hB : w.heap[B]? = some (.cells (.bool true :: cs).toArray 97 (0, 0))) :
    Calls Tryd.prog 77 #[.pointer (some ⟨B, 0, none⟩)] w fun e w' => e = .returned (.bool false) ∧ w' = w := by
  have h0 : w.cell? ⟨B, 0, none⟩ = some (.bool true) := by rw [blk_cell hB]; rfl
  have HB := Lib.hid hB
  clear hB
  go_enter Tryd.func77, Tryd.ntmps77
  go_wp2
  go_ret
  exact ⟨rfl, rfl⟩
theorem fp_none (B : Nat) (s : Fp) (w : World) (hB : w.heap[B]? = some (.cells s.cells 97 (0, 0))) :
    Calls Tryd.prog 77 #[.pointer (some ⟨B, 0, none⟩)] w fun e w' => e = .returned (.bool false) ∧ w' = w :=
  none_calls B (nums .u32 s.ws ++ (nums .u8 s.bl ++ [Value.int .i64 s.n])) w hB
theorem at_bytes (M : Nat) (len c : Nat) (i : Int) (j : Nat) (W : World) (hj : i = j) (hl : j < len) :
    (Instr.indexAt 63 (.slice (some ⟨M, 0, none⟩) len c) (.int .i64 i)).run Tryd.prog W = .ok (.pointer (some ⟨M, j, none⟩)) W := by
  have hs : ∀ W, (sizeOf (Tryd.prog.elem 63)).run Tryd.prog W = .ok 1 W := fun W => by kernel_rfl
  rw [run_indexAt_slice W 63 ⟨M, 0, none⟩ len c .i64 i (by kernel_rfl), hs, if_pos (by omega)]
  subst hj
  simp only [Result.andThen, Int.toNat_natCast, Nat.mul_one]
  unfold Addr.add
  split
  · rename_i hz
    rw [hz]
  · simp
theorem FpTables.upd {B : Nat} {w w' : World} (h : FpTables w) (hu : Upd B w w') (h1 : 1 ≠ B) (h2 : 2 ≠ B) : FpTables w' :=
  ⟨(hu.block _ (Array.getElem?_eq_some_iff.mp h.1).1 h1).trans h.1, (hu.block _ (Array.getElem?_eq_some_iff.mp h.2).1 h2).trans h.2⟩
set_option pp.maxSteps 100000 in
set_option pp.deepTerms true in
set_option maxHeartbeats 2000000 in
set_option maxRecDepth 100000 in
theorem write_calls (B : Nat) (s : Fp) (A : Option Addr) (l : List Int) (c : Nat) (w : World) (hs : s.Ok) (hn : s.n + l.length ≤ 9223372036854775807) (hT : FpTables w) (hb1 : 1 ≠ B) (hb2 : 2 ≠ B) (hB : w.heap[B]? = some (.cells s.cells 97 (0, 0))) (hA : BytesAt B w A l) :
    Calls Tryd.prog 48 #[.pointer (some ⟨B, 0, none⟩), .slice A l.length c] w fun e w' => e = .returned (.int .i64 0) ∧ w'.heap[B]? = some (.cells (s.bytes l).cells 97 (0, 0)) ∧ Upd B w w' := by
  have hBlt : B < w.heap.size := (Array.getElem?_eq_some_iff.mp hB).1
  go_enter Tryd.func48, Tryd.ntmps48
  go_wp2_with (go_at_call 77; refine (fp_none B s _ hB).mono ?_; rintro e w1 ⟨rfl, rfl⟩)
  go_loopw [11] (fun i wr => ∃ (k : Nat), i = .int .i64 k ∧ k ≤ l.length ∧ wr.heap[B]? = some (.cells (s.bytes (l.take k)).cells 97 (0, 0)) ∧ Upd B w1 wr)
    (fun i _ => (l.length - intOf i).toNat)
  case atStart => exact ⟨0, rfl, by omega, by simpa [Fp.bytes] using hB, Upd.refl _ _⟩
  case round =>
    obtain ⟨k, rfl, hk, hB1, hu⟩ := hrel
    by_cases hlt : k < l.length
    · rcases hA with rfl | ⟨M, rfl, hMB, hMlt, hM⟩
      · simp at hlt
      have hd : decide ((k : Int) < l.length) = true := by simp; omega
      have hok := Fp.bytes_ok hs (l.take k)
      have hnn := Fp.bytes_n s (l.take k)
      rw [List.length_take, Nat.min_eq_left (by omega)] at hnn
      have hstep : s.bytes (l.take (k + 1)) = (s.bytes (l.take k)).byte (l.getD k 0) := by
        rw [← Fp.bytes_snoc, List.take_add_one, List.getD_eq_getElem?_getD, List.getElem?_eq_getElem hlt]
        rfl
      have hx := hM wr (hu.block M hMlt hMB) k hlt
      generalize l.getD k 0 = x at *
      generalize s.bytes (l.take k) = t at *
      obtain ⟨ws, bl, n⟩ := t
      obtain ⟨hw4, hb64⟩ := hok
      simp only at hnn hw4 hb64
      have hn1 : n + 1 ≤ 9223372036854775807 := by omega
      have HNN := Lib.hid hnn
      clear hnn
      have la := fun W => at_bytes M l.length c (k : Int) k W rfl hlt
      have hBd : wr.drew.heap[B]? = some (.cells (fpCells ws bl n).toArray 97 (0, 0)) := hB1
      have hud : Upd B w1 wr.drew := ⟨hu.os, hu.tape, hu.output, hu.size, hu.block⟩
      have hj : n % 64 < 64 := Nat.mod_lt _ (by omega)
      have cN : wr.drew.cell? ⟨B, 69, none⟩ = some (.int .i64 n) := by rw [blk_cell hBd]; exact fpCells_n ws bl n hw4 hb64
      have cb : wr.drew.cell? ⟨B, 5 + n % 64, none⟩ = some (.int .u8 (bl.getD (n % 64) 0)) := by rw [blk_cell hBd]; exact fpCells_blk ws bl n hw4 hb64 _ hj
      have fb : wr.drew.frozen? ⟨B, 5 + n % 64, none⟩ = false := blk_frozen hBd _
      have wm : (n : Int).tmod 64 = (n : Int) % 64 := Int.tmod_eq_emod_of_nonneg (by omega)
      have ww : IntKind.i64.wrap ((n : Int) % 64) = (n : Int) % 64 := IntWalk.i64_in _ (by omega)
      have lb := fun W => at_block B ((n : Int) % 64) (n % 64) W (by omega) hj
      have hB3 : (wr.drew.setCell ⟨B, 5 + n % 64, none⟩ (.int .u8 x)).heap[B]? = some (.cells (fpCells ws (bl.set (n % 64) x) n).toArray 97 (0, 0)) := by
        rw [← fpCells_set ws bl n hw4 hb64 _ hj]; exact blk_set hBd _ _
      have hb65 : (bl.set (n % 64) x).length = 64 := by simp [hb64]
      have cN3 : (wr.drew.setCell ⟨B, 5 + n % 64, none⟩ (.int .u8 x)).cell? ⟨B, 69, none⟩ = some (.int .i64 n) := by rw [blk_cell hB3]; exact fpCells_n ws _ n hw4 hb65
      have fN : wr.drew.frozen? ⟨B, 69, none⟩ = false := blk_frozen hBd _
      have hB4 : ((wr.drew.setCell ⟨B, 5 + n % 64, none⟩ (.int .u8 x)).setCell ⟨B, 69, none⟩ (.int .i64 ((n : Int) + 1))).heap[B]? = some (.cells (fpCells ws (bl.set (n % 64) x) ((n : Int) + 1)).toArray 97 (0, 0)) := by
        rw [← fpCells_setn ws _ n _ hw4 hb65]; exact blk_set hB3 _ _
      have hu4 : Upd B w1 ((wr.drew.setCell ⟨B, 5 + n % 64, none⟩ (.int .u8 x)).setCell ⟨B, 69, none⟩ (.int .i64 ((n : Int) + 1))) := (hud.set _ _).set _ _
      have HB4 := Lib.hid hB4
      have HS := Lib.hid hstep
      clear hB4 hB3 hBd hB1 hB hud hstep
      go_wp2
      go_still_tail 10, (by kernel_rfl)
      change wpList _ _ _ _ _ wr.drew
      generalize wr.drew = w2 at *
      by_cases h64 : (n + 1) % 64 = 0
      · have hq : (((n : Int) + 1) % 64 == 0) = true := by simp; omega
        go_wp2_with (go_at_call 78; refine (mix_calls B ws _ _ _ hw4 hb65 (hT.upd hu4 hb1 hb2) HB4.out).mono ?_; rintro e w5 ⟨rfl, hB5, hu5⟩)
        go_roundw
        case rel =>
          refine ⟨k + 1, rfl, by omega, ?_, (hu4.trans hu5)⟩
          rw [HS.out]
          unfold Fp.byte
          simp only
          rw [if_pos h64]
          exact hB5
        case measure => simp [intOf]; omega
      · have hq : (((n : Int) + 1) % 64 == 0) = false := by simp; omega
        go_wp2
        go_roundw
        case rel =>
          refine ⟨k + 1, rfl, by omega, ?_, hu4⟩
          rw [HS.out]
          unfold Fp.byte
          simp only
          rw [if_neg h64]
          exact HB4.out
        case measure => simp [intOf]; omega
    · have hkl : k = l.length := by omega
      subst hkl
      rw [List.take_length] at hB1
      have HB1 := Lib.hid hB1
      clear hB1 hB hlt hk
      go_wp2
      go_ret
      exact ⟨rfl, HB1.out, hu⟩
theorem bytesAt_new (B : Nat) (w : World) (l : List Int) (t : TypeId) (hB : B < w.heap.size) : BytesAt B (w.alloc (.cells (nums .u8 l).toArray t (0, 0))) (some ⟨w.heap.size, 0, none⟩) l := by
  refine .inr ⟨w.heap.size, rfl, by omega, by rw [World.size_alloc]; omega, fun w' h j hj => ?_⟩
  rw [heap_alloc_new] at h
  rw [blk_cell h]
  simp only [nums, List.getElem?_toArray, List.getElem?_map, List.getD_eq_getElem?_getD]
  rw [List.getElem?_eq_getElem hj]
  rfl
theorem bytesAt_str (B : Nat) (w : World) (x : ByteArray) (t : TypeId) (hB : B < w.heap.size) : BytesAt B (Lib.bytesWorld w t x) (some ⟨w.heap.size, 0, none⟩) (bytesOf x) := by
  refine .inr ⟨w.heap.size, rfl, by omega, by rw [Lib.bytesWorld_size]; omega, fun w' h j hj => ?_⟩
  rw [bytesOf_length] at hj
  have := Lib.bytesWorld_cell w t x j hj
  have e : w'.cell? ⟨w.heap.size, j, none⟩ = (Lib.bytesWorld w t x).cell? ⟨w.heap.size, j, none⟩ := by simp only [World.cell?, h]
  rw [e, this]
  congr 2
  simp only [bytesOf, List.getD_eq_getElem?_getD, List.getElem?_map]
  rw [List.getElem?_eq_getElem (by simpa using hj)]
  rfl
theorem upd_str {B : Nat} (w : World) (x : ByteArray) (t : TypeId) : Upd B w (Lib.bytesWorld w t x) :=
  ⟨rfl, rfl, rfl, by rw [Lib.bytesWorld_size]; omega, fun k hk _ => Lib.bytesWorld_at_old w t x k hk⟩
/-- A number's four bytes. -/
def numL (n : Int) : List Int := [n / 16777216, n / 65536 % 256, n / 256 % 256, n % 256]
set_option maxHeartbeats 2000000 in
set_option maxRecDepth 100000 in
theorem number_calls (B : Nat) (s : Fp) (m : Int) (w : World) (hs : s.Ok) (h0 : 0 ≤ m) (h1 : m ≤ 4294967295) (hn : s.n + 4 ≤ 9223372036854775807) (hT : FpTables w) (hb1 : 1 ≠ B) (hb2 : 2 ≠ B) (hB : w.heap[B]? = some (.cells s.cells 97 (0, 0))) :
    Calls Tryd.prog 76 #[.pointer (some ⟨B, 0, none⟩), .int .i64 m] w fun e w' => e = .returned (.int .i64 0) ∧ w'.heap[B]? = some (.cells (s.bytes (numL m)).cells 97 (0, 0)) ∧ Upd B w w' := by
  have hBlt : B < w.heap.size := (Array.getElem?_eq_some_iff.mp hB).1
  go_enter Tryd.func76, Tryd.ntmps76
  go_wp2_with (go_at_call 77; refine (fp_none B s _ hB).mono ?_; rintro e w1 ⟨rfl, rfl⟩)
  have hbel : Below w1.heap.size w1 (w1.alloc (.cells (nums .u8 (numL m)).toArray 5 (0, 0))) := (Below.refl _ _).alloc (Nat.le_refl _) _
  have hu0 : Upd B w1 (w1.alloc (.cells (nums .u8 (numL m)).toArray 5 (0, 0))) := Upd.of_below hbel
  have hB0 : (w1.alloc (.cells (nums .u8 (numL m)).toArray 5 (0, 0))).heap[B]? = some (.cells s.cells 97 (0, 0)) := (hbel.block B hBlt).trans hB
  refine (write_calls B s (some ⟨w1.heap.size, 0, none⟩) (numL m) 4 (w1.alloc (.cells (nums .u8 (numL m)).toArray 5 (0, 0))) hs hn (hT.upd hu0 hb1 hb2) hb1 hb2 hB0 (bytesAt_new B w1 (numL m) 5 hBlt)).mono ?_
  rintro e w2 ⟨rfl, hB2, hu2⟩
  have HB := Lib.hid hB2
  have HU := Lib.hid (hu0.trans hu2)
  clear hB2 hu2 hB0 hu0 hbel hB
  go_wp2
  go_ret
  exact ⟨rfl, HB.out, HU.out⟩
set_option maxHeartbeats 2000000 in
set_option maxRecDepth 100000 in
theorem text_calls (B : Nat) (s : Fp) (x : ByteArray) (w : World) (hs : s.Ok) (h1 : x.size ≤ 4294967295) (hn : s.n + 4 + x.size ≤ 9223372036854775807) (hT : FpTables w) (hb1 : 1 ≠ B) (hb2 : 2 ≠ B) (hB : w.heap[B]? = some (.cells s.cells 97 (0, 0))) :
    Calls Tryd.prog 47 #[.pointer (some ⟨B, 0, none⟩), .string x] w fun e w' => e = .returned (.int .i64 0) ∧ w'.heap[B]? = some (.cells ((s.bytes (numL x.size)).bytes (bytesOf x)).cells 97 (0, 0)) ∧ Upd B w w' := by
  have hBlt : B < w.heap.size := (Array.getElem?_eq_some_iff.mp hB).1
  go_enter Tryd.func47, Tryd.ntmps47
  go_wp2_with (go_at_call 76; refine (number_calls B s _ _ hs (by omega) (by omega) (by omega) hT hb1 hb2 hB).mono ?_; rintro e w1 ⟨rfl, hB1, hu1⟩)
  have hcv := Lib.run_convert_string_bytes (P := Tryd.prog) w1 9 63 5 x Tryd.underlying9 Tryd.underlying63 Tryd.underlying5
  have hBlt1 : B < w1.heap.size := (Array.getElem?_eq_some_iff.mp hB1).1
  have hu2 : Upd B w1 (Lib.bytesWorld w1 5 x) := upd_str w1 x _
  have hB2 : (Lib.bytesWorld w1 5 x).heap[B]? = some (.cells (s.bytes (numL x.size)).cells 97 (0, 0)) := (Lib.bytesWorld_at_old w1 _ x B hBlt1).trans hB1
  have hA := bytesAt_str B w1 x 5 hBlt1
  have hnn : (s.bytes (numL x.size)).n + (bytesOf x).length ≤ 9223372036854775807 := by rw [Fp.bytes_n, bytesOf_length]; show s.n + 4 + x.size ≤ _; omega
  have hT1 := hT.upd (hu1.trans hu2) hb1 hb2
  have hw := fun c => write_calls B (s.bytes (numL x.size)) (some ⟨w1.heap.size, 0, none⟩) (bytesOf x) c (Lib.bytesWorld w1 5 x) (Fp.bytes_ok hs _) hnn hT1 hb1 hb2 hB2 hA
  rw [bytesOf_length] at hw
  have HW := Lib.hid hw
  have HU := Lib.hid (hu1.trans hu2)
  clear hw hA hnn hT1 hB2 hu2 hB1 hB hu1
  rw [hcv]
  simp only [Result.andThen]
  go_wp2_with (go_at_call 48; refine (HW.out _).mono ?_; rintro e w2 ⟨rfl, hB2, hu2⟩)
  go_ret
  exact ⟨rfl, hB2, HU.out.trans hu2⟩
end Go.Proofs.YtolpefnedpgaaaaDoor.X
