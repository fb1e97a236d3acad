/-
  fingerprint.New and (*fingerprint.Print).Sum.
-/
import Derived.Test.YtolpefnedpgaaaaDoorExtFp3
import Derived.Lib.ReflectliteSwap
namespace Go.Proofs.YtolpefnedpgaaaaDoor.X
open Go.RowKit Go.Proofs.YtolpefnedpgaaaaDoorW.PrintWords
set_option linter.unusedVariables false
set_option linter.unusedSimpArgs false
theorem blk_setCells (g : Nat) (t : TypeId) : ∀ (vs : List Value) (o : Nat) (w : World) (cs : List Value), o + vs.length = cs.length → w.heap[g]? = some (.cells cs.toArray t (0, 0)) → (w.setCells g o vs).heap[g]? = some (.cells (cs.take o ++ vs).toArray t (0, 0))
  | [], o, w, cs, hl, h => by
    rw [World.setCells, h, List.append_nil, List.take_of_length_le (by simp at hl; omega)]
  | v :: r, o, w, cs, hl, h => by
    rw [World.setCells]
    simp only [List.length_cons] at hl
    have h1 := blk_set h o v
    rw [show cs.toArray.setIfInBounds o v = (cs.set o v).toArray by simp] at h1
    rw [blk_setCells g t r (o + 1) _ _ (by simp; omega) h1]
    congr 2
    rw [List.take_set, List.take_add_one, List.getElem?_eq_getElem (by omega)]
    simp only [Option.toList_some]
    rw [List.set_append, if_neg (by simp; omega), List.length_take, Nat.min_eq_left (by omega), Nat.sub_self, List.append_assoc]
    rfl
theorem upd_setCells {B : Nat} {w : World} : ∀ (vs : List Value) (o : Nat) (w' : World), Upd B w w' → Upd B w (w'.setCells B o vs)
  | [], _, _, h => h
  | v :: r, o, w', h => upd_setCells r (o + 1) _ (h.set o v)
def fp0 : Fp := ⟨[1732584193, 4023233417, 2562383102, 271733878], List.replicate 64 0, 0⟩
theorem fp0_ok : fp0.Ok := ⟨rfl, rfl⟩
set_option maxHeartbeats 2000000 in
set_option maxRecDepth 100000 in
theorem new_calls (w : World) : Calls Tryd.prog 46 #[] w fun e w' => e = .returned (.pointer (some ⟨w.heap.size, 0, none⟩)) ∧ w' = w.alloc (.cells fp0.cells 97 (0, 0)) := by
  go_enter Tryd.func46, Tryd.ntmps46
  go_wp2
  go_ret
  exact ⟨rfl, rfl⟩
/-- How many noughts are filled in. -/
def fpZ (n : Nat) : Nat := (120 - n % 64) % 64
def sizeL (n : Nat) : List Int := (List.range 8).map fun i => (n : Int) * 8 / 2 ^ (8 * i) % 256
def outL (ws : List Int) : List Int := ws.flatMap fun w => [w % 256, w / 256 % 256, w / 65536 % 256, w / 16777216 % 256]
def Fp.fin (s : Fp) : Fp := (((s.byte 128).bytes (List.replicate (fpZ (s.n + 1)) 0)).bytes (sizeL s.n))
def Fp.sum (s : Fp) : List Int := outL s.fin.ws
section
variable {P : Program} {ops : Array Oper} {rest : List Oper} {o : Oper} {a : Act} {Q : Exit → Act → World → Prop} {w w' : World}
theorem wpList_load_at (hgd : o.guard = none) (t : TypeId) (x : Operand) (ho : o.op = .load t x) (ad : Addr) (hx : a.eval x = .pointer (some ad)) (v : Value)
    (hr : (loadVar t ad).run P w = .ok v w) (h : wpList P ops Q rest (a.put o.dst v) w) : wpList P ops Q (o :: rest) a w :=
  wpList_plain hgd fun K hK => by
    unfold Oper.wp execOp
    simp only [ho, hx, Instr.loadAt, Instr.sureAddr, Sem.run_bind, Sem.run_pure, Result.andThen_ok, hr]
    exact hK _ _ h
theorem wpList_store_at (hgd : o.guard = none) (t : TypeId) (x y : Operand) (ho : o.op = .store t x y) (ad : Addr) (hx : a.eval x = .pointer (some ad)) (v : Value) (hy : a.eval y = v)
    (hr : (storeVar t ad v).run P w = .ok () w') (h : wpList P ops Q rest (a.put o.dst undef) w') : wpList P ops Q (o :: rest) a w :=
  wpList_plain hgd fun K hK => by
    unfold Oper.wp execOp
    simp only [ho, hx, hy, Instr.storeAt, Instr.sureAddr, Sem.run_bind, Sem.run_pure, Result.andThen_ok, hr]
    exact hK _ _ h
end
theorem itoa_arr16 : Tryd.prog.underlying 64 = some (.array (Tryd.prog.arrayLen 64) (Tryd.prog.elem 64)) := by kernel_rfl
theorem arrInfo : ∃ ie, Tryd.prog.info? 64 = some ie ∧ ie.size = 16 := Option.map_eq_some_iff.1 (show (Tryd.prog.info? 64).map (·.size) = some 16 by kernel_rfl)
theorem fpInfo : ∃ ie, Tryd.prog.info? 97 = some ie ∧ ie.size = 70 := Option.map_eq_some_iff.1 (show (Tryd.prog.info? 97).map (·.size) = some 70 by kernel_rfl)
/-- What holds in Sum: the copy lies at block n0 + 2, what is answered at n0 and n0 + 1. -/
structure SumInv (w : World) (n0 : Nat) (wr : World) (t : Fp) : Prop where
  ok : t.Ok
  C : wr.heap[n0 + 2]? = some (.cells t.cells 97 (0, 0))
  R : wr.heap[n0]? = some (.cells (nums .u8 (List.replicate 16 0)).toArray 64 (0, 0))
  O : wr.heap[n0 + 1]? = some (.cells (nums .u8 (List.replicate 16 0)).toArray 64 (0, 0))
  bel : Below n0 w wr
  T : FpTables wr
theorem SumInv.drew {w : World} {n0 : Nat} {wr : World} {t : Fp} (h : SumInv w n0 wr t) : SumInv w n0 wr.drew t := ⟨h.ok, h.C, h.R, h.O, h.bel.drew, h.T⟩
theorem SumInv.write {w : World} {n0 : Nat} {wr : World} {t : Fp} (h : SumInv w n0 wr t) (h1 : 1 < n0) (h2 : 2 < n0) (l : List Int) (hn : t.n + l.length ≤ 9223372036854775807) (c : Nat) :
    Calls Tryd.prog 48 #[.pointer (some ⟨n0 + 2, 0, none⟩), .slice (some ⟨wr.heap.size, 0, none⟩) l.length c] (wr.alloc (.cells (nums .u8 l).toArray 5 (0, 0))) fun e w' => e = .returned (.int .i64 0) ∧ SumInv w n0 w' (t.bytes l) := by
  have hlt : n0 + 2 < wr.heap.size := (Array.getElem?_eq_some_iff.mp h.C).1
  have hb : Below wr.heap.size wr (wr.alloc (.cells (nums .u8 l).toArray 5 (0, 0))) := (Below.refl _ _).alloc (Nat.le_refl _) _
  have hu := Upd.of_below (B := n0 + 2) hb
  refine (write_calls (n0 + 2) t (some ⟨wr.heap.size, 0, none⟩) l c _ h.ok hn (h.T.upd hu (by omega) (by omega)) (by omega) (by omega) ((hb.block _ hlt).trans h.C) (bytesAt_new (n0 + 2) wr l 5 hlt)).mono ?_
  rintro e w' ⟨rfl, hC, hu'⟩
  have hh := hu.trans hu'
  exact ⟨rfl, Fp.bytes_ok h.ok l, hC, (hh.block _ (by omega) (by omega)).trans h.R, (hh.block _ (by omega) (by omega)).trans h.O, h.bel.trans (hh.below (by omega) (by omega)), h.T.upd hh (by omega) (by omega)⟩
def outP (ws : List Int) (j : Nat) : List Int := outL (ws.take j) ++ List.replicate (16 - 4 * j) 0
theorem nums_set8 (d : List Int) (j : Nat) (x : Int) : (nums .u8 d).toArray.setIfInBounds j (.int .u8 x) = (nums .u8 (d.set j x)).toArray := by
  simp [nums, List.map_set]
theorem at_out (B : Nat) (i : Int) (j : Nat) (W : World) (hj : i = j) (hl : j < 16) :
    (Instr.indexAt 64 (.pointer (some ⟨B, 0, none⟩)) (.int .i64 i)).run Tryd.prog W = .ok (.pointer (some ⟨B, j, none⟩)) W := by
  have := at_array 64 16 B 0 i j W hj hl (by kernel_rfl) (by kernel_rfl) (fun W => by kernel_rfl)
  rw [Nat.zero_add] at this
  exact this
theorem out_cell {W : World} {B : Nat} {L : List Int} (h : W.heap[B]? = some (.cells (nums .u8 L).toArray 64 (0, 0))) (hl : L.length = 16) (k : Nat) (hk : k < 16) : W.cell? ⟨B, k, none⟩ = some (.int .u8 (L.getD k 0)) := by
  rw [blk_cell h]
  simp only [nums, List.getElem?_toArray, List.getElem?_map, List.getD_eq_getElem?_getD]
  rw [List.getElem?_eq_getElem (by omega)]
  rfl
theorem out_set {W : World} {B : Nat} {L : List Int} (h : W.heap[B]? = some (.cells (nums .u8 L).toArray 64 (0, 0))) (k : Nat) (x : Int) : (W.setCell ⟨B, k, none⟩ (.int .u8 x)).heap[B]? = some (.cells (nums .u8 (L.set k x)).toArray 64 (0, 0)) := by
  rw [← nums_set8]; exact blk_set h k _
/-- The number in a state's last cell. -/
def lastNat (B : Nat) (wr : World) : Nat := match wr.cell? ⟨B, 69, none⟩ with | some (.int _ n) => n.toNat | _ => 0
theorem lastNat_of {B : Nat} {wr : World} {k : IntKind} {n : Nat} (h : wr.cell? ⟨B, 69, none⟩ = some (.int k n)) : lastNat B wr = n := by unfold lastNat; rw [h]; simp
theorem SumInv.last {w : World} {n0 : Nat} {wr : World} {t : Fp} (h : SumInv w n0 wr t) : wr.cell? ⟨n0 + 2, 69, none⟩ = some (.int .i64 t.n) := by rw [blk_cell h.C]; exact fpCells_n _ _ _ h.ok.1 h.ok.2
set_option maxHeartbeats 4000000 in
set_option maxRecDepth 100000 in
theorem sum_calls (B : Nat) (s : Fp) (w : World) (hs : s.Ok) (hn : s.n ≤ 1000000) (hT : FpTables w) (hb1 : 1 < w.heap.size) (hb2 : 2 < w.heap.size) (hB : w.heap[B]? = some (.cells s.cells 97 (0, 0))) :
    Calls Tryd.prog 49 #[.pointer (some ⟨B, 0, none⟩)] w fun e w' => e = .returned (.agg (nums .u8 s.sum).toArray) ∧ Below w.heap.size w w' := by
  have hBlt : B < w.heap.size := (Array.getElem?_eq_some_iff.mp hB).1
  obtain ⟨ie, hie, hsz⟩ := fpInfo
  have hagg : ∀ w, (isAgg 97).run Tryd.prog w = .ok true w := fun w => by kernel_rfl
  have hcl : s.cells.toList.length = 70 := by
    obtain ⟨a, b⟩ := hs
    simp [Fp.cells, fpCells, nums, a, b]
  have hld : ∀ W : World, W.heap[B]? = some (.cells s.cells 97 (0, 0)) → (loadVar 97 ⟨B, 0, none⟩).run Tryd.prog W = .ok (.agg s.cells) W := by
    intro W hW
    have := Lib.rl_loadVar_cells (P := Tryd.prog) 97 ie hie hagg B 0 s.cells.toList (by rw [hcl, hsz]) W (fun k v h => by rw [Nat.zero_add, blk_cell hW, ← h]; simp)
    rw [this]
  go_enter Tryd.func49, Tryd.ntmps49
  go_wp2_with fail
  obtain ⟨w2, e2⟩ : ∃ x, (w.alloc (.cells (nums .u8 (List.replicate 16 0)).toArray 64 (0, 0))).alloc (.cells (nums .u8 (List.replicate 16 0)).toArray 64 (0, 0)) = x := ⟨_, rfl⟩
  have hbel0 : Below w.heap.size w (w.alloc (.cells (nums .u8 (List.replicate 16 0)).toArray 64 (0, 0))) := (Below.refl _ _).alloc (Nat.le_refl _) _
  have hbel : Below w.heap.size w w2 := by rw [← e2]; exact hbel0.alloc (by rw [World.size_alloc]; omega) _
  have hsz2 : w2.heap.size = w.heap.size + 2 := by rw [← e2, World.size_alloc, World.size_alloc]
  have hR : w2.heap[w.heap.size]? = some (.cells (nums .u8 (List.replicate 16 0)).toArray 64 (0, 0)) := by
    rw [← e2]
    exact (((Below.refl (w.heap.size + 1) (w.alloc (.cells (nums .u8 (List.replicate 16 0)).toArray 64 (0, 0)))).alloc (by rw [World.size_alloc]; omega) _).block _ (by omega)).trans (heap_alloc_new w _)
  have hO : w2.heap[w.heap.size + 1]? = some (.cells (nums .u8 (List.replicate 16 0)).toArray 64 (0, 0)) := by
    rw [← e2]
    have := heap_alloc_new (w.alloc (.cells (nums .u8 (List.replicate 16 0)).toArray 64 (0, 0))) (.cells (nums .u8 (List.replicate 16 0)).toArray 64 (0, 0))
    rw [World.size_alloc] at this
    exact this
  have hB2 : w2.heap[B]? = some (.cells s.cells 97 (0, 0)) := (hbel.block B hBlt).trans hB
  have hl2 := hld w2 hB2
  change Calls _ _ _ ((w.alloc (.cells (nums .u8 (List.replicate 16 0)).toArray 64 (0, 0))).alloc (.cells (nums .u8 (List.replicate 16 0)).toArray 64 (0, 0))) _
  rw [e2]
  clear e2 hbel0 hld
  refine (fp_none B s w2 hB2).mono ?_
  rintro e w3 ⟨rfl, rfl⟩
  have HR := Lib.hid hR
  have HO := Lib.hid hO
  have HB2 := Lib.hid hB2
  have HB := Lib.hid hB
  clear hR hO hB2 hB
  have hone : ∀ v ∈ s.cells.toList, v.oneCell' = true := by
    intro v hv
    simp only [Fp.cells, fpCells, nums, List.mem_cons, List.mem_append, List.mem_map, List.mem_nil_iff, or_false] at hv
    rcases hv with rfl | ⟨_, _, rfl⟩ | ⟨_, _, rfl⟩ | rfl <;> rfl
  obtain ⟨w4, hst, hI⟩ : ∃ w4, (storeVar 97 ⟨w.heap.size + 2, 0, none⟩ (.agg s.cells)).run Tryd.prog (w3.alloc (.cells Tryd.zeroCells97 97 (0, 0))) = .ok () w4 ∧ SumInv w w.heap.size w4 s := by
    have hX : Tryd.zeroCells97.toList.length = 70 := by kernel_rfl
    have hb := heap_alloc_new w3 (.cells Tryd.zeroCells97.toList.toArray 97 (0, 0))
    rw [hsz2] at hb
    have hbw : Below w3.heap.size w3 (w3.alloc (.cells Tryd.zeroCells97.toList.toArray 97 (0, 0))) := (Below.refl _ _).alloc (Nat.le_refl _) _
    have hu : Upd (w.heap.size + 2) w3 ((w3.alloc (.cells Tryd.zeroCells97.toList.toArray 97 (0, 0))).setCells (w.heap.size + 2) 0 s.cells.toList) := upd_setCells _ _ _ (Upd.of_below hbw)
    refine ⟨_, Lib.rl_storeVar_cells (P := Tryd.prog) 97 ie hie (w.heap.size + 2) 0 s.cells.toList (by rw [hcl, hsz]) hone _ (fun k hk => by rw [Nat.zero_add, blk_cell (cs := Tryd.zeroCells97.toList.toArray) hb, List.getElem?_toArray, List.getElem?_eq_getElem (by omega)]; rfl) (fun k hk => blk_frozen hb _), hs, ?_, (hu.block _ (by omega) (by omega)).trans HR.out, (hu.block _ (by omega) (by omega)).trans HO.out, hbel.trans (hu.below (by omega) (by omega)), ?_⟩
    · have := blk_setCells (w.heap.size + 2) 97 s.cells.toList 0 _ _ (by rw [hcl, hX]) hb
      rw [List.take_zero, List.nil_append] at this
      exact this
    · refine ⟨?_, ?_⟩
      · exact ((hu.block _ (by omega) (by omega)).trans (hbel.block _ hb1)).trans hT.1
      · exact ((hu.block _ (by omega) (by omega)).trans (hbel.block _ hb2)).trans hT.2
  go_upto_region 4 with (fail)
  refine wp_region_lit ?_
  refine wpList_step (fun K hK => ?_)
  go_simp
  refine hK _ _ ?_
  clear hK K
  refine wpList_step (fun K hK => ?_)
  go_simp
  refine hK _ _ ?_
  clear hK K
  refine wpList_load_at rfl _ _ rfl _ rfl _ hl2 ?_
  refine wpList_step (fun K hK => ?_)
  go_simp
  refine hK _ _ ?_
  clear hK K
  refine wpList_store_at rfl _ _ _ rfl _ rfl _ rfl hst ?_
  refine wpList_nil ?_
  simp only [Act.put]
  have hC := hI.C
  have c69 : w4.cell? ⟨w.heap.size + 2, 69, none⟩ = some (.int .i64 s.n) := by rw [blk_cell hC]; exact fpCells_n _ _ _ hs.1 hs.2
  have hsz4 : w.heap.size + 2 < w4.heap.size := (Array.getElem?_eq_some_iff.mp hC).1
  have hw1 := hI.write hb1 hb2 [128] (by show s.n + 1 ≤ _; omega) 1
  have HI := Lib.hid hI
  have HW := Lib.hid hw1
  clear hI hw1 hC hst hl2 hcl hone hie hsz hagg
  go_wp2_with (go_at_call 48; refine HW.out.mono ?_; rintro e w5 ⟨rfl, hI⟩)
  have hI0 : SumInv w w.heap.size w5 (s.byte 128) := hI
  clear hI HW HI c69 hsz4 HR HO HB2 HB hsz2 hbel
  go_loopw [] (fun wr => ∃ j, j ≤ fpZ (s.n + 1) ∧ SumInv w w.heap.size wr ((s.byte 128).bytes (List.replicate j 0)))
    (fun wr => s.n + 100 - lastNat (w.heap.size + 2) wr)
  case atStart => exact ⟨0, Nat.zero_le _, hI0⟩
  case round =>
    obtain ⟨j, hj, hI⟩ := hrel
    have c69 := hI.last
    have hlN := lastNat_of c69
    have hN : ((s.byte 128).bytes (List.replicate j 0)).n = s.n + 1 + j := by rw [Fp.bytes_n, Fp.byte_n, List.length_replicate]
    rw [hN] at c69 hlN
    obtain ⟨N, hNe⟩ : ∃ N, s.n + 1 + j = N := ⟨_, rfl⟩
    rw [hNe] at c69 hlN hN
    have hz : fpZ (s.n + 1) = (120 - (s.n + 1) % 64) % 64 := rfl
    by_cases hlt : j < fpZ (s.n + 1)
    · have hq : ((N : Int) % 64 != 56) = true := by simp; omega
      have hst : ((s.byte 128).bytes (List.replicate j 0)).bytes [0] = (s.byte 128).bytes (List.replicate (j + 1) 0) := by rw [List.replicate_succ', Fp.bytes_snoc]; rfl
      have hw1 := hI.write hb1 hb2 [0] (by rw [hN]; show N + 1 ≤ _; omega) 1
      rw [hst] at hw1
      have hNb : N ≤ 1000100 := by omega
      have HW := Lib.hid hw1
      have HN := Lib.hid hNe
      have HZ := Lib.hid hz
      have HL := Lib.hid hlN
      clear hw1 hI hst hN hz hNe hlN
      go_wp2_with (go_at_call 48; refine HW.out.mono ?_; rintro e w6 ⟨rfl, hI6⟩)
      have hl6 := lastNat_of hI6.last
      rw [Fp.bytes_n, Fp.byte_n, List.length_replicate] at hl6
      go_roundw
      case rel => exact ⟨j + 1, hlt, hI6⟩
      case measure =>
        have := HN.out
        have := HL.out
        have : fpZ (s.n + 1) ≤ 63 := by unfold fpZ; omega
        omega
    · have hq : ((N : Int) % 64 != 56) = false := by simp; omega
      have hjz : j = fpZ (s.n + 1) := by omega
      subst hjz
      have hNb : N ≤ 1000100 := by omega
      obtain ⟨t2, ht2⟩ : ∃ t2, (s.byte 128).bytes (List.replicate (fpZ (s.n + 1)) 0) = t2 := ⟨_, rfl⟩
      rw [ht2] at hI hN
      clear hNe hlN hlt hz hj
      go_wp2
      go_loopw [6] (fun k wr => ∃ j, k = .int .i64 (8 * (j : Nat)) ∧ j ≤ 8 ∧ SumInv w w.heap.size wr (t2.bytes ((sizeL s.n).take j)))
        (fun k _ => (64 - intOf k).toNat)
      case atStart => exact ⟨0, rfl, by omega, by simpa [Fp.bytes] using hI⟩
      case round =>
        obtain ⟨j, rfl, hj, hI⟩ := hrel
        by_cases hlt : j < 8
        · have hd : decide (8 * (j : Int) < 64) = true := by simp; omega
          have htn : (t2.bytes ((sizeL s.n).take j)).n ≤ 1000108 := by
            rw [Fp.bytes_n, hN, List.length_take]
            omega
          have hst : (t2.bytes ((sizeL s.n).take j)).bytes [(s.n : Int) * 8 / 2 ^ (8 * j) % 256] = t2.bytes ((sizeL s.n).take (j + 1)) := by
            rw [List.take_add_one, show (sizeL s.n)[j]? = some ((s.n : Int) * 8 / 2 ^ (8 * j) % 256) by simp [sizeL, hlt]]
            simp only [Option.toList_some]
            rw [Fp.bytes_snoc]
            rfl
          have hw1 := hI.write hb1 hb2 [(s.n : Int) * 8 / 2 ^ (8 * j) % 256] (by show _ + 1 ≤ _; omega) 1
          rw [hst] at hw1
          have HW := Lib.hid hw1
          have HI := Lib.hid hI
          clear hw1 hst hI htn
          go_wp2_with (go_at_call 48; refine HW.out.mono ?_; rintro e w6 ⟨rfl, hI6⟩)
          go_roundw
          case rel => exact ⟨j + 1, by congr 1, by omega, hI6⟩
          case measure => simp [intOf]; omega
        · have hj8 : j = 8 := by omega
          subst hj8
          clear hlt hj
          have hfin : t2.bytes ((sizeL s.n).take 8) = s.fin := by
            rw [List.take_of_length_le (by simp [sizeL]), ← ht2]
            rfl
          rw [hfin] at hI
          obtain ⟨ws, hws⟩ : ∃ ws, s.fin.ws = ws := ⟨_, rfl⟩
          have hsum : s.sum = outL ws := by rw [← hws]; rfl
          have hw4 : ws.length = 4 := by rw [← hws]; exact hI.ok.1
          obtain ⟨y0, y1, y2, y3, hy⟩ := four_of hw4
          have hcell : ∀ k, wr.cell? ⟨w.heap.size + 2, k, none⟩ = (fpCells ws s.fin.bl s.fin.n).toArray[k]? := fun k => by rw [blk_cell hI.C, ← hws]; rfl
          subst hy
          have c1 : wr.cell? ⟨w.heap.size + 2, 1, none⟩ = some (.int .u32 y0) := by rw [hcell]; rfl
          have c2 : wr.cell? ⟨w.heap.size + 2, 2, none⟩ = some (.int .u32 y1) := by rw [hcell]; rfl
          have c3 : wr.cell? ⟨w.heap.size + 2, 3, none⟩ = some (.int .u32 y2) := by rw [hcell]; rfl
          have c4 : wr.cell? ⟨w.heap.size + 2, 4, none⟩ = some (.int .u32 y3) := by rw [hcell]; rfl
          have hRr := hI.R
          have hOr := hI.O
          have hbr := hI.bel
          clear hI hI0 hcell
          go_wp2
          go_loopw [39] (fun i wr => ∃ j, i = .int .i64 (j : Nat) ∧ j ≤ 4 ∧ wr.heap[w.heap.size + 1]? = some (.cells (nums .u8 (outP [y0, y1, y2, y3] j)).toArray 64 (0, 0)) ∧ wr.heap[w.heap.size]? = some (.cells (nums .u8 (List.replicate 16 0)).toArray 64 (0, 0)) ∧ Below w.heap.size w wr)
            (fun i _ => (4 - intOf i).toNat)
          case atStart => exact ⟨0, rfl, by omega, hOr, hRr, hbr⟩
          case round =>
            obtain ⟨j, rfl, hj, hO, hR, hb⟩ := hrel
            by_cases hlt : j < 4
            · have hd : decide ((j : Int) < 4) = true := by simp; omega
              have hL : (outP [y0, y1, y2, y3] j).length = 16 := by
                rcases (show j = 0 ∨ j = 1 ∨ j = 2 ∨ j = 3 by omega) with rfl | rfl | rfl | rfl <;> rfl
              obtain ⟨y, hy⟩ : ∃ y, [y0, y1, y2, y3].getD j 0 = y := ⟨_, rfl⟩
              have hix : ∀ W, (Instr.index 94 (.agg #[.int .u32 y0, .int .u32 y1, .int .u32 y2, .int .u32 y3]) (.int .i64 (j : Int))).run Tryd.prog W = .ok (.int .u32 y) W := by
                intro W
                subst hy
                rcases (show j = 0 ∨ j = 1 ∨ j = 2 ∨ j = 3 by omega) with rfl | rfl | rfl | rfl <;> rfl
              have hnext : ((((outP [y0, y1, y2, y3] j).set (4 * j) (y % 256)).set (4 * j + 1) (y / 256 % 256)).set (4 * j + 2) (y / 65536 % 256)).set (4 * j + 3) (y / 16777216 % 256) = outP [y0, y1, y2, y3] (j + 1) := by
                subst hy
                rcases (show j = 0 ∨ j = 1 ∨ j = 2 ∨ j = 3 by omega) with rfl | rfl | rfl | rfl <;> rfl
              obtain ⟨L, hLe⟩ : ∃ L, outP [y0, y1, y2, y3] j = L := ⟨_, rfl⟩
              rw [hLe] at hnext hL hO
              obtain ⟨L2, hL2⟩ : ∃ L2, outP [y0, y1, y2, y3] (j + 1) = L2 := ⟨_, rfl⟩
              rw [hL2] at hnext
              have e0 : IntKind.i64.wrap (4 * (j : Int)) = 4 * (j : Int) := IntWalk.i64_in _ (by omega)
              have l0 := fun W => at_out (w.heap.size + 1) (4 * (j : Int)) (4 * j) W (by omega) (by omega)
              have l1 := fun W => at_out (w.heap.size + 1) (4 * (j : Int) + 1) (4 * j + 1) W (by omega) (by omega)
              have l2 := fun W => at_out (w.heap.size + 1) (4 * (j : Int) + 2) (4 * j + 2) W (by omega) (by omega)
              have l3 := fun W => at_out (w.heap.size + 1) (4 * (j : Int) + 3) (4 * j + 3) W (by omega) (by omega)
              have d0 := out_cell hO hL (4 * j) (by omega)
              have f0 : wr.frozen? ⟨w.heap.size + 1, 4 * j, none⟩ = false := blk_frozen hO _
              have f1 : wr.frozen? ⟨w.heap.size + 1, 4 * j + 1, none⟩ = false := blk_frozen hO _
              have f2 : wr.frozen? ⟨w.heap.size + 1, 4 * j + 2, none⟩ = false := blk_frozen hO _
              have f3 : wr.frozen? ⟨w.heap.size + 1, 4 * j + 3, none⟩ = false := blk_frozen hO _
              have hO1 := out_set hO (4 * j) (y % 256)
              have d1 := out_cell hO1 (by simp [hL]) (4 * j + 1) (by omega)
              have hO2 := out_set hO1 (4 * j + 1) (y / 256 % 256)
              have d2 := out_cell hO2 (by simp [hL]) (4 * j + 2) (by omega)
              have hO3 := out_set hO2 (4 * j + 2) (y / 65536 % 256)
              have d3 := out_cell hO3 (by simp [hL]) (4 * j + 3) (by omega)
              have hO4 := out_set hO3 (4 * j + 3) (y / 16777216 % 256)
              rw [hnext] at hO4
              have HO4 := Lib.hid hO4
              have HR4 := Lib.hid hR
              clear hO1 hO2 hO3 hO4 hO hR hnext hRr hOr hbr hy
              have hu := ((((Upd.refl (w.heap.size + 1) wr).set (4 * j) (.int .u8 (y % 256))).set (4 * j + 1) (.int .u8 (y / 256 % 256))).set (4 * j + 2) (.int .u8 (y / 65536 % 256))).set (4 * j + 3) (.int .u8 (y / 16777216 % 256))
              have HE := Lib.hid hL2
              clear hL2 hLe
              go_wp2
              go_roundw
              case rel => exact ⟨j + 1, rfl, by omega, by rw [HE.out]; exact HO4.out, (hu.block _ (Array.getElem?_eq_some_iff.mp HR4.out).1 (by omega)).trans HR4.out, hb.trans (hu.below (by omega) hb.size)⟩
              case measure => simp [intOf]; omega
            · have hj4 : j = 4 := by omega
              subst hj4
              clear hlt hj hRr hOr hbr
              have hout : outP [y0, y1, y2, y3] 4 = s.sum := by rw [hsum]; simp [outP]
              have hl16 : s.sum.length = 16 := by rw [hsum]; rfl
              rw [hout] at hO
              obtain ⟨ie, hie, hsz⟩ := arrInfo
              have hagg : ∀ w, (isAgg 64).run Tryd.prog w = .ok true w := fun w => by kernel_rfl
              have hn16 : (nums .u8 s.sum).length = 16 := by simp [nums, hl16]
              have hld := Lib.rl_loadVar_cells (P := Tryd.prog) 64 ie hie hagg (w.heap.size + 1) 0 (nums .u8 s.sum) (by rw [hn16, hsz]) wr (fun k v h => by rw [Nat.zero_add, blk_cell hO, ← h]; simp)
              have hst := Lib.rl_storeVar_cells (P := Tryd.prog) 64 ie hie w.heap.size 0 (nums .u8 s.sum) (by rw [hn16, hsz]) (fun v hv => by
                simp only [nums, List.mem_map] at hv
                obtain ⟨_, _, rfl⟩ := hv
                rfl) wr (fun k hk => by rw [Nat.zero_add, blk_cell hR]; simp [nums]; omega) (fun k hk => blk_frozen hR _)
              have hfin := blk_setCells w.heap.size 64 (nums .u8 s.sum) 0 wr (nums .u8 (List.replicate 16 0)) (by rw [hn16]; rfl) hR
              have hbf : Below w.heap.size w (wr.setCells w.heap.size 0 (nums .u8 s.sum)) := hb.trans ((upd_setCells (nums .u8 s.sum) 0 wr (Upd.refl _ _)).below (Nat.le_refl _) hb.size)
              go_upto_region 18 with (fail)
              refine wp_region_lit ?_
              refine wpList_load_at rfl _ _ rfl _ rfl _ hld ?_
              refine wpList_store_at rfl _ _ _ rfl _ rfl _ rfl hst ?_
              refine wpList_nil ?_
              simp only [Act.put]
              generalize wr.setCells w.heap.size 0 (nums .u8 s.sum) = w9 at *
              clear hld hst
              rw [List.take_zero, List.nil_append] at hfin
              have hsz9 : (Tryd.prog.info? 64).map (·.size) = some (nums .u8 s.sum).toArray.size := by rw [List.size_toArray, hn16]; kernel_rfl
              have HF := Lib.hid hfin
              have HZ := Lib.hid hsz9
              clear hfin hsz9 hn16
              go_wp2
              exact ⟨rfl, _, results_single rfl (.cell w.heap.size 64 _ (0, 0) _ rfl HF.out itoa_arr16 rfl HZ.out .nil), rfl, hbf⟩
end Go.Proofs.YtolpefnedpgaaaaDoor.X
