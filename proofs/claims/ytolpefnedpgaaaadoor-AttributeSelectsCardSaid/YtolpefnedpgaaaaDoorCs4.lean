/-
  What the claim's law rests on, part 4 of 5: printed walks, externals, plain lemmas; conditions: none of its own.
-/
import Derived.Test.YtolpefnedpgaaaaDoorCs3
namespace Go.Proofs.YtolpefnedpgaaaaDoor.X
open Go.RowKit Go.Proofs.YtolpefnedpgaaaaDoorW.PrintWords Go.Proofs.YtolpefnedpgaaaaDoorW.PrintLast Go.Proofs.YtolpefnedpgaaaaDoorW.PrintMore
set_option linter.unusedVariables false
set_option linter.unusedSimpArgs false
def Fp.text (s : Fp) (b : ByteArray) : Fp := (s.bytes (numL b.size)).bytes (bytesOf b)
def small33 (x : S33) : Prop := x.f0.size ≤ 4096 ∧ x.f1.size ≤ 4096 ∧ x.f2.size ≤ 4096
instance (x : S33) : Decidable (small33 x) := by unfold small33; infer_instance
def sumStep (k : Nat) (s : Fp) (x : S33) : Option Fp :=
  if small33 x then (attribute_Type.f k x.f1).bind fun p => some ((((s.text x.f0).text x.f1).bytes [if p.1 = 3 then 2 else 1]).text x.f2) else none
def sumAll (k : Nat) (s : Fp) : List S33 → Option Fp
  | [] => some s
  | x :: l => (sumStep k s x).bind fun s => sumAll k s l
def attribute_Sum.f (k : Nat) (l : List S33) : Option ByteArray :=
  if l.length = 0 then some ⟨#[]⟩ else if l.length < 20 then (sumAll k fp0 (sortA l)).bind fun s => some (strOfNums (hexL s.sum)) else none
theorem Fp.text_ok {s : Fp} (h : s.Ok) (b : ByteArray) : (s.text b).Ok := Fp.bytes_ok (Fp.bytes_ok h _) _
theorem Fp.text_n (s : Fp) (b : ByteArray) : (s.text b).n = s.n + 4 + b.size := by unfold Fp.text; rw [Fp.bytes_n, Fp.bytes_n, bytesOf_length]; rfl
theorem R_upd {e b B : Nat} {w w' : World} {ok : Nat → Prop} {v : Value} {xs : List S33} (h : Kd.R k33 e w b ok v xs) (hu : Upd B w w') (hB : B < b) : Kd.R k33 e w' b ok v xs :=
  Kd.R_mono (Kd.R_move (Kd.R_bound h) (fun k hk => hu.block k hk.2.2.1 (by have := hk.2.1; omega))) (fun _ hk => hk.1)
/-- What holds in a round. -/
structure SumW (w : World) (wr : World) (st : Fp) (v : Value) (xs : List S33) : Prop where
  ok : st.Ok
  P : wr.heap[w.heap.size]? = some (.cells st.cells 97 (0, 0))
  R : Kd.R k33 33 wr (w.heap.size + 1) (fun _ => True) v xs
  T : FpTables wr
  B : Below w.heap.size w wr
theorem SumW.upd {w wr wr' : World} {st st' : Fp} {v : Value} {xs : List S33} (h : SumW w wr st v xs) (hu : Upd w.heap.size wr wr') (hok : st'.Ok) (hP : wr'.heap[w.heap.size]? = some (.cells st'.cells 97 (0, 0))) (h1 : 1 < w.heap.size) (h2 : 2 < w.heap.size) : SumW w wr' st' v xs :=
  ⟨hok, hP, R_upd h.R hu (by omega), h.T.upd hu (by omega) (by omega), h.B.trans (hu.below (Nat.le_refl _) h.B.size)⟩
theorem SumW.below {w wr wr' : World} {st : Fp} {v : Value} {xs : List S33} (h : SumW w wr st v xs) (hb : Below wr.heap.size wr wr') (h1 : 1 < w.heap.size) (h2 : 2 < w.heap.size) : SumW w wr' st v xs :=
  h.upd (Upd.of_below hb) h.ok ((hb.block _ (Array.getElem?_eq_some_iff.mp h.P).1).trans h.P) h1 h2
theorem SumW.text {w wr : World} {st : Fp} {v : Value} {xs : List S33} (h : SumW w wr st v xs) (b : ByteArray) (hb : b.size ≤ 4096) (hn : st.n ≤ 900000) (h1 : 1 < w.heap.size) (h2 : 2 < w.heap.size) :
    Calls Tryd.prog 47 #[.pointer (some ⟨w.heap.size, 0, none⟩), .string b] wr fun e w' => e = .returned (.int .i64 0) ∧ SumW w w' (st.text b) v xs ∧ Upd w.heap.size wr w' := by
  refine (text_calls w.heap.size st b wr h.ok (by omega) (by omega) h.T (by omega) (by omega) h.P).mono ?_
  rintro e w' ⟨rfl, hP, hu⟩
  exact ⟨rfl, h.upd hu (Fp.text_ok h.ok b) hP h1 h2, hu⟩
theorem SumW.mark {w wr : World} {st : Fp} {v : Value} {xs : List S33} (h : SumW w wr st v xs) (m : Int) (hn : st.n ≤ 900000) (h1 : 1 < w.heap.size) (h2 : 2 < w.heap.size) :
    Calls Tryd.prog 48 #[.pointer (some ⟨w.heap.size, 0, none⟩), .slice (some ⟨wr.heap.size, 0, none⟩) 1 1] (wr.alloc (.cells #[.int .u8 m] 5 (0, 0))) fun e w' => e = .returned (.int .i64 0) ∧ SumW w w' (st.bytes [m]) v xs ∧ Upd w.heap.size wr w' := by
  have hlt : w.heap.size < wr.heap.size := (Array.getElem?_eq_some_iff.mp h.P).1
  have hb : Below wr.heap.size wr (wr.alloc (.cells (nums .u8 [m]).toArray 5 (0, 0))) := (Below.refl _ _).alloc (Nat.le_refl _) _
  have hu := Upd.of_below (B := w.heap.size) hb
  refine (write_calls w.heap.size st (some ⟨wr.heap.size, 0, none⟩) [m] 1 _ h.ok (by simp; omega) (h.T.upd hu (by omega) (by omega)) (by omega) (by omega) ((hb.block _ hlt).trans h.P) (bytesAt_new w.heap.size wr [m] 5 hlt)).mono ?_
  rintro e w' ⟨rfl, hC, hu'⟩
  have hh := hu.trans hu'
  exact ⟨rfl, h.upd hh (Fp.bytes_ok h.ok _) hC h1 h2, hh⟩
set_option maxHeartbeats 4000000 in
set_option maxRecDepth 100000 in
theorem attribute_Sum.calls (k : Nat) (A0 : Option Addr) (c0 : Nat) (l0 : List S33) (r : ByteArray) (w : World) (hGFp : GlobFp w) (hr0 : Kd.C k33 w A0 l0.length l0) (hc0 : l0.length ≤ c0) (h : attribute_Sum.f k l0 = some r) :
    Calls Tryd.prog 21 #[.slice A0 l0.length c0] w fun e w' => e = .returned (.string r) ∧ Below w.heap.size w w' := by
  unfold attribute_Sum.f at h
  have h1 : 1 < w.heap.size := (Array.getElem?_eq_some_iff.mp hGFp.1).1
  have h2 : 2 < w.heap.size := (Array.getElem?_eq_some_iff.mp hGFp.2).1
  split at h
  · rename_i hz
    obtain rfl := Option.some.inj h
    have hq : ((l0.length : Int) == 0) = true := by rw [hz]; rfl
    go_enter Tryd.func21, Tryd.ntmps21
    go_wp2
    go_ret
    exact ⟨rfl, Below.refl _ _⟩
  · rename_i hz
    have hq : ((l0.length : Int) == 0) = false := by rw [beq_eq_false_iff_ne]; omega
    split at h
    · rename_i hl
      obtain ⟨fin, hfin, hrr⟩ := Option.bind_eq_some_iff.1 h
      obtain rfl := Option.some.inj hrr
      have HF := Lib.hid hfin
      clear h hfin
      have hb0 : Below w.heap.size w (w.alloc (.cells fp0.cells 97 (0, 0))) := (Below.refl _ _).alloc (Nat.le_refl _) _
      have HS := Lib.hid (attribute_Sort.calls A0 c0 l0 (sortA l0) (w.alloc (.cells fp0.cells 97 (0, 0))) (Kd.C_below hr0 hb0) hc0 (by unfold attribute_Sort.f; rw [if_pos hl]))
      have hP0 := heap_alloc_new w (.cells fp0.cells 97 (0, 0))
      have hz0 : (w.alloc (.cells fp0.cells 97 (0, 0))).heap.size = w.heap.size + 1 := World.size_alloc _ _
      have HP0 := Lib.hid hP0
      have HZ0 := Lib.hid hz0
      clear hP0 hz0 hr0
      go_enter Tryd.func21, Tryd.ntmps21
      go_wp2_with (first | (go_at_call 46; refine (new_calls _).mono ?_; rintro e w1 ⟨rfl, rfl⟩) | (go_at_call 19; refine HS.out.mono ?_; rintro e w2 ⟨v, rfl, hR, hb⟩; obtain ⟨A1, c1, hv, _, _⟩ := Kd.R_reads hR; subst hv))
      have hsl : (sortA l0).length = l0.length := sortedTo_len _ _
      have hI : SumW w w2 fp0 (.slice A1 (sortA l0).length c1) (sortA l0) :=
        ⟨fp0_ok, (hb.block _ (by rw [HZ0.out]; omega)).trans HP0.out, by have := hR; rw [HZ0.out] at this; exact this, (hGFp.below hb0).below hb, hb0.trans (hb.mono (by rw [HZ0.out]; omega))⟩
      clear HS HP0 HZ0 hb0 hb hR
      obtain ⟨xs, hxs⟩ : ∃ xs, sortA l0 = xs := ⟨_, rfl⟩
      rw [hxs] at hI hsl HF
      simp only [hxs]
      have hx20 : xs.length < 20 := by omega
      have HXS := Lib.hid hxs
      have HSL := Lib.hid hsl
      clear hxs hsl hz hl hq
      go_loopw [17] (fun i wr => ∃ (j : Nat) (st : Fp), i = .int .i64 (j : Nat) ∧ j ≤ xs.length ∧ SumW w wr st (.slice A1 xs.length c1) xs ∧ st.n ≤ 20000 * j ∧ sumAll k st (xs.drop j) = some fin)
        (fun i _ => (xs.length - intOf i).toNat)
      case atStart => exact ⟨0, fp0, rfl, by omega, hI, by simp [fp0], HF.out⟩
      case round =>
        obtain ⟨j, st, rfl, hj, hI, hn, hall⟩ := hrel
        by_cases hlt : j < xs.length
        · have hd : decide ((j : Int) < xs.length) = true := by simp; omega
          obtain ⟨x, hx⟩ : ∃ x, rd_T33 xs (j : Int) = x := ⟨_, rfl⟩
          have hdrop : xs.drop j = x :: xs.drop (j + 1) := by
            rw [List.drop_eq_getElem_cons hlt, ← hx]
            congr 1
            simp [rd_T33, List.getD_eq_getElem?_getD, List.getElem?_eq_getElem hlt]
          rw [hdrop, sumAll] at hall
          obtain ⟨st', hst, hrest⟩ := Option.bind_eq_some_iff.1 hall
          unfold sumStep at hst
          split at hst
          · rename_i hsm
            obtain ⟨p, hty, hst'⟩ := Option.bind_eq_some_iff.1 hst
            obtain rfl := Option.some.inj hst'
            obtain ⟨p1, p2⟩ := p
            obtain ⟨A2, c2, hv, _, hC⟩ := Kd.R_reads hI.R
            injection hv with hv1 hv2 hv3
            subst hv1 hv3
            obtain ⟨ad, rfl, q0, q1, q2⟩ := at_T33 hC (j : Int) (by omega) (by omega)
            rw [hx] at q0 q1 q2
            simp only [Int.toNat_natCast] at q0 q1 q2
            have HTY := Lib.hid hty
            have HRE := Lib.hid hrest
            have HXX := Lib.hid hx
            have HSM := Lib.hid hsm
            clear hty hrest hst hall hdrop hx hC hsm
            obtain ⟨N, hNe⟩ : ∃ N, wr.heap.size = N := ⟨_, rfl⟩
            have hIa := hI.below (wr' := wr.alloc (.cells #[.string x.f0, .string x.f1, .string x.f2] 33 (0, 0))) ((Below.refl _ _).alloc (Nat.le_refl _) _) h1 h2
            have hNa := heap_alloc_new wr (.cells #[.string x.f0, .string x.f1, .string x.f2] 33 (0, 0))
            have hza : (wr.alloc (.cells #[.string x.f0, .string x.f1, .string x.f2] 33 (0, 0))).heap.size = wr.heap.size + 1 := World.size_alloc _ _
            have hne : N ≠ w.heap.size := by
              have := (Array.getElem?_eq_some_iff.mp hI.P).1
              omega
            have hsmm := HSM.out
            obtain ⟨s0, s1, s2⟩ := hsmm
            go_wp2_with fail
            refine (attribute_Type.calls k x.f1 p1 p2 _ HTY.out).mono ?_
            rintro e w3 ⟨rfl, hb3⟩
            have hI3 := hIa.below hb3 h1 h2
            have hN3 : w3.heap[N]? = some (.cells #[.string x.f0, .string x.f1, .string x.f2] 33 (0, 0)) := by rw [← hNe]; exact (hb3.block _ (by omega)).trans hNa
            have hlt3 : N < w3.heap.size := (Array.getElem?_eq_some_iff.mp hN3).1
            have b0 : w3.cell? ⟨N, 0, none⟩ = some (.string x.f0) := by rw [blk_cell hN3]; rfl
            have HNE := Lib.hid hNe
            clear hNe hza hNa hIa q0 q1 q2 hb3 hI
            by_cases hp : p1 = 3
            · have hp' : (p1 == 3) = true := by rw [hp]; rfl
              go_wp2_with fail
              refine (hI3.text x.f0 HSM.out.1 (by omega) h1 h2).mono ?_
              rintro e w4 ⟨rfl, hI4, hu4⟩
              have hN4 := (hu4.block N hlt3 hne).trans hN3
              have hlt4 : N < w4.heap.size := Nat.lt_of_lt_of_le hlt3 hu4.size
              have b1 : w4.cell? ⟨N, 1, none⟩ = some (.string x.f1) := by rw [blk_cell hN4]; rfl
              have hn4 := Fp.text_n st x.f0
              go_wp2_with fail
              refine (hI4.text x.f1 HSM.out.2.1 (by omega) h1 h2).mono ?_
              rintro e w5 ⟨rfl, hI5, hu5⟩
              have hN5 := (hu5.block N hlt4 hne).trans hN4
              have hlt5 : N < w5.heap.size := Nat.lt_of_lt_of_le hlt4 hu5.size
              have hn5 := Fp.text_n (st.text x.f0) x.f1
              go_wp2_with fail
              refine (hI5.mark 2 (by omega) h1 h2).mono ?_
              rintro e w6 ⟨rfl, hI6, hu6⟩
              have hN6 := (hu6.block N hlt5 hne).trans hN5
              have b2 : w6.cell? ⟨N, 2, none⟩ = some (.string x.f2) := by rw [blk_cell hN6]; rfl
              have hn6 := Fp.bytes_n ((st.text x.f0).text x.f1) [2]
              simp only [List.length_singleton] at hn6
              go_wp2_with fail
              refine (hI6.text x.f2 HSM.out.2.2 (by omega) h1 h2).mono ?_
              rintro e w7 ⟨rfl, hI7, hu7⟩
              have hn7 := Fp.text_n (((st.text x.f0).text x.f1).bytes [2]) x.f2
              have h7 : ((((st.text x.f0).text x.f1).bytes [2]).text x.f2).n ≤ 20000 * (j + 1) := by omega
              have hre := HRE.out
              simp only [hp, if_true, if_false] at hre
              have H7 := Lib.hid h7
              have HRR := Lib.hid hre
              clear hn4 hn5 hn6 hn7 h7 hre
              go_wp2
              go_roundw
              case rel => exact ⟨j + 1, _, rfl, by omega, hI7, H7.out, HRR.out⟩
              case measure => simp [intOf]; omega
            · have hp' : (p1 == 3) = false := by rw [beq_eq_false_iff_ne]; exact hp
              go_wp2_with fail
              refine (hI3.text x.f0 HSM.out.1 (by omega) h1 h2).mono ?_
              rintro e w4 ⟨rfl, hI4, hu4⟩
              have hN4 := (hu4.block N hlt3 hne).trans hN3
              have hlt4 : N < w4.heap.size := Nat.lt_of_lt_of_le hlt3 hu4.size
              have b1 : w4.cell? ⟨N, 1, none⟩ = some (.string x.f1) := by rw [blk_cell hN4]; rfl
              have hn4 := Fp.text_n st x.f0
              go_wp2_with fail
              refine (hI4.text x.f1 HSM.out.2.1 (by omega) h1 h2).mono ?_
              rintro e w5 ⟨rfl, hI5, hu5⟩
              have hN5 := (hu5.block N hlt4 hne).trans hN4
              have hlt5 : N < w5.heap.size := Nat.lt_of_lt_of_le hlt4 hu5.size
              have hn5 := Fp.text_n (st.text x.f0) x.f1
              go_wp2_with fail
              refine (hI5.mark 1 (by omega) h1 h2).mono ?_
              rintro e w6 ⟨rfl, hI6, hu6⟩
              have hN6 := (hu6.block N hlt5 hne).trans hN5
              have b2 : w6.cell? ⟨N, 2, none⟩ = some (.string x.f2) := by rw [blk_cell hN6]; rfl
              have hn6 := Fp.bytes_n ((st.text x.f0).text x.f1) [1]
              simp only [List.length_singleton] at hn6
              go_wp2_with fail
              refine (hI6.text x.f2 HSM.out.2.2 (by omega) h1 h2).mono ?_
              rintro e w7 ⟨rfl, hI7, hu7⟩
              have hn7 := Fp.text_n (((st.text x.f0).text x.f1).bytes [1]) x.f2
              have h7 : ((((st.text x.f0).text x.f1).bytes [1]).text x.f2).n ≤ 20000 * (j + 1) := by omega
              have hre := HRE.out
              simp only [hp, if_true, if_false] at hre
              have H7 := Lib.hid h7
              have HRR := Lib.hid hre
              clear hn4 hn5 hn6 hn7 h7 hre
              go_wp2
              go_roundw
              case rel => exact ⟨j + 1, _, rfl, by omega, hI7, H7.out, HRR.out⟩
              case measure => simp [intOf]; omega
          · exact absurd hst (by simp)
        · have hjx : j = xs.length := by omega
          rw [hjx, List.drop_length, sumAll] at hall
          obtain rfl := Option.some.inj hall
          have hS := sum_calls w.heap.size st wr hI.ok (by omega) hI.T (Nat.lt_of_lt_of_le h1 hI.B.size) (Nat.lt_of_lt_of_le h2 hI.B.size) hI.P
          have hl16 : st.sum.length = 16 := by
            obtain ⟨a, b, c, d, e⟩ := four_of (show st.fin.ws.length = 4 from (Fp.bytes_ok (Fp.bytes_ok (Fp.byte_ok hI.ok _) _) _).1)
            unfold Fp.sum
            rw [e]
            rfl
          have hb8 : ∀ x ∈ st.sum, 0 ≤ x ∧ x < 256 := by
            intro x hx
            simp only [Fp.sum, outL, List.mem_flatMap, List.mem_cons, List.mem_nil_iff, or_false] at hx
            obtain ⟨y, _, rfl | rfl | rfl | rfl⟩ := hx <;> omega
          have HS := Lib.hid hS
          have hbI := hI.B
          clear hS hI hall HF
          go_upto_region 16 with (fail)
          refine wp_region_lit ?_
          refine wpList_step (fun K hK => ?_)
          go_simp
          refine hK _ _ ?_
          clear hK K
          refine goesL_ (some 47) rfl rfl Tryd.func49 (by kernel_rfl) rfl #[.pointer (some ⟨w.heap.size, 0, none⟩)] rfl (by simp only [List.map_toArray, List.map_cons, List.map_nil]; rfl) ?_
          refine HS.out.mono ?_
          rintro e w3 ⟨rfl, hb3⟩
          refine ⟨_, rfl, ?_⟩
          obtain ⟨N, hNe⟩ : ∃ N, w3.heap.size = N := ⟨_, rfl⟩
          have hZ := heap_alloc_new w3 (.cells (nums .u8 (List.replicate 16 0)).toArray 64 (0, 0))
          rw [hNe] at hZ
          have hbz : Below w3.heap.size w3 (w3.alloc (.cells (nums .u8 (List.replicate 16 0)).toArray 64 (0, 0))) := (Below.refl _ _).alloc (Nat.le_refl _) _
          obtain ⟨ie, hie, hsz⟩ := arrInfo
          have hn16 : (nums .u8 st.sum).length = 16 := by simp [nums, hl16]
          have hst := Lib.rl_storeVar_cells (P := Tryd.prog) 64 ie hie N 0 (nums .u8 st.sum) (by rw [hn16, hsz]) (fun v hv => by
                simp only [nums, List.mem_map] at hv
                obtain ⟨_, _, rfl⟩ := hv
                rfl) (w3.alloc (.cells (nums .u8 (List.replicate 16 0)).toArray 64 (0, 0))) (fun k hk => by rw [Nat.zero_add, blk_cell hZ]; simp [nums]; omega) (fun k hk => blk_frozen hZ _)
          have hfin := blk_setCells N 64 (nums .u8 st.sum) 0 _ (nums .u8 (List.replicate 16 0)) (by rw [hn16]; rfl) hZ
          rw [List.take_zero, List.nil_append] at hfin
          have hu4 : Upd N w3 ((w3.alloc (.cells (nums .u8 (List.replicate 16 0)).toArray 64 (0, 0))).setCells N 0 (nums .u8 st.sum)) := upd_setCells _ _ _ (Upd.of_below hbz)
          have hNw : w.heap.size ≤ N := by rw [← hNe]; exact Nat.le_trans hbI.size hb3.size
          have hbf : Below w.heap.size w ((w3.alloc (.cells (nums .u8 (List.replicate 16 0)).toArray 64 (0, 0))).setCells N 0 (nums .u8 st.sum)) := (hbI.trans (hb3.mono hbI.size)).trans (hu4.below hNw (by rw [hNe]; exact hNw))
          have HFI := Lib.hid hfin
          have HBF := Lib.hid hbf
          clear hfin hbf hu4 hbz hZ
          refine wpList_step (fun K hK => ?_)
          go_simp
          refine hK _ _ ?_
          clear hK K
          refine wpList_store_at rfl _ _ _ rfl _ rfl _ rfl hst ?_
          refine wpList_nil ?_
          simp only [Act.put]
          generalize (w3.alloc (.cells (nums .u8 (List.replicate 16 0)).toArray 64 (0, 0))).setCells N 0 (nums .u8 st.sum) = w5 at *
          clear hst
          have hH := hex_calls (some ⟨N, 0, none⟩) 16 st.sum w5 ⟨rfl, by omega, fun _ => ⟨_, rfl, fun j p hp => ⟨[.int .u8 p], rfl, rfl, fun i u hu => by
            rcases i with _ | i
            · simp at hu
              subst hu
              have hjl : j < st.sum.length := (List.getElem?_eq_some_iff.mp hp).1
              have := out_cell HFI.out hl16 j (by omega)
              rw [List.getD_eq_getElem?_getD, hp] at this
              have e : (Addr.add ⟨N, 0, none⟩ (j * 1 + 0)) = ⟨N, j, none⟩ := by unfold Addr.add; split <;> simp_all
              show w5.cell? (Addr.add ⟨N, 0, none⟩ (j * 1 + 0)) = _
              rw [e]
              exact this
            · simp at hu⟩⟩⟩ (by omega) (by omega) hb8
          rw [hl16] at hH
          have HH := Lib.hid hH
          clear hH hb8
          have hlt5 : w.heap.size ≤ w5.heap.size := HBF.out.size
          go_wp2_with fail
          refine HH.out.mono ?_
          rintro e w6 ⟨rfl, hb6⟩
          go_wp2
          go_ret
          exact ⟨rfl, HBF.out.trans (hb6.mono hlt5)⟩
    · exact absurd h (by simp)
end Go.Proofs.YtolpefnedpgaaaaDoor.X

namespace Go.Proofs.YtolpefnedpgaaaaDoor.X
open Go.RowKit Go.Proofs.YtolpefnedpgaaaaDoorW.PrintWords Go.Proofs.YtolpefnedpgaaaaDoorW.PrintLast Go.Proofs.YtolpefnedpgaaaaDoorW.PrintMore
attribute [local go_sem] max2_int min2_int max_two min_two max_three min_three max_four min_four   -- for this text's walks alone
set_option linter.unusedVariables false
set_option linter.unusedSimpArgs false

def racewaylaw24_works.f (k : Nat)  : Option (Bool) := (attribute_Type.f k (⟨#[78, 117, 109, 98, 101, 114, 46, 105, 110, 116]⟩ : ByteArray)).bind fun bt147 => ((attribute_Name.f k (⟨#[97, 46, 98]⟩ : ByteArray)).bind fun t149 => (if t149 = true then ((attribute_Name.f k (⟨#[97, 46, 46, 98]⟩ : ByteArray)).bind fun t150 => (if t150 = true then (some false) else ((attribute_Name.f k (⟨#[65, 87, 83, 46, 120]⟩ : ByteArray)).bind fun t151 => (if t151 = true then (some false) else (if bt147.1 = 2 then (if bt147.2 = true then ((attribute_Number.f k (⟨#[45, 49, 46, 53, 101, 51]⟩ : ByteArray)).bind fun t152 => (if t152 = true then ((attribute_Sum.f k (([(⟨(⟨#[97]⟩ : ByteArray), (⟨#[83, 116, 114, 105, 110, 103]⟩ : ByteArray), (⟨#[120]⟩ : ByteArray)⟩ : S33)] : List (S33)))).bind fun t156 => (some ((t156.size : Int) == 32))) else (some false))) else (some false)) else (some false)))))) else (some false)))
set_option maxHeartbeats 8000000 in
set_option maxRecDepth 100000 in
theorem racewaylaw24_works.calls (k : Nat)  (r : Bool) (w : World) (hGFp : GlobFp w) (hGMax : GlobMax w) (h : racewaylaw24_works.f k  = some r) :
    Calls Tryd.prog 16 #[] w fun e w' => e = .returned (.bool r) ∧ Below w.heap.size w w' := by
  have hu33 := Tryd.underlying33
  have HGFp := Aside0.mk hGFp
  clear hGFp
  have HGMax := Aside0.mk hGMax
  clear hGMax
  have HB := Aside0.mk (Below.refl w.heap.size w)
  have H : ((attribute_Type.f k (⟨#[78, 117, 109, 98, 101, 114, 46, 105, 110, 116]⟩ : ByteArray)).bind fun bt147 => ((attribute_Name.f k (⟨#[97, 46, 98]⟩ : ByteArray)).bind fun t149 => (if t149 = true then ((attribute_Name.f k (⟨#[97, 46, 46, 98]⟩ : ByteArray)).bind fun t150 => (if t150 = true then (some false) else ((attribute_Name.f k (⟨#[65, 87, 83, 46, 120]⟩ : ByteArray)).bind fun t151 => (if t151 = true then (some false) else (if bt147.1 = 2 then (if bt147.2 = true then ((attribute_Number.f k (⟨#[45, 49, 46, 53, 101, 51]⟩ : ByteArray)).bind fun t152 => (if t152 = true then ((attribute_Sum.f k (([(⟨(⟨#[97]⟩ : ByteArray), (⟨#[83, 116, 114, 105, 110, 103]⟩ : ByteArray), (⟨#[120]⟩ : ByteArray)⟩ : S33)] : List (S33)))).bind fun t156 => (some ((t156.size : Int) == 32))) else (some false))) else (some false)) else (some false)))))) else (some false)))) = some r := h
  clear h
  replace H := Option.bind_eq_some_iff.mp H
  obtain ⟨⟨t147, t148⟩, A10, H⟩ := H
  replace H : ((attribute_Name.f k (⟨#[97, 46, 98]⟩ : ByteArray)).bind fun t149 => (if t149 = true then ((attribute_Name.f k (⟨#[97, 46, 46, 98]⟩ : ByteArray)).bind fun t150 => (if t150 = true then (some false) else ((attribute_Name.f k (⟨#[65, 87, 83, 46, 120]⟩ : ByteArray)).bind fun t151 => (if t151 = true then (some false) else (if t147 = 2 then (if t148 = true then ((attribute_Number.f k (⟨#[45, 49, 46, 53, 101, 51]⟩ : ByteArray)).bind fun t152 => (if t152 = true then ((attribute_Sum.f k (([(⟨(⟨#[97]⟩ : ByteArray), (⟨#[83, 116, 114, 105, 110, 103]⟩ : ByteArray), (⟨#[120]⟩ : ByteArray)⟩ : S33)] : List (S33)))).bind fun t156 => (some ((t156.size : Int) == 32))) else (some false))) else (some false)) else (some false)))))) else (some false))) = some r := H
  have A1 := Aside0.mk A10
  clear A10
  replace H := Option.bind_eq_some_iff.mp H
  obtain ⟨t149, A20, H⟩ := H
  replace H : (if t149 = true then ((attribute_Name.f k (⟨#[97, 46, 46, 98]⟩ : ByteArray)).bind fun t150 => (if t150 = true then (some false) else ((attribute_Name.f k (⟨#[65, 87, 83, 46, 120]⟩ : ByteArray)).bind fun t151 => (if t151 = true then (some false) else (if t147 = 2 then (if t148 = true then ((attribute_Number.f k (⟨#[45, 49, 46, 53, 101, 51]⟩ : ByteArray)).bind fun t152 => (if t152 = true then ((attribute_Sum.f k (([(⟨(⟨#[97]⟩ : ByteArray), (⟨#[83, 116, 114, 105, 110, 103]⟩ : ByteArray), (⟨#[120]⟩ : ByteArray)⟩ : S33)] : List (S33)))).bind fun t156 => (some ((t156.size : Int) == 32))) else (some false))) else (some false)) else (some false)))))) else (some false)) = some r := H
  have A2 := Aside0.mk A20
  clear A20
  by_cases c3 : t149 = true
  · subst c3
    have H1 : ((attribute_Name.f k (⟨#[97, 46, 46, 98]⟩ : ByteArray)).bind fun t150 => (if t150 = true then (some false) else ((attribute_Name.f k (⟨#[65, 87, 83, 46, 120]⟩ : ByteArray)).bind fun t151 => (if t151 = true then (some false) else (if t147 = 2 then (if t148 = true then ((attribute_Number.f k (⟨#[45, 49, 46, 53, 101, 51]⟩ : ByteArray)).bind fun t152 => (if t152 = true then ((attribute_Sum.f k (([(⟨(⟨#[97]⟩ : ByteArray), (⟨#[83, 116, 114, 105, 110, 103]⟩ : ByteArray), (⟨#[120]⟩ : ByteArray)⟩ : S33)] : List (S33)))).bind fun t156 => (some ((t156.size : Int) == 32))) else (some false))) else (some false)) else (some false)))))) = some r := by rw [if_pos rfl] at H; exact H
    clear H
    have H := H1
    clear H1
    replace H := Option.bind_eq_some_iff.mp H
    obtain ⟨t150, A40, H⟩ := H
    replace H : (if t150 = true then (some false) else ((attribute_Name.f k (⟨#[65, 87, 83, 46, 120]⟩ : ByteArray)).bind fun t151 => (if t151 = true then (some false) else (if t147 = 2 then (if t148 = true then ((attribute_Number.f k (⟨#[45, 49, 46, 53, 101, 51]⟩ : ByteArray)).bind fun t152 => (if t152 = true then ((attribute_Sum.f k (([(⟨(⟨#[97]⟩ : ByteArray), (⟨#[83, 116, 114, 105, 110, 103]⟩ : ByteArray), (⟨#[120]⟩ : ByteArray)⟩ : S33)] : List (S33)))).bind fun t156 => (some ((t156.size : Int) == 32))) else (some false))) else (some false)) else (some false))))) = some r := H
    have A4 := Aside0.mk A40
    clear A40
    by_cases c5 : t150 = true
    · subst c5
      have H1 : (some false) = some r := by rw [if_pos rfl] at H; exact H
      clear H
      have H := H1
      clear H1
      obtain rfl := Option.some.inj H
      go_enter Tryd.func16, Tryd.ntmps16
      go_wp2_with (first | ((with_reducible refine gate_callee (f := 10) rfl ?_); refine goesL_ (some 4) rfl rfl Tryd.func10 (by kernel_rfl) rfl #[.string (⟨#[78, 117, 109, 98, 101, 114, 46, 105, 110, 116]⟩ : ByteArray)] rfl (by (try simp only [List.map_toArray, List.map_cons, List.map_nil]); first | done | rfl | (simp only [List.length_drop, List.length_take]; rfl)) ?_; (with_reducible refine (attribute_Type.calls k (⟨#[78, 117, 109, 98, 101, 114, 46, 105, 110, 116]⟩ : ByteArray) t147 t148 _ A1.out).mono ?_); rintro e w6 ⟨rfl, hb⟩; refine ⟨_, rfl, ?_⟩; have n0_ := Aside0.mk (below_step (by repeat (first | (with_reducible first | exact HB.out | apply below_alloc | apply pw_below_drewN | apply below_drew1) | exact HB.out)) hb); clear HB; have HB := n0_; clear n0_; (try clear hb); (try clear hb2); (try clear hk); (try clear hi)) | ((with_reducible refine gate_callee (f := 12) rfl ?_); refine goesL_ (some 7) rfl rfl Tryd.func12 (by kernel_rfl) rfl #[.string (⟨#[97, 46, 98]⟩ : ByteArray)] rfl (by (try simp only [List.map_toArray, List.map_cons, List.map_nil]); first | done | rfl | (simp only [List.length_drop, List.length_take]; rfl)) ?_; (with_reducible refine (attribute_Name.calls k (⟨#[97, 46, 98]⟩ : ByteArray) true _ ?side1 A2.out).mono ?_); (case side1 => first | exact HGMax.out | exact GlobMax.below HGMax.out (by repeat (first | (with_reducible first | exact HB.out | apply below_alloc | apply pw_below_drewN | apply below_drew1) | exact HB.out)) | exact GlobMax.drawn HGMax.out (by repeat (first | exact Drawn0.refl _ | apply Drawn0.step))); rintro e w' ⟨rfl, ⟨nd, rfl⟩⟩; refine ⟨_, rfl, ?_⟩) | (go_at_call 12; (with_reducible refine (attribute_Name.calls k (⟨#[97, 46, 46, 98]⟩ : ByteArray) true _ ?side1 A4.out).mono ?_); (case side1 => first | exact HGMax.out | exact GlobMax.below HGMax.out (by repeat (first | (with_reducible first | exact HB.out | apply below_alloc | apply pw_below_drewN | apply below_drew1) | exact HB.out)) | exact GlobMax.drawn HGMax.out (by repeat (first | exact Drawn0.refl _ | apply Drawn0.step))); rintro e w' ⟨rfl, ⟨nd, rfl⟩⟩))
      go_ret
      exact ⟨by first | rfl | (simp [errW_none, errW_some] <;> rfl) | (simp [*, errW_none, errW_some] <;> rfl), by repeat (first | (with_reducible first | exact HB.out | apply below_alloc | apply pw_below_drewN | apply below_drew1) | exact HB.out)⟩
    · replace c5 := Bool.eq_false_iff.mpr c5
      subst c5
      have H1 : ((attribute_Name.f k (⟨#[65, 87, 83, 46, 120]⟩ : ByteArray)).bind fun t151 => (if t151 = true then (some false) else (if t147 = 2 then (if t148 = true then ((attribute_Number.f k (⟨#[45, 49, 46, 53, 101, 51]⟩ : ByteArray)).bind fun t152 => (if t152 = true then ((attribute_Sum.f k (([(⟨(⟨#[97]⟩ : ByteArray), (⟨#[83, 116, 114, 105, 110, 103]⟩ : ByteArray), (⟨#[120]⟩ : ByteArray)⟩ : S33)] : List (S33)))).bind fun t156 => (some ((t156.size : Int) == 32))) else (some false))) else (some false)) else (some false)))) = some r := by rw [if_neg (show ¬ (false = true) by decide)] at H; exact H
      clear H
      have H := H1
      clear H1
      replace H := Option.bind_eq_some_iff.mp H
      obtain ⟨t151, A70, H⟩ := H
      replace H : (if t151 = true then (some false) else (if t147 = 2 then (if t148 = true then ((attribute_Number.f k (⟨#[45, 49, 46, 53, 101, 51]⟩ : ByteArray)).bind fun t152 => (if t152 = true then ((attribute_Sum.f k (([(⟨(⟨#[97]⟩ : ByteArray), (⟨#[83, 116, 114, 105, 110, 103]⟩ : ByteArray), (⟨#[120]⟩ : ByteArray)⟩ : S33)] : List (S33)))).bind fun t156 => (some ((t156.size : Int) == 32))) else (some false))) else (some false)) else (some false))) = some r := H
      have A7 := Aside0.mk A70
      clear A70
      by_cases c8 : t151 = true
      · subst c8
        have H1 : (some false) = some r := by rw [if_pos rfl] at H; exact H
        clear H
        have H := H1
        clear H1
        obtain rfl := Option.some.inj H
        go_enter Tryd.func16, Tryd.ntmps16
        go_wp2_with (first | ((with_reducible refine gate_callee (f := 10) rfl ?_); refine goesL_ (some 4) rfl rfl Tryd.func10 (by kernel_rfl) rfl #[.string (⟨#[78, 117, 109, 98, 101, 114, 46, 105, 110, 116]⟩ : ByteArray)] rfl (by (try simp only [List.map_toArray, List.map_cons, List.map_nil]); first | done | rfl | (simp only [List.length_drop, List.length_take]; rfl)) ?_; (with_reducible refine (attribute_Type.calls k (⟨#[78, 117, 109, 98, 101, 114, 46, 105, 110, 116]⟩ : ByteArray) t147 t148 _ A1.out).mono ?_); rintro e w9 ⟨rfl, hb⟩; refine ⟨_, rfl, ?_⟩; have n0_ := Aside0.mk (below_step (by repeat (first | (with_reducible first | exact HB.out | apply below_alloc | apply pw_below_drewN | apply below_drew1) | exact HB.out)) hb); clear HB; have HB := n0_; clear n0_; (try clear hb); (try clear hb2); (try clear hk); (try clear hi)) | ((with_reducible refine gate_callee (f := 12) rfl ?_); refine goesL_ (some 7) rfl rfl Tryd.func12 (by kernel_rfl) rfl #[.string (⟨#[97, 46, 98]⟩ : ByteArray)] rfl (by (try simp only [List.map_toArray, List.map_cons, List.map_nil]); first | done | rfl | (simp only [List.length_drop, List.length_take]; rfl)) ?_; (with_reducible refine (attribute_Name.calls k (⟨#[97, 46, 98]⟩ : ByteArray) true _ ?side1 A2.out).mono ?_); (case side1 => first | exact HGMax.out | exact GlobMax.below HGMax.out (by repeat (first | (with_reducible first | exact HB.out | apply below_alloc | apply pw_below_drewN | apply below_drew1) | exact HB.out)) | exact GlobMax.drawn HGMax.out (by repeat (first | exact Drawn0.refl _ | apply Drawn0.step))); rintro e w' ⟨rfl, ⟨nd, rfl⟩⟩; refine ⟨_, rfl, ?_⟩) | (go_at_call 12; (with_reducible refine (attribute_Name.calls k (⟨#[97, 46, 46, 98]⟩ : ByteArray) false _ ?side1 A4.out).mono ?_); (case side1 => first | exact HGMax.out | exact GlobMax.below HGMax.out (by repeat (first | (with_reducible first | exact HB.out | apply below_alloc | apply pw_below_drewN | apply below_drew1) | exact HB.out)) | exact GlobMax.drawn HGMax.out (by repeat (first | exact Drawn0.refl _ | apply Drawn0.step))); rintro e w' ⟨rfl, ⟨nd, rfl⟩⟩) | (go_at_call 12; (with_reducible refine (attribute_Name.calls k (⟨#[65, 87, 83, 46, 120]⟩ : ByteArray) true _ ?side1 A7.out).mono ?_); (case side1 => first | exact HGMax.out | exact GlobMax.below HGMax.out (by repeat (first | (with_reducible first | exact HB.out | apply below_alloc | apply pw_below_drewN | apply below_drew1) | exact HB.out)) | exact GlobMax.drawn HGMax.out (by repeat (first | exact Drawn0.refl _ | apply Drawn0.step))); rintro e w' ⟨rfl, ⟨nd, rfl⟩⟩))
        go_ret
        exact ⟨by first | rfl | (simp [errW_none, errW_some] <;> rfl) | (simp [*, errW_none, errW_some] <;> rfl), by repeat (first | (with_reducible first | exact HB.out | apply below_alloc | apply pw_below_drewN | apply below_drew1) | exact HB.out)⟩
      · replace c8 := Bool.eq_false_iff.mpr c8
        subst c8
        have H1 : (if t147 = 2 then (if t148 = true then ((attribute_Number.f k (⟨#[45, 49, 46, 53, 101, 51]⟩ : ByteArray)).bind fun t152 => (if t152 = true then ((attribute_Sum.f k (([(⟨(⟨#[97]⟩ : ByteArray), (⟨#[83, 116, 114, 105, 110, 103]⟩ : ByteArray), (⟨#[120]⟩ : ByteArray)⟩ : S33)] : List (S33)))).bind fun t156 => (some ((t156.size : Int) == 32))) else (some false))) else (some false)) else (some false)) = some r := by rw [if_neg (show ¬ (false = true) by decide)] at H; exact H
        clear H
        have H := H1
        clear H1
        by_cases c10 : t147 = 2
        · rw [if_pos c10] at H
          have c10b0 : (t147 == 2) = true := beq_iff_eq.mpr c10
          have c10b1 : (t147 != 2) = false := bne_eq_false_iff_eq.mpr c10
          clear c10
          by_cases c11 : t148 = true
          · subst c11
            have H1 : ((attribute_Number.f k (⟨#[45, 49, 46, 53, 101, 51]⟩ : ByteArray)).bind fun t152 => (if t152 = true then ((attribute_Sum.f k (([(⟨(⟨#[97]⟩ : ByteArray), (⟨#[83, 116, 114, 105, 110, 103]⟩ : ByteArray), (⟨#[120]⟩ : ByteArray)⟩ : S33)] : List (S33)))).bind fun t156 => (some ((t156.size : Int) == 32))) else (some false))) = some r := by rw [if_pos rfl] at H; exact H
            clear H
            have H := H1
            clear H1
            replace H := Option.bind_eq_some_iff.mp H
            obtain ⟨t152, A120, H⟩ := H
            replace H : (if t152 = true then ((attribute_Sum.f k (([(⟨(⟨#[97]⟩ : ByteArray), (⟨#[83, 116, 114, 105, 110, 103]⟩ : ByteArray), (⟨#[120]⟩ : ByteArray)⟩ : S33)] : List (S33)))).bind fun t156 => (some ((t156.size : Int) == 32))) else (some false)) = some r := H
            have A12 := Aside0.mk A120
            clear A120
            by_cases c13 : t152 = true
            · subst c13
              have H1 : ((attribute_Sum.f k (([(⟨(⟨#[97]⟩ : ByteArray), (⟨#[83, 116, 114, 105, 110, 103]⟩ : ByteArray), (⟨#[120]⟩ : ByteArray)⟩ : S33)] : List (S33)))).bind fun t156 => (some ((t156.size : Int) == 32))) = some r := by rw [if_pos rfl] at H; exact H
              clear H
              have H := H1
              clear H1
              obtain ⟨y153, hy153⟩ : ∃ y_ : List (S33), y_ = (([(⟨(⟨#[97]⟩ : ByteArray), (⟨#[83, 116, 114, 105, 110, 103]⟩ : ByteArray), (⟨#[120]⟩ : ByteArray)⟩ : S33)] : List (S33))) := ⟨_, rfl⟩
              replace H : ((attribute_Sum.f k y153).bind fun t156 => (some ((t156.size : Int) == 32))) = some r := by first | (rw [hy153]; with_reducible exact H) | (have H2_ := (Option.bind_some _ _).symm.trans H; rw [hy153]; with_reducible exact H2_) | (have H2_ := (Option.bind_some _ _).symm.trans H; with_reducible exact H2_) | with_reducible exact H | (rw [hy153]; exact H) | exact H
              have Ny153 := Aside0.mk hy153
              clear hy153
              replace H := Option.bind_eq_some_iff.mp H
              obtain ⟨t156, A140, H⟩ := H
              replace H : (some ((t156.size : Int) == 32)) = some r := H
              have A14 := Aside0.mk A140
              clear A140
              obtain rfl := Option.some.inj H
              go_enter Tryd.func16, Tryd.ntmps16
              go_wp2_with (first | ((with_reducible refine gate_callee (f := 10) rfl ?_); refine goesL_ (some 4) rfl rfl Tryd.func10 (by kernel_rfl) rfl #[.string (⟨#[78, 117, 109, 98, 101, 114, 46, 105, 110, 116]⟩ : ByteArray)] rfl (by (try simp only [List.map_toArray, List.map_cons, List.map_nil]); first | done | rfl | (simp only [List.length_drop, List.length_take]; rfl)) ?_; (with_reducible refine (attribute_Type.calls k (⟨#[78, 117, 109, 98, 101, 114, 46, 105, 110, 116]⟩ : ByteArray) t147 true _ A1.out).mono ?_); rintro e w15 ⟨rfl, hb⟩; refine ⟨_, rfl, ?_⟩; have n0_ := Aside0.mk (below_step (by repeat (first | (with_reducible first | exact HB.out | apply below_alloc | apply pw_below_drewN | apply below_drew1) | exact HB.out)) hb); clear HB; have HB := n0_; clear n0_; (try clear hb); (try clear hb2); (try clear hk); (try clear hi)) | ((with_reducible refine gate_callee (f := 12) rfl ?_); refine goesL_ (some 7) rfl rfl Tryd.func12 (by kernel_rfl) rfl #[.string (⟨#[97, 46, 98]⟩ : ByteArray)] rfl (by (try simp only [List.map_toArray, List.map_cons, List.map_nil]); first | done | rfl | (simp only [List.length_drop, List.length_take]; rfl)) ?_; (with_reducible refine (attribute_Name.calls k (⟨#[97, 46, 98]⟩ : ByteArray) true _ ?side1 A2.out).mono ?_); (case side1 => first | exact HGMax.out | exact GlobMax.below HGMax.out (by repeat (first | (with_reducible first | exact HB.out | apply below_alloc | apply pw_below_drewN | apply below_drew1) | exact HB.out)) | exact GlobMax.drawn HGMax.out (by repeat (first | exact Drawn0.refl _ | apply Drawn0.step))); rintro e w' ⟨rfl, ⟨nd, rfl⟩⟩; refine ⟨_, rfl, ?_⟩) | (go_at_call 12; (with_reducible refine (attribute_Name.calls k (⟨#[97, 46, 46, 98]⟩ : ByteArray) false _ ?side1 A4.out).mono ?_); (case side1 => first | exact HGMax.out | exact GlobMax.below HGMax.out (by repeat (first | (with_reducible first | exact HB.out | apply below_alloc | apply pw_below_drewN | apply below_drew1) | exact HB.out)) | exact GlobMax.drawn HGMax.out (by repeat (first | exact Drawn0.refl _ | apply Drawn0.step))); rintro e w' ⟨rfl, ⟨nd, rfl⟩⟩) | (go_at_call 12; (with_reducible refine (attribute_Name.calls k (⟨#[65, 87, 83, 46, 120]⟩ : ByteArray) false _ ?side1 A7.out).mono ?_); (case side1 => first | exact HGMax.out | exact GlobMax.below HGMax.out (by repeat (first | (with_reducible first | exact HB.out | apply below_alloc | apply pw_below_drewN | apply below_drew1) | exact HB.out)) | exact GlobMax.drawn HGMax.out (by repeat (first | exact Drawn0.refl _ | apply Drawn0.step))); rintro e w' ⟨rfl, ⟨nd, rfl⟩⟩) | (go_at_call 14; (with_reducible refine (attribute_Number.calls k (⟨#[45, 49, 46, 53, 101, 51]⟩ : ByteArray) true _ ?side1 A12.out).mono ?_); (case side1 => first | exact HGMax.out | exact GlobMax.below HGMax.out (by repeat (first | (with_reducible first | exact HB.out | apply below_alloc | apply pw_below_drewN | apply below_drew1) | exact HB.out)) | exact GlobMax.drawn HGMax.out (by repeat (first | exact Drawn0.refl _ | apply Drawn0.step))); rintro e w16 ⟨rfl, hb⟩; have n0_ := Aside0.mk (below_step (by repeat (first | (with_reducible first | exact HB.out | apply below_alloc | apply pw_below_drewN | apply below_drew1) | exact HB.out)) hb); clear HB; have HB := n0_; clear n0_; (try clear hb); (try clear hb2); (try clear hk); (try clear hi)) | ((with_reducible refine gate_dst (N := 28) rfl ?_); (try (refine gate_guard (by rfl) ?_; dsimp only)); refine Kd.R_lit k33 _ 33 ?hg (N := 28) ?hd (xs := ([(⟨(⟨#[97]⟩ : ByteArray), (⟨#[83, 116, 114, 105, 110, 103]⟩ : ByteArray), (⟨#[120]⟩ : ByteArray)⟩ : S33)] : List (S33))) (inner := [.string (⟨#[97]⟩ : ByteArray), .string (⟨#[83, 116, 114, 105, 110, 103]⟩ : ByteArray), .string (⟨#[120]⟩ : ByteArray)]) (ok := fun _ => True) (okp := fun _ => True) ?hr ?hp (fun _ hk => hk) trivial (Below.refl _ _) (Nat.le_refl _) (by simp) ?_; (case hd => rfl); (case hg => rfl); (case hr => first | (go_simp; done) | (go_simp; rfl)); (case hp => exact (Reps.c3 (show Kd.M k33 _ _ _ (⟨(⟨#[97]⟩ : ByteArray), (⟨#[83, 116, 114, 105, 110, 103]⟩ : ByteArray), (⟨#[120]⟩ : ByteArray)⟩ : S33) [.string (⟨#[97]⟩ : ByteArray), .string (⟨#[83, 116, 114, 105, 110, 103]⟩ : ByteArray), .string (⟨#[120]⟩ : ByteArray)] from (k33_mkM _ _ _ (⟨(⟨#[97]⟩ : ByteArray), (⟨#[83, 116, 114, 105, 110, 103]⟩ : ByteArray), (⟨#[120]⟩ : ByteArray)⟩ : S33) )) (Reps.none _ _))); intro v154 w17 ho18 hb hg_ hnew_; clear hg_ hnew_; (first | rw [← Ny153.out] at ho18 | (simp only [Int.reduceToNat] at ho18; rw [← Ny153.out] at ho18)); have n0_ := Aside0.mk (Kd.R_lower ho18 (below_size (by repeat (first | (with_reducible first | exact HB.out | apply below_alloc | apply pw_below_drewN | apply below_drew1) | exact HB.out)))); have n1_ := Aside0.mk (below_step (by repeat (first | (with_reducible first | exact HB.out | apply below_alloc | apply pw_below_drewN | apply below_drew1) | exact HB.out)) hb); clear HB; have HO155 := n0_; have HB := n1_; clear n0_ n1_; clear hb ho18; obtain ⟨Ao19, co19, eo19⟩ := Kd.R_slice HO155.out; subst eo19) | (go_at_call 21; (with_reducible refine (attribute_Sum.calls k _ _ y153 t156 _ ?side3 ?side1 ?side2 A14.out).mono ?_); (case side1 => repeat (first | exact (Kd.R_reads' HO155.out).2.2 | (with_reducible refine Kd.C_alloc ?_ _) | (with_reducible refine Kd.C_drewN ?_ _) | (with_reducible refine Kd.C_drew ?_))); (case side2 => exact (Kd.R_reads' HO155.out).2.1); (case side3 => first | exact HGFp.out | exact GlobFp.below HGFp.out (by repeat (first | (with_reducible first | exact HB.out | apply below_alloc | apply pw_below_drewN | apply below_drew1) | exact HB.out)) | exact GlobFp.drawn HGFp.out (by repeat (first | exact Drawn0.refl _ | apply Drawn0.step))); rintro e w20 ⟨rfl, hb⟩; have n0_ := Aside0.mk (Kd.R_below (by (with_reducible repeat (first | apply Kd.R_alloc | apply Kd.R_drewN | apply Kd.R_drew)); exact HO155.out) hb); have n1_ := Aside0.mk (below_step (by repeat (first | (with_reducible first | exact HB.out | apply below_alloc | apply pw_below_drewN | apply below_drew1) | exact HB.out)) hb); clear HO155; clear HB; have HO155 := n0_; have HB := n1_; clear n0_ n1_; (try clear hb); (try clear hb2); (try clear hk); (try clear hi)))
              go_ret
              exact ⟨by first | rfl | (simp [errW_none, errW_some] <;> rfl) | (simp [*, errW_none, errW_some] <;> rfl), by repeat (first | (with_reducible first | exact HB.out | apply below_alloc | apply pw_below_drewN | apply below_drew1) | exact HB.out)⟩
            · replace c13 := Bool.eq_false_iff.mpr c13
              subst c13
              have H1 : (some false) = some r := by rw [if_neg (show ¬ (false = true) by decide)] at H; exact H
              clear H
              have H := H1
              clear H1
              obtain rfl := Option.some.inj H
              go_enter Tryd.func16, Tryd.ntmps16
              go_wp2_with (first | ((with_reducible refine gate_callee (f := 10) rfl ?_); refine goesL_ (some 4) rfl rfl Tryd.func10 (by kernel_rfl) rfl #[.string (⟨#[78, 117, 109, 98, 101, 114, 46, 105, 110, 116]⟩ : ByteArray)] rfl (by (try simp only [List.map_toArray, List.map_cons, List.map_nil]); first | done | rfl | (simp only [List.length_drop, List.length_take]; rfl)) ?_; (with_reducible refine (attribute_Type.calls k (⟨#[78, 117, 109, 98, 101, 114, 46, 105, 110, 116]⟩ : ByteArray) t147 true _ A1.out).mono ?_); rintro e w21 ⟨rfl, hb⟩; refine ⟨_, rfl, ?_⟩; have n0_ := Aside0.mk (below_step (by repeat (first | (with_reducible first | exact HB.out | apply below_alloc | apply pw_below_drewN | apply below_drew1) | exact HB.out)) hb); clear HB; have HB := n0_; clear n0_; (try clear hb); (try clear hb2); (try clear hk); (try clear hi)) | ((with_reducible refine gate_callee (f := 12) rfl ?_); refine goesL_ (some 7) rfl rfl Tryd.func12 (by kernel_rfl) rfl #[.string (⟨#[97, 46, 98]⟩ : ByteArray)] rfl (by (try simp only [List.map_toArray, List.map_cons, List.map_nil]); first | done | rfl | (simp only [List.length_drop, List.length_take]; rfl)) ?_; (with_reducible refine (attribute_Name.calls k (⟨#[97, 46, 98]⟩ : ByteArray) true _ ?side1 A2.out).mono ?_); (case side1 => first | exact HGMax.out | exact GlobMax.below HGMax.out (by repeat (first | (with_reducible first | exact HB.out | apply below_alloc | apply pw_below_drewN | apply below_drew1) | exact HB.out)) | exact GlobMax.drawn HGMax.out (by repeat (first | exact Drawn0.refl _ | apply Drawn0.step))); rintro e w' ⟨rfl, ⟨nd, rfl⟩⟩; refine ⟨_, rfl, ?_⟩) | (go_at_call 12; (with_reducible refine (attribute_Name.calls k (⟨#[97, 46, 46, 98]⟩ : ByteArray) false _ ?side1 A4.out).mono ?_); (case side1 => first | exact HGMax.out | exact GlobMax.below HGMax.out (by repeat (first | (with_reducible first | exact HB.out | apply below_alloc | apply pw_below_drewN | apply below_drew1) | exact HB.out)) | exact GlobMax.drawn HGMax.out (by repeat (first | exact Drawn0.refl _ | apply Drawn0.step))); rintro e w' ⟨rfl, ⟨nd, rfl⟩⟩) | (go_at_call 12; (with_reducible refine (attribute_Name.calls k (⟨#[65, 87, 83, 46, 120]⟩ : ByteArray) false _ ?side1 A7.out).mono ?_); (case side1 => first | exact HGMax.out | exact GlobMax.below HGMax.out (by repeat (first | (with_reducible first | exact HB.out | apply below_alloc | apply pw_below_drewN | apply below_drew1) | exact HB.out)) | exact GlobMax.drawn HGMax.out (by repeat (first | exact Drawn0.refl _ | apply Drawn0.step))); rintro e w' ⟨rfl, ⟨nd, rfl⟩⟩) | (go_at_call 14; (with_reducible refine (attribute_Number.calls k (⟨#[45, 49, 46, 53, 101, 51]⟩ : ByteArray) false _ ?side1 A12.out).mono ?_); (case side1 => first | exact HGMax.out | exact GlobMax.below HGMax.out (by repeat (first | (with_reducible first | exact HB.out | apply below_alloc | apply pw_below_drewN | apply below_drew1) | exact HB.out)) | exact GlobMax.drawn HGMax.out (by repeat (first | exact Drawn0.refl _ | apply Drawn0.step))); rintro e w22 ⟨rfl, hb⟩; have n0_ := Aside0.mk (below_step (by repeat (first | (with_reducible first | exact HB.out | apply below_alloc | apply pw_below_drewN | apply below_drew1) | exact HB.out)) hb); clear HB; have HB := n0_; clear n0_; (try clear hb); (try clear hb2); (try clear hk); (try clear hi)))
              go_ret
              exact ⟨by first | rfl | (simp [errW_none, errW_some] <;> rfl) | (simp [*, errW_none, errW_some] <;> rfl), by repeat (first | (with_reducible first | exact HB.out | apply below_alloc | apply pw_below_drewN | apply below_drew1) | exact HB.out)⟩
          · replace c11 := Bool.eq_false_iff.mpr c11
            subst c11
            have H1 : (some false) = some r := by rw [if_neg (show ¬ (false = true) by decide)] at H; exact H
            clear H
            have H := H1
            clear H1
            obtain rfl := Option.some.inj H
            go_enter Tryd.func16, Tryd.ntmps16
            go_wp2_with (first | ((with_reducible refine gate_callee (f := 10) rfl ?_); refine goesL_ (some 4) rfl rfl Tryd.func10 (by kernel_rfl) rfl #[.string (⟨#[78, 117, 109, 98, 101, 114, 46, 105, 110, 116]⟩ : ByteArray)] rfl (by (try simp only [List.map_toArray, List.map_cons, List.map_nil]); first | done | rfl | (simp only [List.length_drop, List.length_take]; rfl)) ?_; (with_reducible refine (attribute_Type.calls k (⟨#[78, 117, 109, 98, 101, 114, 46, 105, 110, 116]⟩ : ByteArray) t147 false _ A1.out).mono ?_); rintro e w23 ⟨rfl, hb⟩; refine ⟨_, rfl, ?_⟩; have n0_ := Aside0.mk (below_step (by repeat (first | (with_reducible first | exact HB.out | apply below_alloc | apply pw_below_drewN | apply below_drew1) | exact HB.out)) hb); clear HB; have HB := n0_; clear n0_; (try clear hb); (try clear hb2); (try clear hk); (try clear hi)) | ((with_reducible refine gate_callee (f := 12) rfl ?_); refine goesL_ (some 7) rfl rfl Tryd.func12 (by kernel_rfl) rfl #[.string (⟨#[97, 46, 98]⟩ : ByteArray)] rfl (by (try simp only [List.map_toArray, List.map_cons, List.map_nil]); first | done | rfl | (simp only [List.length_drop, List.length_take]; rfl)) ?_; (with_reducible refine (attribute_Name.calls k (⟨#[97, 46, 98]⟩ : ByteArray) true _ ?side1 A2.out).mono ?_); (case side1 => first | exact HGMax.out | exact GlobMax.below HGMax.out (by repeat (first | (with_reducible first | exact HB.out | apply below_alloc | apply pw_below_drewN | apply below_drew1) | exact HB.out)) | exact GlobMax.drawn HGMax.out (by repeat (first | exact Drawn0.refl _ | apply Drawn0.step))); rintro e w' ⟨rfl, ⟨nd, rfl⟩⟩; refine ⟨_, rfl, ?_⟩) | (go_at_call 12; (with_reducible refine (attribute_Name.calls k (⟨#[97, 46, 46, 98]⟩ : ByteArray) false _ ?side1 A4.out).mono ?_); (case side1 => first | exact HGMax.out | exact GlobMax.below HGMax.out (by repeat (first | (with_reducible first | exact HB.out | apply below_alloc | apply pw_below_drewN | apply below_drew1) | exact HB.out)) | exact GlobMax.drawn HGMax.out (by repeat (first | exact Drawn0.refl _ | apply Drawn0.step))); rintro e w' ⟨rfl, ⟨nd, rfl⟩⟩) | (go_at_call 12; (with_reducible refine (attribute_Name.calls k (⟨#[65, 87, 83, 46, 120]⟩ : ByteArray) false _ ?side1 A7.out).mono ?_); (case side1 => first | exact HGMax.out | exact GlobMax.below HGMax.out (by repeat (first | (with_reducible first | exact HB.out | apply below_alloc | apply pw_below_drewN | apply below_drew1) | exact HB.out)) | exact GlobMax.drawn HGMax.out (by repeat (first | exact Drawn0.refl _ | apply Drawn0.step))); rintro e w' ⟨rfl, ⟨nd, rfl⟩⟩))
            go_ret
            exact ⟨by first | rfl | (simp [errW_none, errW_some] <;> rfl) | (simp [*, errW_none, errW_some] <;> rfl), by repeat (first | (with_reducible first | exact HB.out | apply below_alloc | apply pw_below_drewN | apply below_drew1) | exact HB.out)⟩
        · rw [if_neg c10] at H
          have c10b0 : (t147 == 2) = false := beq_eq_false_iff_ne.mpr c10
          have c10b1 : (t147 != 2) = true := bne_iff_ne.mpr c10
          obtain rfl := Option.some.inj H
          go_enter Tryd.func16, Tryd.ntmps16
          go_wp2_with (first | ((with_reducible refine gate_callee (f := 10) rfl ?_); refine goesL_ (some 4) rfl rfl Tryd.func10 (by kernel_rfl) rfl #[.string (⟨#[78, 117, 109, 98, 101, 114, 46, 105, 110, 116]⟩ : ByteArray)] rfl (by (try simp only [List.map_toArray, List.map_cons, List.map_nil]); first | done | rfl | (simp only [List.length_drop, List.length_take]; rfl)) ?_; (with_reducible refine (attribute_Type.calls k (⟨#[78, 117, 109, 98, 101, 114, 46, 105, 110, 116]⟩ : ByteArray) t147 t148 _ A1.out).mono ?_); rintro e w24 ⟨rfl, hb⟩; refine ⟨_, rfl, ?_⟩; have n0_ := Aside0.mk (below_step (by repeat (first | (with_reducible first | exact HB.out | apply below_alloc | apply pw_below_drewN | apply below_drew1) | exact HB.out)) hb); clear HB; have HB := n0_; clear n0_; (try clear hb); (try clear hb2); (try clear hk); (try clear hi)) | ((with_reducible refine gate_callee (f := 12) rfl ?_); refine goesL_ (some 7) rfl rfl Tryd.func12 (by kernel_rfl) rfl #[.string (⟨#[97, 46, 98]⟩ : ByteArray)] rfl (by (try simp only [List.map_toArray, List.map_cons, List.map_nil]); first | done | rfl | (simp only [List.length_drop, List.length_take]; rfl)) ?_; (with_reducible refine (attribute_Name.calls k (⟨#[97, 46, 98]⟩ : ByteArray) true _ ?side1 A2.out).mono ?_); (case side1 => first | exact HGMax.out | exact GlobMax.below HGMax.out (by repeat (first | (with_reducible first | exact HB.out | apply below_alloc | apply pw_below_drewN | apply below_drew1) | exact HB.out)) | exact GlobMax.drawn HGMax.out (by repeat (first | exact Drawn0.refl _ | apply Drawn0.step))); rintro e w' ⟨rfl, ⟨nd, rfl⟩⟩; refine ⟨_, rfl, ?_⟩) | (go_at_call 12; (with_reducible refine (attribute_Name.calls k (⟨#[97, 46, 46, 98]⟩ : ByteArray) false _ ?side1 A4.out).mono ?_); (case side1 => first | exact HGMax.out | exact GlobMax.below HGMax.out (by repeat (first | (with_reducible first | exact HB.out | apply below_alloc | apply pw_below_drewN | apply below_drew1) | exact HB.out)) | exact GlobMax.drawn HGMax.out (by repeat (first | exact Drawn0.refl _ | apply Drawn0.step))); rintro e w' ⟨rfl, ⟨nd, rfl⟩⟩) | (go_at_call 12; (with_reducible refine (attribute_Name.calls k (⟨#[65, 87, 83, 46, 120]⟩ : ByteArray) false _ ?side1 A7.out).mono ?_); (case side1 => first | exact HGMax.out | exact GlobMax.below HGMax.out (by repeat (first | (with_reducible first | exact HB.out | apply below_alloc | apply pw_below_drewN | apply below_drew1) | exact HB.out)) | exact GlobMax.drawn HGMax.out (by repeat (first | exact Drawn0.refl _ | apply Drawn0.step))); rintro e w' ⟨rfl, ⟨nd, rfl⟩⟩))
          go_ret
          exact ⟨by first | rfl | (simp [errW_none, errW_some] <;> rfl) | (simp [*, errW_none, errW_some] <;> rfl), by repeat (first | (with_reducible first | exact HB.out | apply below_alloc | apply pw_below_drewN | apply below_drew1) | exact HB.out)⟩
  · replace c3 := Bool.eq_false_iff.mpr c3
    subst c3
    have H1 : (some false) = some r := by rw [if_neg (show ¬ (false = true) by decide)] at H; exact H
    clear H
    have H := H1
    clear H1
    obtain rfl := Option.some.inj H
    go_enter Tryd.func16, Tryd.ntmps16
    go_wp2_with (first | ((with_reducible refine gate_callee (f := 10) rfl ?_); refine goesL_ (some 4) rfl rfl Tryd.func10 (by kernel_rfl) rfl #[.string (⟨#[78, 117, 109, 98, 101, 114, 46, 105, 110, 116]⟩ : ByteArray)] rfl (by (try simp only [List.map_toArray, List.map_cons, List.map_nil]); first | done | rfl | (simp only [List.length_drop, List.length_take]; rfl)) ?_; (with_reducible refine (attribute_Type.calls k (⟨#[78, 117, 109, 98, 101, 114, 46, 105, 110, 116]⟩ : ByteArray) t147 t148 _ A1.out).mono ?_); rintro e w25 ⟨rfl, hb⟩; refine ⟨_, rfl, ?_⟩; have n0_ := Aside0.mk (below_step (by repeat (first | (with_reducible first | exact HB.out | apply below_alloc | apply pw_below_drewN | apply below_drew1) | exact HB.out)) hb); clear HB; have HB := n0_; clear n0_; (try clear hb); (try clear hb2); (try clear hk); (try clear hi)) | ((with_reducible refine gate_callee (f := 12) rfl ?_); refine goesL_ (some 7) rfl rfl Tryd.func12 (by kernel_rfl) rfl #[.string (⟨#[97, 46, 98]⟩ : ByteArray)] rfl (by (try simp only [List.map_toArray, List.map_cons, List.map_nil]); first | done | rfl | (simp only [List.length_drop, List.length_take]; rfl)) ?_; (with_reducible refine (attribute_Name.calls k (⟨#[97, 46, 98]⟩ : ByteArray) false _ ?side1 A2.out).mono ?_); (case side1 => first | exact HGMax.out | exact GlobMax.below HGMax.out (by repeat (first | (with_reducible first | exact HB.out | apply below_alloc | apply pw_below_drewN | apply below_drew1) | exact HB.out)) | exact GlobMax.drawn HGMax.out (by repeat (first | exact Drawn0.refl _ | apply Drawn0.step))); rintro e w' ⟨rfl, ⟨nd, rfl⟩⟩; refine ⟨_, rfl, ?_⟩))
    go_ret
    exact ⟨by first | rfl | (simp [errW_none, errW_some] <;> rfl) | (simp [*, errW_none, errW_some] <;> rfl), by repeat (first | (with_reducible first | exact HB.out | apply below_alloc | apply pw_below_drewN | apply below_drew1) | exact HB.out)⟩

def racewaylaw24_few.l0 : Nat → List (S33) → List (S33) → Int → Option ((List (S33)))
  | 0, _, _, _ => none
  | k + 1, x0, x3, x4 => if x4 < (x0.length : Int) then (if x4 < 14 then (if 0 ≤ x4 then (if 0 ≤ (mn (((rd_T33 x0 x4).f0).size : Int) 100) then (if (mn (((rd_T33 x0 x4).f0).size : Int) 100) ≤ (((rd_T33 x0 x4).f0).size : Int) then (if 0 ≤ (mn (((rd_T33 x0 x4).f1).size : Int) 100) then (if (mn (((rd_T33 x0 x4).f1).size : Int) 100) ≤ (((rd_T33 x0 x4).f1).size : Int) then (if 0 ≤ (mn (((rd_T33 x0 x4).f2).size : Int) 200) then (if (mn (((rd_T33 x0 x4).f2).size : Int) 200) ≤ (((rd_T33 x0 x4).f2).size : Int) then (if x3.length < 2932031007402 then (racewaylaw24_few.l0 k x0 (x3 ++ [(⟨((rd_T33 x0 x4).f0).extract 0 ((mn (((rd_T33 x0 x4).f0).size : Int) 100) : Int).toNat, ((rd_T33 x0 x4).f1).extract 0 ((mn (((rd_T33 x0 x4).f1).size : Int) 100) : Int).toNat, ((rd_T33 x0 x4).f2).extract 0 ((mn (((rd_T33 x0 x4).f2).size : Int) 200) : Int).toNat⟩ : S33)]) (wrap64 (x4 + 1))) else (none)) else (none)) else (none)) else (none)) else (none)) else (none)) else (none)) else (none)) else (some x3)) else (some x3)
def racewaylaw24_few.f (k : Nat) (l0 : List (S33)) : Option ((List (S33))) := racewaylaw24_few.l0 k l0 ([] : List (S33)) 0
def racewaylaw24_few.T6 : Bool × List (List Nat × List Nat) := (true, [([], []), ([0], [0]), ([], []), ([2], [2]), ([3], [3]), ([4], [4]), ([1, 5], [1, 5]), ([], []), ([7], [7]), ([], []), ([9], [9]), ([10], [10]), ([11], [11]), ([8, 12], [8, 12]), ([], []), ([14], [14]), ([], []), ([16], [16]), ([17], [17]), ([18], [18]), ([15, 19], [15, 19]), ([0, 1, 2, 3, 4, 5, 6, 7, 8, 9, 10, 14, 15, 16, 17], []), ([21, 6, 0, 1, 2, 3, 4, 5, 6, 7, 8, 9, 10, 14, 15, 16, 17], [6, 21]), ([0, 1, 2, 3, 4, 5, 6, 7, 8, 9, 10, 11, 12, 13, 14, 15, 16, 17, 21, 22], []), ([23, 13, 22, 0, 1, 2, 3, 4, 5, 6, 7, 8, 9, 10, 11, 12, 13, 14, 15, 16, 17, 21, 22], [13, 23]), ([0, 1, 2, 3, 4, 5, 6, 7, 8, 9, 10, 11, 12, 13, 14, 15, 16, 17, 18, 19, 20, 21, 22, 23, 24], []), ([25, 20, 24, 0, 1, 2, 3, 4, 5, 6, 7, 8, 9, 10, 11, 12, 13, 14, 15, 16, 17, 18, 19, 20, 21, 22, 23, 24], [20, 25])])
def racewaylaw24_few.B6 : List Nat := [0, 1, 0, 4, 12, 28, 63, 0, 128, 0, 512, 1536, 3584, 8064, 0, 16384, 0, 65536, 196608, 458752, 1032192, 247807, 2344959, 6553599, 14942207, 33554431, 67108863]
theorem racewaylaw24_few.tab6 : rtab .any (opsOf Tryd.f17 6) = racewaylaw24_few.T6 := by kernel_rfl
theorem racewaylaw24_few.bits6 : waitsOk racewaylaw24_few.T6.2 racewaylaw24_few.B6 = true := by kernel_rfl
set_option maxHeartbeats 8000000 in
set_option maxRecDepth 100000 in
theorem racewaylaw24_few.calls (k : Nat) (A0 : Option Addr) (c0 : Nat) (l0 : List (S33)) (r : List (S33)) (w : World) (hr0 : Kd.C k33 w A0 l0.length l0) (hc0 : l0.length ≤ c0) (h : racewaylaw24_few.f k l0 = some r) :
    Calls Tryd.prog 17 #[.slice A0 l0.length c0] w fun e w' => ∃ v0_ : Value, e = .returned (v0_) ∧ Kd.R k33 33 w' w.heap.size (fun _ => True) v0_ r ∧ Below w.heap.size w w' := by
  have hu33 := Tryd.underlying33
  have HR0 := Aside0.mk hr0
  have HC0 := Aside0.mk hc0
  clear hr0 hc0
  have HB := Aside0.mk (Below.refl w.heap.size w)
  have H : (racewaylaw24_few.l0 k l0 ([] : List (S33)) 0) = some r := h
  clear h
  have H' := Aside0.mk H
  clear H
  go_enter Tryd.func17, Tryd.ntmps17
  go_wp2
  go_loopg [3, 4] k (fun kq v3 v4 w' => ∃ (x3_1 : List (S33)) (x4_1 : Int), v4 = .int .i64 x4_1 ∧ Aside0 (racewaylaw24_few.l0 kq l0 x3_1 x4_1 = some r) ∧ Aside0 (kq ≤ k) ∧ Aside0 (Kd.R k33 33 w' w.heap.size (fun _ => True) v3 x3_1) ∧ Aside0 (Below w.heap.size w w'))
  case atStart => exact ⟨(([] : List (S33))), (0), (by first | rfl | (simp; done) | (simp; decide +kernel) | (simp [*]; done)), (by first | exact H' | (subst_vars; exact H')), ⟨Nat.le_refl _⟩, ⟨by first | exact Kd.R_nil _ _ _ _ _ | exact Kd.N_nil _ _ _ _ _ | exact Kd.V_nil _ _ _ _ _ | exact Kd.Q_nil _ _ _ _ _ | exact Kd.S_nil _ _ _ _ _⟩, ⟨by repeat (first | (with_reducible first | exact HB.out | apply below_alloc | apply pw_below_drewN | apply below_drew1) | exact HB.out)⟩⟩
  case round =>
    clear H'
    try clear c1
    obtain ⟨x3_1, x4_1, rfl, HA, HK1, HO_3, HB⟩ := hrel
    cases gk with
    | zero => exact absurd HA.out (by simp [racewaylaw24_few.l0])
    | succ k1 =>
      have H := HA.out
      clear HA
      simp only [racewaylaw24_few.l0] at H
      by_cases c2 : x4_1 < (l0.length : Int)
      · rw [if_pos c2] at H
        have c2b0 : decide (x4_1 < (l0.length : Int)) = true := decide_eq_true c2
        clear c2
        by_cases c3 : x4_1 < 14
        · rw [if_pos c3] at H
          have c3b0 : decide (x4_1 < 14) = true := decide_eq_true c3
          clear c3
          by_cases c4 : 0 ≤ x4_1
          · rw [if_pos c4] at H
            have c4b0 : decide (0 ≤ x4_1) = true := decide_eq_true c4
            clear c4
            obtain ⟨ji5, hji5⟩ : ∃ j_ : Int, (mn (((rd_T33 l0 x4_1).f0).size : Int) 100) = j_ := ⟨_, rfl⟩
            replace H : (if 0 ≤ (ji5) then (if (ji5) ≤ (((rd_T33 l0 x4_1).f0).size : Int) then (if 0 ≤ (mn (((rd_T33 l0 x4_1).f1).size : Int) 100) then (if (mn (((rd_T33 l0 x4_1).f1).size : Int) 100) ≤ (((rd_T33 l0 x4_1).f1).size : Int) then (if 0 ≤ (mn (((rd_T33 l0 x4_1).f2).size : Int) 200) then (if (mn (((rd_T33 l0 x4_1).f2).size : Int) 200) ≤ (((rd_T33 l0 x4_1).f2).size : Int) then (if x3_1.length < 2932031007402 then (racewaylaw24_few.l0 k1 l0 (x3_1 ++ [(⟨((rd_T33 l0 x4_1).f0).extract 0 ((ji5) : Int).toNat, ((rd_T33 l0 x4_1).f1).extract 0 ((mn (((rd_T33 l0 x4_1).f1).size : Int) 100) : Int).toNat, ((rd_T33 l0 x4_1).f2).extract 0 ((mn (((rd_T33 l0 x4_1).f2).size : Int) 200) : Int).toNat⟩ : S33)]) (wrap64 (x4_1 + 1))) else (none)) else (none)) else (none)) else (none)) else (none)) else (none)) else (none)) = some r := by first | (rw [hji5] at H; exact H) | (simp only [hji5] at H ⊢; exact H)
            have hji5_ : (if 100 < (((rd_T33 l0 x4_1).f0).size : Int) then 100 else (((rd_T33 l0 x4_1).f0).size : Int)) = ji5 := hji5
            by_cases c6 : 0 ≤ (ji5)
            · rw [if_pos c6] at H
              have c6b0 := eq_true c6
              have c6b1 : decide (0 ≤ (ji5)) = true := decide_eq_true c6
              clear c6
              by_cases c7 : (ji5) ≤ (((rd_T33 l0 x4_1).f0).size : Int)
              · rw [if_pos c7] at H
                have c7b0 := eq_true c7
                have c7b1 : decide ((ji5) ≤ (((rd_T33 l0 x4_1).f0).size : Int)) = true := decide_eq_true c7
                clear c7
                obtain ⟨ji8, hji8⟩ : ∃ j_ : Int, (mn (((rd_T33 l0 x4_1).f1).size : Int) 100) = j_ := ⟨_, rfl⟩
                replace H : (if 0 ≤ (ji8) then (if (ji8) ≤ (((rd_T33 l0 x4_1).f1).size : Int) then (if 0 ≤ (mn (((rd_T33 l0 x4_1).f2).size : Int) 200) then (if (mn (((rd_T33 l0 x4_1).f2).size : Int) 200) ≤ (((rd_T33 l0 x4_1).f2).size : Int) then (if x3_1.length < 2932031007402 then (racewaylaw24_few.l0 k1 l0 (x3_1 ++ [(⟨((rd_T33 l0 x4_1).f0).extract 0 ((ji5) : Int).toNat, ((rd_T33 l0 x4_1).f1).extract 0 ((ji8) : Int).toNat, ((rd_T33 l0 x4_1).f2).extract 0 ((mn (((rd_T33 l0 x4_1).f2).size : Int) 200) : Int).toNat⟩ : S33)]) (wrap64 (x4_1 + 1))) else (none)) else (none)) else (none)) else (none)) else (none)) = some r := by first | (rw [hji8] at H; exact H) | (simp only [hji8] at H ⊢; exact H)
                have hji8_ : (if 100 < (((rd_T33 l0 x4_1).f1).size : Int) then 100 else (((rd_T33 l0 x4_1).f1).size : Int)) = ji8 := hji8
                by_cases c9 : 0 ≤ (ji8)
                · rw [if_pos c9] at H
                  have c9b0 := eq_true c9
                  have c9b1 : decide (0 ≤ (ji8)) = true := decide_eq_true c9
                  clear c9
                  by_cases c10 : (ji8) ≤ (((rd_T33 l0 x4_1).f1).size : Int)
                  · rw [if_pos c10] at H
                    have c10b0 := eq_true c10
                    have c10b1 : decide ((ji8) ≤ (((rd_T33 l0 x4_1).f1).size : Int)) = true := decide_eq_true c10
                    clear c10
                    obtain ⟨ji11, hji11⟩ : ∃ j_ : Int, (mn (((rd_T33 l0 x4_1).f2).size : Int) 200) = j_ := ⟨_, rfl⟩
                    replace H : (if 0 ≤ (ji11) then (if (ji11) ≤ (((rd_T33 l0 x4_1).f2).size : Int) then (if x3_1.length < 2932031007402 then (racewaylaw24_few.l0 k1 l0 (x3_1 ++ [(⟨((rd_T33 l0 x4_1).f0).extract 0 ((ji5) : Int).toNat, ((rd_T33 l0 x4_1).f1).extract 0 ((ji8) : Int).toNat, ((rd_T33 l0 x4_1).f2).extract 0 ((ji11) : Int).toNat⟩ : S33)]) (wrap64 (x4_1 + 1))) else (none)) else (none)) else (none)) = some r := by first | (rw [hji11] at H; exact H) | (simp only [hji11] at H ⊢; exact H)
                    have hji11_ : (if 200 < (((rd_T33 l0 x4_1).f2).size : Int) then 200 else (((rd_T33 l0 x4_1).f2).size : Int)) = ji11 := hji11
                    by_cases c12 : 0 ≤ (ji11)
                    · rw [if_pos c12] at H
                      have c12b0 := eq_true c12
                      have c12b1 : decide (0 ≤ (ji11)) = true := decide_eq_true c12
                      clear c12
                      by_cases c13 : (ji11) ≤ (((rd_T33 l0 x4_1).f2).size : Int)
                      · rw [if_pos c13] at H
                        have c13b0 := eq_true c13
                        have c13b1 : decide ((ji11) ≤ (((rd_T33 l0 x4_1).f2).size : Int)) = true := decide_eq_true c13
                        clear c13
                        by_cases c14 : x3_1.length < 2932031007402
                        · rw [if_pos c14] at H
                          have LMc14 := Aside0.mk c14
                          clear c14
                          obtain ⟨y168, hy168⟩ : ∃ y_ : List (S33), y_ = (x3_1 ++ [(⟨((rd_T33 l0 x4_1).f0).extract 0 ((ji5) : Int).toNat, ((rd_T33 l0 x4_1).f1).extract 0 ((ji8) : Int).toNat, ((rd_T33 l0 x4_1).f2).extract 0 ((ji11) : Int).toNat⟩ : S33)]) := ⟨_, rfl⟩
                          replace H : (racewaylaw24_few.l0 k1 l0 y168 (wrap64 (x4_1 + 1))) = some r := by first | (rw [hy168]; with_reducible exact H) | (have H2_ := (Option.bind_some _ _).symm.trans H; rw [hy168]; with_reducible exact H2_) | (have H2_ := (Option.bind_some _ _).symm.trans H; with_reducible exact H2_) | with_reducible exact H | (rw [hy168]; exact H) | exact H
                          have Ny168 := Aside0.mk hy168
                          clear hy168
                          have H' := Aside0.mk H
                          clear H
                          have p166 : 0 ≤ (x4_1 : Int) := of_decide_eq_true (by first | (with_reducible assumption) | assumption)
                          have q166 : x4_1 < (l0.length : Int) := of_decide_eq_true (by first | (with_reducible assumption) | assumption)
                          obtain ⟨ad166, e166, hx166_0, hx166_1, hx166_2⟩ := at_T33 HR0.out x4_1 p166 q166
                          cases e166
                          replace hx166_0 := (HB.out.cell (World.block_lt_of_cell? w _ hx166_0)).trans hx166_0
                          replace hx166_1 := (HB.out.cell (World.block_lt_of_cell? w _ hx166_1)).trans hx166_1
                          replace hx166_2 := (HB.out.cell (World.block_lt_of_cell? w _ hx166_2)).trans hx166_2
                          replace p166 := eq_true p166
                          replace q166 := eq_true q166
                          try go_wp2_with (first | ((with_reducible refine gate_dst (N := 5) rfl ?_); refine box_event ?hg (N := 5) ?hd (cs := #[.string (⟨#[]⟩ : ByteArray), .string (⟨#[]⟩ : ByteArray), .string (⟨#[]⟩ : ByteArray)]) (t := 33) ?hr ?_; (case hd => rfl); (case hg => rfl); (case hr => first | (go_simp; done) | (go_simp; rfl)); intro gb167 hg w15 hbox hb; have n0_ := Aside0.mk (Kd.R_below (Kd.R_elderB (by (with_reducible repeat (first | apply Kd.R_alloc | apply Kd.R_drewN | apply Kd.R_drew)); exact HO_3.out) gb167 (Nat.le_of_eq hg.symm)) hb); have n1_ := Aside0.mk (below_step (by repeat (first | (with_reducible first | exact HB.out | apply below_alloc | apply pw_below_drewN | apply below_drew1) | exact HB.out)) hb); have n2_ := Aside0.mk (hbox); have n3_ := Aside0.mk ((by rw [hg]; exact (below_size (by repeat (first | (with_reducible first | exact HB.out | apply below_alloc | apply pw_below_drewN | apply below_drew1) | exact HB.out))) : w.heap.size ≤ gb167)); have n4_ := Aside0.mk ((by rw [hg]; exact (below_size (by repeat (first | (with_reducible first | exact HB.out | apply below_alloc | apply pw_below_drewN | apply below_drew1) | exact HB.out))) : w.heap.size ≤ gb167)); clear HO_3; clear HB; have HO_3 := n0_; have HB := n1_; have BK167 := n2_; have GW167 := n3_; have GE167 := n4_; clear n0_ n1_ n2_ n3_ n4_; clear hb hbox hg; have hcz16_0 : w15.cell? ⟨gb167, 0, none⟩ = some (.string (⟨#[]⟩ : ByteArray)) := (blk_cell BK167.out 0).trans rfl; have hcz16_1 : w15.cell? ⟨gb167, 1, none⟩ = some (.string (⟨#[]⟩ : ByteArray)) := (blk_cell BK167.out 1).trans rfl; have hcz16_2 : w15.cell? ⟨gb167, 2, none⟩ = some (.string (⟨#[]⟩ : ByteArray)) := (blk_cell BK167.out 2).trans rfl; have hfz16_0 := blk_frozen BK167.out 0; have hfz16_1 := blk_frozen BK167.out 1; have hfz16_2 := blk_frozen BK167.out 2))
                          have n0_ : Aside0 (Kd.R k33 33 (((w15.setCell ⟨gb167, 0, none⟩ (.string ((rd_T33 l0 x4_1).f0))).setCell ⟨gb167, 1, none⟩ (.string ((rd_T33 l0 x4_1).f1))).setCell ⟨gb167, 2, none⟩ (.string ((rd_T33 l0 x4_1).f2))) w.heap.size (fun k_ => k_ ≠ gb167) u3 x3_1) := ⟨by (with_reducible repeat (first | apply Kd.R_alloc | apply Kd.R_drewN | apply Kd.R_drew)); exact Kd.R_mono (Kd.R_far (p := ⟨gb167, 2, none⟩) (Kd.R_far (p := ⟨gb167, 1, none⟩) (Kd.R_far (p := ⟨gb167, 0, none⟩) (Kd.R_mono HO_3.out (fun k_ hk => (⟨hk, hk.2⟩ : _ ∧ k_ ≠ gb167))) (fun _ hk => hk.2) (.string ((rd_T33 l0 x4_1).f0))) (fun _ hk => hk.2) (.string ((rd_T33 l0 x4_1).f1))) (fun _ hk => hk.2) (.string ((rd_T33 l0 x4_1).f2))) (fun _ hk => hk.1.2)⟩
                          have n1_ : Aside0 ((((w15.setCell ⟨gb167, 0, none⟩ (.string ((rd_T33 l0 x4_1).f0))).setCell ⟨gb167, 1, none⟩ (.string ((rd_T33 l0 x4_1).f1))).setCell ⟨gb167, 2, none⟩ (.string ((rd_T33 l0 x4_1).f2))).heap[gb167]? = some (.cells #[.string ((rd_T33 l0 x4_1).f0), .string ((rd_T33 l0 x4_1).f1), .string ((rd_T33 l0 x4_1).f2)] 33 (0, 0))) := ⟨by (with_reducible repeat (first | refine blk_drewN ?_ _ | refine blk_drew ?_ | refine blk_alloc ?_ _)); refine blk_put (cs := #[.string ((rd_T33 l0 x4_1).f0), .string ((rd_T33 l0 x4_1).f1), .string (⟨#[]⟩ : ByteArray)]) ?_ 2 _ rfl; (with_reducible repeat (first | refine blk_drewN ?_ _ | refine blk_drew ?_ | refine blk_alloc ?_ _)); refine blk_put (cs := #[.string ((rd_T33 l0 x4_1).f0), .string (⟨#[]⟩ : ByteArray), .string (⟨#[]⟩ : ByteArray)]) ?_ 1 _ rfl; (with_reducible repeat (first | refine blk_drewN ?_ _ | refine blk_drew ?_ | refine blk_alloc ?_ _)); refine blk_put (cs := #[.string (⟨#[]⟩ : ByteArray), .string (⟨#[]⟩ : ByteArray), .string (⟨#[]⟩ : ByteArray)]) ?_ 0 _ rfl; (with_reducible repeat (first | refine blk_drewN ?_ _ | refine blk_drew ?_ | refine blk_alloc ?_ _)); exact BK167.out⟩
                          have n2_ : Aside0 (Below w.heap.size w (((w15.setCell ⟨gb167, 0, none⟩ (.string ((rd_T33 l0 x4_1).f0))).setCell ⟨gb167, 1, none⟩ (.string ((rd_T33 l0 x4_1).f1))).setCell ⟨gb167, 2, none⟩ (.string ((rd_T33 l0 x4_1).f2)))) := ⟨by repeat (first | (with_reducible first | exact HB.out | apply below_alloc | apply pw_below_drewN | apply below_drew1 | refine below_set ?_ GE167.out) | exact HB.out)⟩
                          (try clear HO_3)
                          (try clear BK167)
                          (try clear HB)
                          generalize (((w15.setCell ⟨gb167, 0, none⟩ (.string ((rd_T33 l0 x4_1).f0))).setCell ⟨gb167, 1, none⟩ (.string ((rd_T33 l0 x4_1).f1))).setCell ⟨gb167, 2, none⟩ (.string ((rd_T33 l0 x4_1).f2))) = w17 at n0_ n1_ n2_ ⊢
                          have HO_3 := n0_
                          have BK167 := n1_
                          have HB := n2_
                          clear n0_ n1_ n2_
                          have n0_ := Aside0.mk (Kd.R_drew HO_3.out)
                          have n1_ := Aside0.mk (blk_drew BK167.out)
                          have n2_ := Aside0.mk (below_drew1 HB.out)
                          clear HO_3
                          clear BK167
                          clear HB
                          have HO_3 := n0_
                          have BK167 := n1_
                          have HB := n2_
                          clear n0_ n1_ n2_
                          refine start_ (n := 27) (S := fun w' => w'.cell? ⟨gb167, 0, none⟩ = some (.string ((rd_T33 l0 x4_1).f0)) ∧ w'.cell? ⟨gb167, 1, none⟩ = some (.string ((rd_T33 l0 x4_1).f1)) ∧ w'.cell? ⟨gb167, 2, none⟩ = some (.string ((rd_T33 l0 x4_1).f2))) (ds := [22, 24, 26]) #[false, false, false, false, false, false, false, false, false, false, false, false, false, false, false, false, false, false, false, false, false, false, false, false, false, false, false] (by kernel_rfl) rfl rfl ⟨(blk_cell BK167.out 0).trans rfl, (blk_cell BK167.out 1).trans rfl, (blk_cell BK167.out 2).trans rfl⟩ (fun hHeld => ?_); refine with_tabW racewaylaw24_few.tab6 racewaylaw24_few.bits6 (fun HT_ HW_ => ?_)
                          generalize w17.drew = w18 at HO_3 BK167 HB hHeld ⊢
                          refine pure_ (i := 0) (N := some 20) (v := ?_) (a' := ?_) #[true, false, false, false, false, false, false, false, false, false, false, false, false, false, false, false, false, false, false, false, false, false, false, false, false, false, false] rfl rfl (any_of HT_.out (by kernel_rfl)) (fun _ _ _ h => h) (Or.inl ⟨by rfl, ?_⟩) ?_ ?_
                          rotate_left
                          · intro w'
                            go_simp
                            with_reducible rfl
                          rotate_left
                          · simp only [Act.put, List.setIfInBounds_toArray, List.set_cons_zero, List.set_cons_succ, i64_w, i32_w]
                            rfl
                          refine pure_ (i := 2) (N := some 22) (v := ?_) (a' := ?_) #[true, false, true, false, false, false, false, false, false, false, false, false, false, false, false, false, false, false, false, false, false, false, false, false, false, false, false] rfl rfl (any_of HT_.out (by kernel_rfl)) (fun _ _ _ h => h) (Or.inl ⟨by rfl, ?_⟩) ?_ ?_
                          rotate_left
                          · intro w'
                            go_simp
                            with_reducible rfl
                          rotate_left
                          · simp only [Act.put, List.setIfInBounds_toArray, List.set_cons_zero, List.set_cons_succ, i64_w, i32_w]
                            rfl
                          refine pure_ (i := 7) (N := some 27) (v := ?_) (a' := ?_) #[true, false, true, false, false, false, false, true, false, false, false, false, false, false, false, false, false, false, false, false, false, false, false, false, false, false, false] rfl rfl (any_of HT_.out (by kernel_rfl)) (fun _ _ _ h => h) (Or.inl ⟨by rfl, ?_⟩) ?_ ?_
                          rotate_left
                          · intro w'
                            go_simp
                            with_reducible rfl
                          rotate_left
                          · simp only [Act.put, List.setIfInBounds_toArray, List.set_cons_zero, List.set_cons_succ, i64_w, i32_w]
                            rfl
                          refine pure_ (i := 9) (N := some 29) (v := ?_) (a' := ?_) #[true, false, true, false, false, false, false, true, false, true, false, false, false, false, false, false, false, false, false, false, false, false, false, false, false, false, false] rfl rfl (any_of HT_.out (by kernel_rfl)) (fun _ _ _ h => h) (Or.inl ⟨by rfl, ?_⟩) ?_ ?_
                          rotate_left
                          · intro w'
                            go_simp
                            with_reducible rfl
                          rotate_left
                          · simp only [Act.put, List.setIfInBounds_toArray, List.set_cons_zero, List.set_cons_succ, i64_w, i32_w]
                            rfl
                          refine pure_ (i := 14) (N := some 34) (v := ?_) (a' := ?_) #[true, false, true, false, false, false, false, true, false, true, false, false, false, false, true, false, false, false, false, false, false, false, false, false, false, false, false] rfl rfl (any_of HT_.out (by kernel_rfl)) (fun _ _ _ h => h) (Or.inl ⟨by rfl, ?_⟩) ?_ ?_
                          rotate_left
                          · intro w'
                            go_simp
                            with_reducible rfl
                          rotate_left
                          · simp only [Act.put, List.setIfInBounds_toArray, List.set_cons_zero, List.set_cons_succ, i64_w, i32_w]
                            rfl
                          refine pure_ (i := 16) (N := some 36) (v := ?_) (a' := ?_) #[true, false, true, false, false, false, false, true, false, true, false, false, false, false, true, false, true, false, false, false, false, false, false, false, false, false, false] rfl rfl (any_of HT_.out (by kernel_rfl)) (fun _ _ _ h => h) (Or.inl ⟨by rfl, ?_⟩) ?_ ?_
                          rotate_left
                          · intro w'
                            go_simp
                            with_reducible rfl
                          rotate_left
                          · simp only [Act.put, List.setIfInBounds_toArray, List.set_cons_zero, List.set_cons_succ, i64_w, i32_w]
                            rfl
                          refine take_ (i := 1) (N := some 21) (v := ?_) (a' := ?_) #[true, true, true, false, false, false, false, true, false, true, false, false, false, false, true, false, true, false, false, false, false, false, false, false, false, false, false] rfl rfl (take_ofW HT_.out HW_.out (by kernel_rfl)) (fun _ _ _ h => h) (Or.inl ⟨by rfl, ?_⟩) hHeld ?_ ?_
                          rotate_left
                          · rintro w' ⟨s0, s1, s2⟩
                            go_simp
                            with_reducible rfl
                          rotate_left
                          · simp only [Act.put, List.setIfInBounds_toArray, List.set_cons_zero, List.set_cons_succ, i64_w, i32_w]
                            rfl
                          refine take_ (i := 3) (N := some 23) (v := ?_) (a' := ?_) #[true, true, true, true, false, false, false, true, false, true, false, false, false, false, true, false, true, false, false, false, false, false, false, false, false, false, false] rfl rfl (take_ofW HT_.out HW_.out (by kernel_rfl)) (fun _ _ _ h => h) (Or.inl ⟨by rfl, ?_⟩) hHeld ?_ ?_
                          rotate_left
                          · rintro w' ⟨s0, s1, s2⟩
                            go_simp
                            with_reducible rfl
                          rotate_left
                          · simp only [Act.put, List.setIfInBounds_toArray, List.set_cons_zero, List.set_cons_succ, i64_w, i32_w]
                            rfl
                          refine pure_ (i := 4) (N := some 24) (v := ?_) (a' := ?_) #[true, true, true, true, true, false, false, true, false, true, false, false, false, false, true, false, true, false, false, false, false, false, false, false, false, false, false] rfl rfl (any_of HT_.out (by kernel_rfl)) (fun _ _ _ h => h) (Or.inl ⟨by rfl, ?_⟩) ?_ ?_
                          rotate_left
                          · intro w'
                            go_simp
                            with_reducible rfl
                          rotate_left
                          · simp only [Act.put, List.setIfInBounds_toArray, List.set_cons_zero, List.set_cons_succ, i64_w, i32_w]
                            rfl
                          refine pure_ (i := 5) (N := some 25) (v := ?_) (a' := ?_) #[true, true, true, true, true, true, false, true, false, true, false, false, false, false, true, false, true, false, false, false, false, false, false, false, false, false, false] rfl rfl (any_of HT_.out (by kernel_rfl)) (fun _ _ _ h => h) (Or.inl ⟨by rfl, ?_⟩) ?_ ?_
                          rotate_left
                          · intro w'
                            go_simp
                            with_reducible rfl
                          rotate_left
                          · simp only [Act.put, List.setIfInBounds_toArray, List.set_cons_zero, List.set_cons_succ, i64_w, i32_w]
                            rfl
                          refine pure_ (i := 6) (N := some 26) (v := ?_) (a' := ?_) #[true, true, true, true, true, true, true, true, false, true, false, false, false, false, true, false, true, false, false, false, false, false, false, false, false, false, false] rfl rfl (any_of HT_.out (by kernel_rfl)) (fun _ _ _ h => h) (Or.inl ⟨by rfl, ?_⟩) ?_ ?_
                          rotate_left
                          · intro w'
                            go_simp
                            with_reducible rfl
                          rotate_left
                          · simp only [Act.put, List.setIfInBounds_toArray, List.set_cons_zero, List.set_cons_succ, i64_w, i32_w]
                            rfl
                          refine take_ (i := 8) (N := some 28) (v := ?_) (a' := ?_) #[true, true, true, true, true, true, true, true, true, true, false, false, false, false, true, false, true, false, false, false, false, false, false, false, false, false, false] rfl rfl (take_ofW HT_.out HW_.out (by kernel_rfl)) (fun _ _ _ h => h) (Or.inl ⟨by rfl, ?_⟩) hHeld ?_ ?_
                          rotate_left
                          · rintro w' ⟨s0, s1, s2⟩
                            go_simp
                            with_reducible rfl
                          rotate_left
                          · simp only [Act.put, List.setIfInBounds_toArray, List.set_cons_zero, List.set_cons_succ, i64_w, i32_w]
                            rfl
                          refine take_ (i := 10) (N := some 30) (v := ?_) (a' := ?_) #[true, true, true, true, true, true, true, true, true, true, true, false, false, false, true, false, true, false, false, false, false, false, false, false, false, false, false] rfl rfl (take_ofW HT_.out HW_.out (by kernel_rfl)) (fun _ _ _ h => h) (Or.inl ⟨by rfl, ?_⟩) hHeld ?_ ?_
                          rotate_left
                          · rintro w' ⟨s0, s1, s2⟩
                            go_simp
                            with_reducible rfl
                          rotate_left
                          · simp only [Act.put, List.setIfInBounds_toArray, List.set_cons_zero, List.set_cons_succ, i64_w, i32_w]
                            rfl
                          refine pure_ (i := 11) (N := some 31) (v := ?_) (a' := ?_) #[true, true, true, true, true, true, true, true, true, true, true, true, false, false, true, false, true, false, false, false, false, false, false, false, false, false, false] rfl rfl (any_of HT_.out (by kernel_rfl)) (fun _ _ _ h => h) (Or.inl ⟨by rfl, ?_⟩) ?_ ?_
                          rotate_left
                          · intro w'
                            go_simp
                            with_reducible rfl
                          rotate_left
                          · simp only [Act.put, List.setIfInBounds_toArray, List.set_cons_zero, List.set_cons_succ, i64_w, i32_w]
                            rfl
                          refine pure_ (i := 12) (N := some 32) (v := ?_) (a' := ?_) #[true, true, true, true, true, true, true, true, true, true, true, true, true, false, true, false, true, false, false, false, false, false, false, false, false, false, false] rfl rfl (any_of HT_.out (by kernel_rfl)) (fun _ _ _ h => h) (Or.inl ⟨by rfl, ?_⟩) ?_ ?_
                          rotate_left
                          · intro w'
                            go_simp
                            with_reducible rfl
                          rotate_left
                          · simp only [Act.put, List.setIfInBounds_toArray, List.set_cons_zero, List.set_cons_succ, i64_w, i32_w]
                            rfl
                          refine pure_ (i := 13) (N := some 33) (v := ?_) (a' := ?_) #[true, true, true, true, true, true, true, true, true, true, true, true, true, true, true, false, true, false, false, false, false, false, false, false, false, false, false] rfl rfl (any_of HT_.out (by kernel_rfl)) (fun _ _ _ h => h) (Or.inl ⟨by rfl, ?_⟩) ?_ ?_
                          rotate_left
                          · intro w'
                            go_simp
                            with_reducible rfl
                          rotate_left
                          · simp only [Act.put, List.setIfInBounds_toArray, List.set_cons_zero, List.set_cons_succ, i64_w, i32_w]
                            rfl
                          refine take_ (i := 15) (N := some 35) (v := ?_) (a' := ?_) #[true, true, true, true, true, true, true, true, true, true, true, true, true, true, true, true, true, false, false, false, false, false, false, false, false, false, false] rfl rfl (take_ofW HT_.out HW_.out (by kernel_rfl)) (fun _ _ _ h => h) (Or.inl ⟨by rfl, ?_⟩) hHeld ?_ ?_
                          rotate_left
                          · rintro w' ⟨s0, s1, s2⟩
                            go_simp
                            with_reducible rfl
                          rotate_left
                          · simp only [Act.put, List.setIfInBounds_toArray, List.set_cons_zero, List.set_cons_succ, i64_w, i32_w]
                            rfl
                          refine take_ (i := 17) (N := some 37) (v := ?_) (a' := ?_) #[true, true, true, true, true, true, true, true, true, true, true, true, true, true, true, true, true, true, false, false, false, false, false, false, false, false, false] rfl rfl (take_ofW HT_.out HW_.out (by kernel_rfl)) (fun _ _ _ h => h) (Or.inl ⟨by rfl, ?_⟩) hHeld ?_ ?_
                          rotate_left
                          · rintro w' ⟨s0, s1, s2⟩
                            go_simp
                            with_reducible rfl
                          rotate_left
                          · simp only [Act.put, List.setIfInBounds_toArray, List.set_cons_zero, List.set_cons_succ, i64_w, i32_w]
                            rfl
                          refine pure_ (i := 18) (N := some 38) (v := ?_) (a' := ?_) #[true, true, true, true, true, true, true, true, true, true, true, true, true, true, true, true, true, true, true, false, false, false, false, false, false, false, false] rfl rfl (any_of HT_.out (by kernel_rfl)) (fun _ _ _ h => h) (Or.inl ⟨by rfl, ?_⟩) ?_ ?_
                          rotate_left
                          · intro w'
                            go_simp
                            with_reducible rfl
                          rotate_left
                          · simp only [Act.put, List.setIfInBounds_toArray, List.set_cons_zero, List.set_cons_succ, i64_w, i32_w]
                            rfl
                          refine pure_ (i := 19) (N := some 39) (v := ?_) (a' := ?_) #[true, true, true, true, true, true, true, true, true, true, true, true, true, true, true, true, true, true, true, true, false, false, false, false, false, false, false] rfl rfl (any_of HT_.out (by kernel_rfl)) (fun _ _ _ h => h) (Or.inl ⟨by rfl, ?_⟩) ?_ ?_
                          rotate_left
                          · intro w'
                            go_simp
                            with_reducible rfl
                          rotate_left
                          · simp only [Act.put, List.setIfInBounds_toArray, List.set_cons_zero, List.set_cons_succ, i64_w, i32_w]
                            rfl
                          refine pure_ (i := 20) (N := some 40) (v := ?_) (a' := ?_) #[true, true, true, true, true, true, true, true, true, true, true, true, true, true, true, true, true, true, true, true, true, false, false, false, false, false, false] rfl rfl (any_of HT_.out (by kernel_rfl)) (fun _ _ _ h => h) (Or.inl ⟨by rfl, ?_⟩) ?_ ?_
                          rotate_left
                          · intro w'
                            go_simp
                            with_reducible rfl
                          rotate_left
                          · simp only [Act.put, List.setIfInBounds_toArray, List.set_cons_zero, List.set_cons_succ, i64_w, i32_w]
                            rfl
                          refine pure_ (i := 21) (N := some 41) (v := ?_) (a' := ?_) #[true, true, true, true, true, true, true, true, true, true, true, true, true, true, true, true, true, true, true, true, true, true, false, false, false, false, false] rfl rfl (any_of HT_.out (by kernel_rfl)) (fun _ _ _ h => h) (Or.inl ⟨by rfl, ?_⟩) ?_ ?_
                          rotate_left
                          · intro w'
                            go_simp
                            with_reducible rfl
                          rotate_left
                          · simp only [Act.put, List.setIfInBounds_toArray, List.set_cons_zero, List.set_cons_succ, i64_w, i32_w]
                            rfl
                          refine last_ (i := 22) (N := none) #[true, true, true, true, true, true, true, true, true, true, true, true, true, true, true, true, true, true, true, true, true, true, true, false, false, false, false] rfl rfl (one_of HT_.out (by kernel_rfl)) (by decide) (fun K hK => ?_)
                          have hs19 : w18.cell? ⟨gb167, 0, none⟩ = some (.string ((rd_T33 l0 x4_1).f0)) := (blk_cell BK167.out 0).trans rfl
                          have hfs19 := blk_frozen BK167.out 0
                          refine skip_ (w1 := ?_) (by rfl) rfl ?_ ?_
                          rotate_left
                          · go_simp
                            rfl
                          refine hK.out _ _ ?_
                          clear hK K
                          refine pure_ (i := 23) (N := some 42) (v := ?_) (a' := ?_) #[true, true, true, true, true, true, true, true, true, true, true, true, true, true, true, true, true, true, true, true, true, true, true, true, false, false, false] rfl rfl (any_of HT_.out (by kernel_rfl)) (fun _ _ _ h => h) (Or.inl ⟨by rfl, ?_⟩) ?_ ?_
                          rotate_left
                          · intro w'
                            go_simp
                            with_reducible rfl
                          rotate_left
                          · simp only [Act.put, List.setIfInBounds_toArray, List.set_cons_zero, List.set_cons_succ, i64_w, i32_w]
                            rfl
                          refine last_ (i := 24) (N := none) #[true, true, true, true, true, true, true, true, true, true, true, true, true, true, true, true, true, true, true, true, true, true, true, true, true, false, false] rfl rfl (one_of HT_.out (by kernel_rfl)) (by decide) (fun K hK => ?_)
                          have hs20 : w18.cell? ⟨gb167, 1, none⟩ = some (.string ((rd_T33 l0 x4_1).f1)) := (blk_cell BK167.out 1).trans rfl
                          have hfs20 := blk_frozen BK167.out 1
                          refine skip_ (w1 := ?_) (by rfl) rfl ?_ ?_
                          rotate_left
                          · go_simp
                            rfl
                          refine hK.out _ _ ?_
                          clear hK K
                          refine pure_ (i := 25) (N := some 43) (v := ?_) (a' := ?_) #[true, true, true, true, true, true, true, true, true, true, true, true, true, true, true, true, true, true, true, true, true, true, true, true, true, true, false] rfl rfl (any_of HT_.out (by kernel_rfl)) (fun _ _ _ h => h) (Or.inl ⟨by rfl, ?_⟩) ?_ ?_
                          rotate_left
                          · intro w'
                            go_simp
                            with_reducible rfl
                          rotate_left
                          · simp only [Act.put, List.setIfInBounds_toArray, List.set_cons_zero, List.set_cons_succ, i64_w, i32_w]
                            rfl
                          refine last_ (i := 26) (N := none) #[true, true, true, true, true, true, true, true, true, true, true, true, true, true, true, true, true, true, true, true, true, true, true, true, true, true, true] rfl rfl (one_of HT_.out (by kernel_rfl)) (by decide) (fun K hK => ?_)
                          have hs21 : w18.cell? ⟨gb167, 2, none⟩ = some (.string ((rd_T33 l0 x4_1).f2)) := (blk_cell BK167.out 2).trans rfl
                          have hfs21 := blk_frozen BK167.out 2
                          refine skip_ (w1 := ?_) (by rfl) rfl ?_ ?_
                          rotate_left
                          · go_simp
                            rfl
                          refine hK.out _ _ ?_
                          clear hK K
                          refine done_ (done_of HT_.out (by kernel_rfl)) ?_
                          have hcz22_0 : w18.cell? ⟨gb167, 0, none⟩ = some (.string ((rd_T33 l0 x4_1).f0)) := (blk_cell BK167.out 0).trans rfl
                          have hcz22_1 : w18.cell? ⟨gb167, 1, none⟩ = some (.string ((rd_T33 l0 x4_1).f1)) := (blk_cell BK167.out 1).trans rfl
                          have hcz22_2 : w18.cell? ⟨gb167, 2, none⟩ = some (.string ((rd_T33 l0 x4_1).f2)) := (blk_cell BK167.out 2).trans rfl
                          have hfz22_0 := blk_frozen BK167.out 0
                          have hfz22_1 := blk_frozen BK167.out 1
                          have hfz22_2 := blk_frozen BK167.out 2
                          try go_wp2_with (first | ((with_reducible refine gate_builtin (b := .append) (xs := #[.tmp 44, .tmp 46]) rfl ?_); at_builtin; refine Kd.R_append k33 (w0 := w) w.heap.size rfl (.tmp 44) (.tmp 46) 26 33 (.agg #[(.string ⟨#[]⟩), (.string ⟨#[]⟩), (.string ⟨#[]⟩)]) 48 rfl Tryd.underlying26 info33 rfl (by decide) (by omega) u3 x3_1 (⟨((rd_T33 l0 x4_1).f0).extract 0 ((ji5) : Int).toNat, ((rd_T33 l0 x4_1).f1).extract 0 ((ji8) : Int).toNat, ((rd_T33 l0 x4_1).f2).extract 0 ((ji11) : Int).toNat⟩ : S33) [.string (((rd_T33 l0 x4_1).f0).extract 0 ((ji5) : Int).toNat), .string (((rd_T33 l0 x4_1).f1).extract 0 ((ji8) : Int).toNat), .string (((rd_T33 l0 x4_1).f2).extract 0 ((ji11) : Int).toNat)] (fun k_ => k_ ≠ gb167) (fun _ => False) rfl (by first | (go_simp; done) | (go_simp; rfl)) ?aP (fun _ hk => hk.elim) ?aF ?aO ?aB ?aS ?aL ?_; (case aP => exact k33_mkM _ _ _ (⟨((rd_T33 l0 x4_1).f0).extract 0 ((ji5) : Int).toNat, ((rd_T33 l0 x4_1).f1).extract 0 ((ji8) : Int).toNat, ((rd_T33 l0 x4_1).f2).extract 0 ((ji11) : Int).toNat⟩ : S33)); (case aB => exact (by repeat (first | (with_reducible first | exact HB.out | apply below_alloc | apply pw_below_drewN | apply below_drew1 | refine below_set ?_ GE167.out) | exact HB.out))); (case aF => exact (fun k_ hk => Kd.freshB (g := gb167) (o := .cells #[.string (((rd_T33 l0 x4_1).f0).extract 0 ((ji5) : Int).toNat), .string (((rd_T33 l0 x4_1).f1).extract 0 ((ji8) : Int).toNat), .string (((rd_T33 l0 x4_1).f2).extract 0 ((ji11) : Int).toNat)] 33 (0, 0)) (by (with_reducible repeat (first | refine blk_drewN ?_ _ | refine blk_drew ?_ | refine blk_alloc ?_ _)); refine blk_put (cs := #[.string (((rd_T33 l0 x4_1).f0).extract 0 ((ji5) : Int).toNat), .string (((rd_T33 l0 x4_1).f1).extract 0 ((ji8) : Int).toNat), .string ((rd_T33 l0 x4_1).f2)]) ?_ 2 _ rfl; (with_reducible repeat (first | refine blk_drewN ?_ _ | refine blk_drew ?_ | refine blk_alloc ?_ _)); refine blk_put (cs := #[.string (((rd_T33 l0 x4_1).f0).extract 0 ((ji5) : Int).toNat), .string ((rd_T33 l0 x4_1).f1), .string ((rd_T33 l0 x4_1).f2)]) ?_ 1 _ rfl; (with_reducible repeat (first | refine blk_drewN ?_ _ | refine blk_drew ?_ | refine blk_alloc ?_ _)); refine blk_put (cs := #[.string ((rd_T33 l0 x4_1).f0), .string ((rd_T33 l0 x4_1).f1), .string ((rd_T33 l0 x4_1).f2)]) ?_ 0 _ rfl; (with_reducible repeat (first | refine blk_drewN ?_ _ | refine blk_drew ?_ | refine blk_alloc ?_ _)); exact BK167.out) k_ hk)); (case aO => exact (by (with_reducible repeat (first | apply Kd.R_alloc | apply Kd.R_drewN | apply Kd.R_drew)); exact Kd.R_mono (Kd.R_far (p := ⟨gb167, 2, none⟩) (Kd.R_far (p := ⟨gb167, 1, none⟩) (Kd.R_far (p := ⟨gb167, 0, none⟩) (Kd.R_mono HO_3.out (fun k_ hk => (⟨hk, hk⟩ : _ ∧ k_ ≠ gb167))) (fun _ hk => hk.2) (.string (((rd_T33 l0 x4_1).f0).extract 0 ((ji5) : Int).toNat))) (fun _ hk => hk.2) (.string (((rd_T33 l0 x4_1).f1).extract 0 ((ji8) : Int).toNat))) (fun _ hk => hk.2) (.string (((rd_T33 l0 x4_1).f2).extract 0 ((ji11) : Int).toNat))) (fun _ hk => hk.1))); (case aS => exact (below_size (by repeat (first | (with_reducible first | exact HB.out | apply below_alloc | apply pw_below_drewN | apply below_drew1 | refine below_set ?_ GE167.out) | exact HB.out)))); (case aL => have := LMc14.out; omega); intro v169 w23 ho hb hg hat; rw [← Ny168.out] at ho; have n0_ := Aside0.mk (blk_grown (g := gb167) (o := .cells #[.string (((rd_T33 l0 x4_1).f0).extract 0 ((ji5) : Int).toNat), .string (((rd_T33 l0 x4_1).f1).extract 0 ((ji8) : Int).toNat), .string (((rd_T33 l0 x4_1).f2).extract 0 ((ji11) : Int).toNat)] 33 (0, 0)) (by (with_reducible repeat (first | refine blk_drewN ?_ _ | refine blk_drew ?_ | refine blk_alloc ?_ _)); refine blk_put (cs := #[.string (((rd_T33 l0 x4_1).f0).extract 0 ((ji5) : Int).toNat), .string (((rd_T33 l0 x4_1).f1).extract 0 ((ji8) : Int).toNat), .string ((rd_T33 l0 x4_1).f2)]) ?_ 2 _ rfl; (with_reducible repeat (first | refine blk_drewN ?_ _ | refine blk_drew ?_ | refine blk_alloc ?_ _)); refine blk_put (cs := #[.string (((rd_T33 l0 x4_1).f0).extract 0 ((ji5) : Int).toNat), .string ((rd_T33 l0 x4_1).f1), .string ((rd_T33 l0 x4_1).f2)]) ?_ 1 _ rfl; (with_reducible repeat (first | refine blk_drewN ?_ _ | refine blk_drew ?_ | refine blk_alloc ?_ _)); refine blk_put (cs := #[.string ((rd_T33 l0 x4_1).f0), .string ((rd_T33 l0 x4_1).f1), .string ((rd_T33 l0 x4_1).f2)]) ?_ 0 _ rfl; (with_reducible repeat (first | refine blk_drewN ?_ _ | refine blk_drew ?_ | refine blk_alloc ?_ _)); exact BK167.out) hg (Kd.R_away HO_3.out (fun _ hk => hk))); have n1_ := Aside0.mk (hb); have n2_ := Aside0.mk (ho); clear BK167; clear HB; clear HO_3; have BK167 := n0_; have HB := n1_; have HO170 := n2_; clear n0_ n1_ n2_; clear ho hb hg hat))
                          go_roundg k1
                          case measure => have := HK1.out; omega
                          case rel => exact ⟨(y168), (wrap64 (x4_1 + 1)), (by first | rfl | (simp; done) | (simp; decide +kernel) | (simp [*]; done)), (by first | exact H' | (subst_vars; exact H')), ⟨by have := HK1.out; omega⟩, ⟨by (with_reducible repeat (first | apply Kd.R_alloc | apply Kd.R_drewN | apply Kd.R_drew)); exact Kd.R_mono HO170.out (fun _ hk => trivial)⟩, ⟨by repeat (first | (with_reducible first | exact HB.out | apply below_alloc | apply pw_below_drewN | apply below_drew1 | refine below_set ?_ GE167.out) | exact HB.out)⟩⟩
                        · rw [if_neg c14] at H
                          exact absurd H (by simp)
                      · rw [if_neg c13] at H
                        exact absurd H (by simp)
                    · rw [if_neg c12] at H
                      exact absurd H (by simp)
                  · rw [if_neg c10] at H
                    exact absurd H (by simp)
                · rw [if_neg c9] at H
                  exact absurd H (by simp)
              · rw [if_neg c7] at H
                exact absurd H (by simp)
            · rw [if_neg c6] at H
              exact absurd H (by simp)
          · rw [if_neg c4] at H
            exact absurd H (by simp)
        · rw [if_neg c3] at H
          have c3b0 : decide (x4_1 < 14) = false := decide_eq_false c3
          clear c3
          obtain rfl := Option.some.inj H
          go_wp2
          go_ret
          exact ⟨_, by first | rfl | (simp [errW_none, errW_some] <;> rfl) | (simp [*, errW_none, errW_some] <;> rfl), by (with_reducible repeat (first | apply Kd.R_alloc | apply Kd.R_drewN | apply Kd.R_drew)); exact HO_3.out, by repeat (first | (with_reducible first | exact HB.out | apply below_alloc | apply pw_below_drewN | apply below_drew1) | exact HB.out)⟩
      · rw [if_neg c2] at H
        have c2b0 : decide (x4_1 < (l0.length : Int)) = false := decide_eq_false c2
        clear c2
        obtain rfl := Option.some.inj H
        go_wp2
        go_ret
        exact ⟨_, by first | rfl | (simp [errW_none, errW_some] <;> rfl) | (simp [*, errW_none, errW_some] <;> rfl), by (with_reducible repeat (first | apply Kd.R_alloc | apply Kd.R_drewN | apply Kd.R_drew)); exact HO_3.out, by repeat (first | (with_reducible first | exact HB.out | apply below_alloc | apply pw_below_drewN | apply below_drew1) | exact HB.out)⟩

end Go.Proofs.YtolpefnedpgaaaaDoor.X

namespace Go.Proofs.YtolpefnedpgaaaaDoor.X
open Go.RowKit Go.Proofs.YtolpefnedpgaaaaDoorW.PrintWords Go.Proofs.YtolpefnedpgaaaaDoorW.PrintLast Go.Proofs.YtolpefnedpgaaaaDoorW.PrintMore
attribute [local go_sem] max2_int min2_int max_two min_two max_three min_three max_four min_four   -- for this text's walks alone
set_option linter.unusedVariables false
set_option linter.unusedSimpArgs false

theorem eqA33 (d : Nat) (w : World) (x0 y0 : ByteArray) (x1 y1 : ByteArray) (x2 y2 : ByteArray) :
    (Op.equalIn (d + 2) 33 (.agg #[.string x0, .string x1, .string x2]) (.agg #[.string y0, .string y1, .string y2])).run Tryd.prog w = .ok (x0.toList == y0.toList && (x1.toList == y1.toList && (x2.toList == y2.toList))) w := by
  refine eqA_of Tryd.underlying33 (by kernel_rfl) ?_
  refine eqf_cons (by rfl) (by go_simp; rfl) (by go_simp; rfl) (by go_simp) ?_
  refine eqf_cons (by rfl) (by go_simp; rfl) (by go_simp; rfl) (by go_simp) ?_
  exact eqf_last (by rfl) (by go_simp; rfl) (by go_simp; rfl) (by go_simp)
end Go.Proofs.YtolpefnedpgaaaaDoor.X

namespace Go.Proofs.YtolpefnedpgaaaaDoor.X
open Go.RowKit Go.Proofs.YtolpefnedpgaaaaDoorW.PrintWords Go.Proofs.YtolpefnedpgaaaaDoorW.PrintLast Go.Proofs.YtolpefnedpgaaaaDoorW.PrintMore
attribute [local go_sem] max2_int min2_int max_two min_two max_three min_three max_four min_four   -- for this text's walks alone
set_option linter.unusedVariables false
set_option linter.unusedSimpArgs false

attribute [local go_sem high] eqA33
def racewayref24_Same.l0 : Nat → List (S33) → List (S33) → Int → Option (Bool)
  | 0, _, _, _ => none
  | k + 1, x0, x1, x5 => if x5 < (x0.length : Int) then (if 0 ≤ x5 then (if x5 < (x1.length : Int) then (if (!((((rd_T33 x0 x5).f0).toList) == (((rd_T33 x1 x5).f0).toList)) || (!((((rd_T33 x0 x5).f1).toList) == (((rd_T33 x1 x5).f1).toList)) || (!((((rd_T33 x0 x5).f2).toList) == (((rd_T33 x1 x5).f2).toList))))) = true then (some false) else (racewayref24_Same.l0 k x0 x1 (wrap64 (x5 + 1)))) else (none)) else (none)) else (some true)
def racewayref24_Same.f (k : Nat) (l0 : List (S33)) (l1 : List (S33)) : Option (Bool) := if (l0.length : Int) = (l1.length : Int) then (racewayref24_Same.l0 k l0 l1 0) else (some false)
set_option maxHeartbeats 8000000 in
set_option maxRecDepth 100000 in
theorem racewayref24_Same.calls (k : Nat) (A0 : Option Addr) (c0 : Nat) (l0 : List (S33)) (A1 : Option Addr) (c1 : Nat) (l1 : List (S33)) (r : Bool) (w : World) (hr0 : Kd.C k33 w A0 l0.length l0) (hc0 : l0.length ≤ c0) (hr1 : Kd.C k33 w A1 l1.length l1) (hc1 : l1.length ≤ c1) (h : racewayref24_Same.f k l0 l1 = some r) :
    Calls Tryd.prog 18 #[.slice A0 l0.length c0, .slice A1 l1.length c1] w fun e w' => e = .returned (.bool r) ∧ Drawn0 w w' := by
  have hu33 := Tryd.underlying33
  have HR0 := Aside0.mk hr0
  have HC0 := Aside0.mk hc0
  clear hr0 hc0
  have HR1 := Aside0.mk hr1
  have HC1 := Aside0.mk hc1
  clear hr1 hc1
  have H : (if (l0.length : Int) = (l1.length : Int) then (racewayref24_Same.l0 k l0 l1 0) else (some false)) = some r := h
  clear h
  by_cases c3 : (l0.length : Int) = (l1.length : Int)
  · rw [if_pos c3] at H
    have c3b0 : ((l0.length : Int) == (l1.length : Int)) = true := beq_iff_eq.mpr c3
    have c3b1 : ((l0.length : Int) != (l1.length : Int)) = false := bne_eq_false_iff_eq.mpr c3
    have c3b2 : (l0.length == l1.length) = true := by first | simpa using c3 | (simp at c3 ⊢; omega)
    clear c3
    have H' := Aside0.mk H
    clear H
    go_enter Tryd.func18, Tryd.ntmps18
    go_wp2
    repeat (go_quiet (fail); try go_wp2)
    go_loopg [5] k (fun kq v5 w' => ∃ (x5_1 : Int), v5 = .int .i64 x5_1 ∧ Aside0 (racewayref24_Same.l0 kq l0 l1 x5_1 = some r) ∧ Aside0 (kq ≤ k) ∧ Drawn0 w w')
    case atStart => exact ⟨(0), (by first | rfl | (simp; done) | (simp; decide +kernel) | (simp [*]; done)), (by first | exact H' | (subst_vars; exact H')), ⟨Nat.le_refl _⟩, by repeat (first | exact Drawn0.refl _ | apply Drawn0.step)⟩
    case round =>
      clear H'
      try clear c1
      try clear p2
      try clear c3
      try clear c3b0
      try clear c3b1
      try clear c3b2
      obtain ⟨x5_1, rfl, HA, HK1, ⟨m1, rfl⟩⟩ := hrel
      cases gk with
      | zero => exact absurd HA.out (by simp [racewayref24_Same.l0])
      | succ k1 =>
        have H := HA.out
        clear HA
        simp only [racewayref24_Same.l0] at H
        by_cases c4 : x5_1 < (l0.length : Int)
        · rw [if_pos c4] at H
          have c4b0 : decide (x5_1 < (l0.length : Int)) = true := decide_eq_true c4
          clear c4
          by_cases c5 : 0 ≤ x5_1
          · rw [if_pos c5] at H
            have c5b0 : decide (0 ≤ x5_1) = true := decide_eq_true c5
            clear c5
            by_cases c6 : x5_1 < (l1.length : Int)
            · rw [if_pos c6] at H
              have c6b0 : decide (x5_1 < (l1.length : Int)) = true := decide_eq_true c6
              clear c6
              by_cases c7 : (!((((rd_T33 l0 x5_1).f0).toList) == (((rd_T33 l1 x5_1).f0).toList)) || (!((((rd_T33 l0 x5_1).f1).toList) == (((rd_T33 l1 x5_1).f1).toList)) || (!((((rd_T33 l0 x5_1).f2).toList) == (((rd_T33 l1 x5_1).f2).toList))))) = true
              · rw [if_pos c7] at H
                have c7b0 : (!((((rd_T33 l0 x5_1).f0).toList) == (((rd_T33 l1 x5_1).f0).toList)) || (!((((rd_T33 l0 x5_1).f1).toList) == (((rd_T33 l1 x5_1).f1).toList)) || (!((((rd_T33 l0 x5_1).f2).toList) == (((rd_T33 l1 x5_1).f2).toList))))) = true := c7
                clear c7
                obtain rfl := Option.some.inj H
                have p171 : 0 ≤ (x5_1 : Int) := of_decide_eq_true (by first | (with_reducible assumption) | assumption)
                have q171 : x5_1 < (l0.length : Int) := of_decide_eq_true (by first | (with_reducible assumption) | assumption)
                obtain ⟨ad171, e171, hx171_0, hx171_1, hx171_2⟩ := at_T33 HR0.out x5_1 p171 q171
                cases e171
                replace p171 := eq_true p171
                replace q171 := eq_true q171
                have p172 : 0 ≤ (x5_1 : Int) := of_decide_eq_true (by first | (with_reducible assumption) | assumption)
                have q172 : x5_1 < (l1.length : Int) := of_decide_eq_true (by first | (with_reducible assumption) | assumption)
                obtain ⟨ad172, e172, hx172_0, hx172_1, hx172_2⟩ := at_T33 HR1.out x5_1 p172 q172
                cases e172
                replace p172 := eq_true p172
                replace q172 := eq_true q172
                go_wp2
                repeat (go_quiet (fail); try go_wp2)
                go_ret
                exact ⟨by first | rfl | (simp; done) | (simp; decide +kernel) | (simp [*]; done), by repeat (first | exact Drawn0.refl _ | apply Drawn0.step)⟩
              · rw [if_neg c7] at H
                have c7b0 : (!((((rd_T33 l0 x5_1).f0).toList) == (((rd_T33 l1 x5_1).f0).toList)) || (!((((rd_T33 l0 x5_1).f1).toList) == (((rd_T33 l1 x5_1).f1).toList)) || (!((((rd_T33 l0 x5_1).f2).toList) == (((rd_T33 l1 x5_1).f2).toList))))) = false := by simpa using c7
                clear c7
                have H' := Aside0.mk H
                clear H
                have p171 : 0 ≤ (x5_1 : Int) := of_decide_eq_true (by first | (with_reducible assumption) | assumption)
                have q171 : x5_1 < (l0.length : Int) := of_decide_eq_true (by first | (with_reducible assumption) | assumption)
                obtain ⟨ad171, e171, hx171_0, hx171_1, hx171_2⟩ := at_T33 HR0.out x5_1 p171 q171
                cases e171
                replace p171 := eq_true p171
                replace q171 := eq_true q171
                have p172 : 0 ≤ (x5_1 : Int) := of_decide_eq_true (by first | (with_reducible assumption) | assumption)
                have q172 : x5_1 < (l1.length : Int) := of_decide_eq_true (by first | (with_reducible assumption) | assumption)
                obtain ⟨ad172, e172, hx172_0, hx172_1, hx172_2⟩ := at_T33 HR1.out x5_1 p172 q172
                cases e172
                replace p172 := eq_true p172
                replace q172 := eq_true q172
                go_wp2
                repeat (go_quiet (fail); try go_wp2)
                go_roundg k1
                case measure => have := HK1.out; omega
                case rel => exact ⟨(wrap64 (x5_1 + 1)), (by first | rfl | (simp; done) | (simp; decide +kernel) | (simp [*]; done)), (by first | exact H' | (subst_vars; exact H')), ⟨by have := HK1.out; omega⟩, by repeat (first | exact Drawn0.refl _ | apply Drawn0.step)⟩
            · rw [if_neg c6] at H
              exact absurd H (by simp)
          · rw [if_neg c5] at H
            exact absurd H (by simp)
        · rw [if_neg c4] at H
          have c4b0 : decide (x5_1 < (l0.length : Int)) = false := decide_eq_false c4
          clear c4
          obtain rfl := Option.some.inj H
          go_wp2
          repeat (go_quiet (fail); try go_wp2)
          go_ret
          exact ⟨by first | rfl | (simp; done) | (simp; decide +kernel) | (simp [*]; done), by repeat (first | exact Drawn0.refl _ | apply Drawn0.step)⟩
  · rw [if_neg c3] at H
    have c3b0 : ((l0.length : Int) == (l1.length : Int)) = false := beq_eq_false_iff_ne.mpr c3
    have c3b1 : ((l0.length : Int) != (l1.length : Int)) = true := bne_iff_ne.mpr c3
    have c3b2 : (l0.length == l1.length) = false := by first | simpa using c3 | (simp at c3 ⊢; omega)
    obtain rfl := Option.some.inj H
    go_enter Tryd.func18, Tryd.ntmps18
    go_wp2
    repeat (go_quiet (fail); try go_wp2)
    go_ret
    exact ⟨by first | rfl | (simp; done) | (simp; decide +kernel) | (simp [*]; done), by repeat (first | exact Drawn0.refl _ | apply Drawn0.step)⟩

mutual
def racewayref24_Select.l0 : Nat → List (S33) → List ByteArray → List (S33) → Int → Option ((List (S33)))
  | 0, _, _, _, _ => none
  | k + 1, x0, x1, x5, x6 => if x6 < (x0.length : Int) then (racewayref24_Select.l1 k x0 x1 x5 x6 false 0) else (some x5)
def racewayref24_Select.l1 : Nat → List (S33) → List ByteArray → List (S33) → Int → Bool → Int → Option ((List (S33)))
  | 0, _, _, _, _, _, _ => none
  | k + 1, x0, x1, x5, x6, x7, x8 => if x8 < (x1.length : Int) then (if 0 ≤ x8 then (if (rdOf ByteArray.empty x1 x8).toList = ([65, 108, 108] : List UInt8) then (racewayref24_Select.j2 k x0 x1 x5 x6 x7 x8 (rdOf ByteArray.empty x1 x8) (wrap64 (((rdOf ByteArray.empty x1 x8).size : Int) - 2)) true) else (if 0 ≤ x6 then (if x6 < (x0.length : Int) then (racewayref24_Select.j2 k x0 x1 x5 x6 x7 x8 (rdOf ByteArray.empty x1 x8) (wrap64 (((rdOf ByteArray.empty x1 x8).size : Int) - 2)) ((rdOf ByteArray.empty x1 x8).toList == ((rd_T33 x0 x6).f0).toList)) else (none)) else (none))) else (none)) else (if x7 = true then (if 0 ≤ x6 then (if x6 < (x0.length : Int) then (if x5.length < 2932031007402 then (racewayref24_Select.l0 k x0 x1 (x5 ++ [(⟨(rd_T33 x0 x6).f0, (rd_T33 x0 x6).f1, (rd_T33 x0 x6).f2⟩ : S33)]) (wrap64 (x6 + 1))) else (none)) else (none)) else (none)) else (racewayref24_Select.l0 k x0 x1 x5 (wrap64 (x6 + 1))))
def racewayref24_Select.j2 : Nat → List (S33) → List ByteArray → List (S33) → Int → Bool → Int → ByteArray → Int → Bool → Option ((List (S33)))
  | 0, _, _, _, _, _, _, _, _, _ => none
  | k + 1, x0, x1, x5, x6, x7, x8, x9, x10, x40 => if x40 = true then (if x10 ≥ 0 then (if 0 ≤ x10 then (if x10 ≤ (x9.size : Int) then (if (x9.extract (x10 : Int).toNat x9.size).toList = ([46, 42] : List UInt8) then (if 0 ≤ x6 then (if x6 < (x0.length : Int) then (if (((rd_T33 x0 x6).f0).size : Int) ≥ x10 then (if x10 ≤ (((rd_T33 x0 x6).f0).size : Int) then (if (((rd_T33 x0 x6).f0).extract 0 (x10 : Int).toNat).toList = (x9.extract 0 (x10 : Int).toNat).toList then (racewayref24_Select.l1 k x0 x1 x5 x6 true (wrap64 (x8 + 1))) else (racewayref24_Select.l1 k x0 x1 x5 x6 true (wrap64 (x8 + 1)))) else (none)) else (racewayref24_Select.l1 k x0 x1 x5 x6 true (wrap64 (x8 + 1)))) else (none)) else (none)) else (racewayref24_Select.l1 k x0 x1 x5 x6 true (wrap64 (x8 + 1)))) else (none)) else (none)) else (racewayref24_Select.l1 k x0 x1 x5 x6 true (wrap64 (x8 + 1)))) else (if x10 ≥ 0 then (if 0 ≤ x10 then (if x10 ≤ (x9.size : Int) then (if (x9.extract (x10 : Int).toNat x9.size).toList = ([46, 42] : List UInt8) then (if 0 ≤ x6 then (if x6 < (x0.length : Int) then (if (((rd_T33 x0 x6).f0).size : Int) ≥ x10 then (if x10 ≤ (((rd_T33 x0 x6).f0).size : Int) then (if (((rd_T33 x0 x6).f0).extract 0 (x10 : Int).toNat).toList = (x9.extract 0 (x10 : Int).toNat).toList then (racewayref24_Select.l1 k x0 x1 x5 x6 true (wrap64 (x8 + 1))) else (racewayref24_Select.l1 k x0 x1 x5 x6 x7 (wrap64 (x8 + 1)))) else (none)) else (racewayref24_Select.l1 k x0 x1 x5 x6 x7 (wrap64 (x8 + 1)))) else (none)) else (none)) else (racewayref24_Select.l1 k x0 x1 x5 x6 x7 (wrap64 (x8 + 1)))) else (none)) else (none)) else (racewayref24_Select.l1 k x0 x1 x5 x6 x7 (wrap64 (x8 + 1))))
end
def racewayref24_Select.f (k : Nat) (l0 : List (S33)) (l1 : List ByteArray) : Option ((List (S33))) := racewayref24_Select.l0 k l0 l1 ([] : List (S33)) 0
set_option maxHeartbeats 8000000 in
set_option maxRecDepth 100000 in
theorem racewayref24_Select.calls (k : Nat) (A0 : Option Addr) (c0 : Nat) (l0 : List (S33)) (A1 : Option Addr) (c1 : Nat) (l1 : List ByteArray) (r : List (S33)) (w : World) (hr0 : Kd.C k33 w A0 l0.length l0) (hc0 : l0.length ≤ c0) (hr1 : Kd.C Kd.string w A1 l1.length l1) (hc1 : l1.length ≤ c1) (h : racewayref24_Select.f k l0 l1 = some r) :
    Calls Tryd.prog 25 #[.slice A0 l0.length c0, .slice A1 l1.length c1] w fun e w' => ∃ v0_ : Value, e = .returned (v0_) ∧ Kd.R k33 33 w' w.heap.size (fun _ => True) v0_ r ∧ Below w.heap.size w w' := by
  have hu33 := Tryd.underlying33
  have HR0 := Aside0.mk hr0
  have HC0 := Aside0.mk hc0
  clear hr0 hc0
  have HR1 := Aside0.mk hr1
  have HC1 := Aside0.mk hc1
  clear hr1 hc1
  have HB := Aside0.mk (Below.refl w.heap.size w)
  have H : (racewayref24_Select.l0 k l0 l1 ([] : List (S33)) 0) = some r := h
  clear h
  have H' := Aside0.mk H
  clear H
  go_enter Tryd.func25, Tryd.ntmps25
  go_wp2
  repeat (go_quiet (fail); try go_wp2)
  go_loopg [5, 6] k (fun kq v5 v6 w' => ∃ (x5_1 : List (S33)) (x6_1 : Int), v6 = .int .i64 x6_1 ∧ Aside0 (racewayref24_Select.l0 kq l0 l1 x5_1 x6_1 = some r) ∧ Aside0 (kq ≤ k) ∧ Aside0 (Kd.R k33 33 w' w.heap.size (fun _ => True) v5 x5_1) ∧ Aside0 (Below w.heap.size w w'))
  case atStart => exact ⟨(([] : List (S33))), (0), (by first | rfl | (simp; done) | (simp; decide +kernel) | (simp [*]; done)), (by first | exact H' | (subst_vars; exact H')), ⟨Nat.le_refl _⟩, ⟨by first | exact Kd.R_nil _ _ _ _ _ | exact Kd.N_nil _ _ _ _ _ | exact Kd.V_nil _ _ _ _ _ | exact Kd.Q_nil _ _ _ _ _ | exact Kd.S_nil _ _ _ _ _⟩, ⟨by repeat (first | (with_reducible first | exact HB.out | apply below_alloc | apply pw_below_drewN | apply below_drew1) | exact HB.out)⟩⟩
  case round =>
    clear H'
    try clear c1
    try clear c2
    try clear p2
    obtain ⟨x5_1, x6_1, rfl, HA, HK1, HO_5, HB⟩ := hrel
    cases gk with
    | zero => exact absurd HA.out (by simp [racewayref24_Select.l0])
    | succ k1 =>
      have H := HA.out
      clear HA
      simp only [racewayref24_Select.l0] at H
      by_cases c3 : x6_1 < (l0.length : Int)
      · rw [if_pos c3] at H
        have c3b0 : decide (x6_1 < (l0.length : Int)) = true := decide_eq_true c3
        clear c3
        have H' := Aside0.mk H
        clear H
        go_wp2
        repeat (go_quiet (fail); try go_wp2)
        go_loopg [7, 8] k1 (fun kq v7 v8 w' => ∃ (x7_2 : Bool) (x8_2 : Int), v7 = .bool x7_2 ∧ v8 = .int .i64 x8_2 ∧ Aside0 (racewayref24_Select.l1 kq l0 l1 x5_1 x6_1 x7_2 x8_2 = some r) ∧ Aside0 (kq ≤ k1) ∧ Aside0 (Kd.R k33 33 w' w.heap.size (fun _ => True) u5 x5_1) ∧ Aside0 (Below w.heap.size w w'))
        case atStart => exact ⟨(false), (0), (by first | rfl | (simp; done) | (simp; decide +kernel) | (simp [*]; done)), (by first | rfl | (simp; done) | (simp; decide +kernel) | (simp [*]; done)), (by first | exact H' | (subst_vars; exact H')), ⟨Nat.le_refl _⟩, ⟨by (with_reducible repeat (first | apply Kd.R_alloc | apply Kd.R_drewN | apply Kd.R_drew)); exact HO_5.out⟩, ⟨by repeat (first | (with_reducible first | exact HB.out | apply below_alloc | apply pw_below_drewN | apply below_drew1) | exact HB.out)⟩⟩
        case round =>
          clear H'
          try clear c1
          try clear c2
          try clear p2
          try clear c3
          try clear c3b0
          try clear p2
          obtain ⟨x7_2, x8_2, rfl, rfl, HA, HK2, HO_5, HB⟩ := hrel
          cases gk with
          | zero => exact absurd HA.out (by simp [racewayref24_Select.l1])
          | succ k2 =>
            have H := HA.out
            clear HA
            simp only [racewayref24_Select.l1] at H
            by_cases c4 : x8_2 < (l1.length : Int)
            · rw [if_pos c4] at H
              have c4b0 : decide (x8_2 < (l1.length : Int)) = true := decide_eq_true c4
              clear c4
              by_cases c5 : 0 ≤ x8_2
              · rw [if_pos c5] at H
                have c5b0 : decide (0 ≤ x8_2) = true := decide_eq_true c5
                clear c5
                have HC6 := Aside0.mk H
                clear H
                have p177 : 0 ≤ (x8_2 : Int) := of_decide_eq_true (by first | (with_reducible assumption) | assumption)
                have q177 : x8_2 < (l1.length : Int) := of_decide_eq_true (by first | (with_reducible assumption) | assumption)
                obtain ⟨ad177, e177, hx177_0⟩ := Kd.at_string HR1.out x8_2 p177 q177
                cases e177
                replace hx177_0 := (HB.out.cell (World.block_lt_of_cell? w _ hx177_0)).trans hx177_0
                replace p177 := eq_true p177
                replace q177 := eq_true q177
                go_upto_region 11 with (fail)
                repeat (go_quiet (fail); go_upto_region 11 with (fail))
                go_cut [40] (fun v40 wc => ∃ (kq : Nat) (x40_5 : Bool), v40 = .bool x40_5 ∧ Aside0 (racewayref24_Select.j2 kq l0 l1 x5_1 x6_1 x7_2 x8_2 (rdOf ByteArray.empty l1 x8_2) (wrap64 (((rdOf ByteArray.empty l1 x8_2).size : Int) - 2)) x40_5 = some r) ∧ Aside0 (kq ≤ k2) ∧ Aside0 (Kd.R k33 33 wc w.heap.size (fun _ => True) u5 x5_1) ∧ Aside0 (Below w.heap.size w wc))
                case first =>
                  have H := HC6.out
                  clear HC6
                  by_cases c7 : (rdOf ByteArray.empty l1 x8_2).toList = ([65, 108, 108] : List UInt8)
                  · rw [if_pos c7] at H
                    have c7b0 : ((rdOf ByteArray.empty l1 x8_2).toList == ([65, 108, 108] : List UInt8)) = true := beq_iff_eq.mpr c7
                    have c7b1 : ((rdOf ByteArray.empty l1 x8_2).toList != ([65, 108, 108] : List UInt8)) = false := bne_eq_false_iff_eq.mpr c7
                    clear c7
                    (first | rw [c7b0] | (simp only [i64_w, i32_w]; rw [c7b0]) | skip)
                    have H' := Aside0.mk H
                    clear H
                    go_wp2
                    repeat (go_quiet (fail); try go_wp2)
                    go_meet
                    case rel => exact ⟨_, (true), (by first | rfl | (simp; done) | (simp; decide +kernel) | (simp [*]; done)), (by first | exact H' | (subst_vars; exact H')), ⟨by have := HK1.out; have := HK2.out; first | omega | exact Nat.le_refl _⟩, ⟨by (with_reducible repeat (first | apply Kd.R_alloc | apply Kd.R_drewN | apply Kd.R_drew)); exact HO_5.out⟩, ⟨by repeat (first | (with_reducible first | exact HB.out | apply below_alloc | apply pw_below_drewN | apply below_drew1) | exact HB.out)⟩⟩
                  · rw [if_neg c7] at H
                    have c7b0 : ((rdOf ByteArray.empty l1 x8_2).toList == ([65, 108, 108] : List UInt8)) = false := beq_eq_false_iff_ne.mpr c7
                    have c7b1 : ((rdOf ByteArray.empty l1 x8_2).toList != ([65, 108, 108] : List UInt8)) = true := bne_iff_ne.mpr c7
                    (first | rw [c7b0] | (simp only [i64_w, i32_w]; rw [c7b0]) | skip)
                    by_cases c8 : 0 ≤ x6_1
                    · rw [if_pos c8] at H
                      have c8b0 : decide (0 ≤ x6_1) = true := decide_eq_true c8
                      clear c8
                      by_cases c9 : x6_1 < (l0.length : Int)
                      · rw [if_pos c9] at H
                        have c9b0 : decide (x6_1 < (l0.length : Int)) = true := decide_eq_true c9
                        clear c9
                        have H' := Aside0.mk H
                        clear H
                        have p178 : 0 ≤ (x6_1 : Int) := of_decide_eq_true (by first | (with_reducible assumption) | assumption)
                        have q178 : x6_1 < (l0.length : Int) := of_decide_eq_true (by first | (with_reducible assumption) | assumption)
                        obtain ⟨ad178, e178, hx178_0, hx178_1, hx178_2⟩ := at_T33 HR0.out x6_1 p178 q178
                        cases e178
                        replace hx178_0 := (HB.out.cell (World.block_lt_of_cell? w _ hx178_0)).trans hx178_0
                        replace hx178_1 := (HB.out.cell (World.block_lt_of_cell? w _ hx178_1)).trans hx178_1
                        replace hx178_2 := (HB.out.cell (World.block_lt_of_cell? w _ hx178_2)).trans hx178_2
                        replace p178 := eq_true p178
                        replace q178 := eq_true q178
                        go_wp2
                        repeat (go_quiet (fail); try go_wp2)
                        go_meet
                        case rel => exact ⟨_, (((rdOf ByteArray.empty l1 x8_2).toList == ((rd_T33 l0 x6_1).f0).toList)), (by first | rfl | (simp; done) | (simp; decide +kernel) | (simp [*]; done)), (by first | exact H' | (subst_vars; exact H')), ⟨by have := HK1.out; have := HK2.out; first | omega | exact Nat.le_refl _⟩, ⟨by (with_reducible repeat (first | apply Kd.R_alloc | apply Kd.R_drewN | apply Kd.R_drew)); exact HO_5.out⟩, ⟨by repeat (first | (with_reducible first | exact HB.out | apply below_alloc | apply pw_below_drewN | apply below_drew1) | exact HB.out)⟩⟩
                      · rw [if_neg c9] at H
                        exact absurd H (by simp)
                    · rw [if_neg c8] at H
                      exact absurd H (by simp)
                case rest =>
                  clear HC6
                  try clear c1
                  try clear p1
                  try clear q1
                  try clear hx1
                  try clear c2
                  try clear p2
                  try clear c3
                  try clear c3b0
                  try clear c4
                  try clear c4b0
                  try clear c5
                  try clear c5b0
                  try clear p6
                  try clear c7
                  try clear c7b0
                  try clear c7b1
                  try clear c8
                  try clear c8b0
                  try clear c9
                  try clear c9b0
                  try clear hx177_0
                  try clear hx178_0
                  try clear hx178_1
                  try clear hx178_2
                  try clear p177
                  try clear p178
                  try clear p2
                  try clear q177
                  try clear q178
                  obtain ⟨kq, x40_5, rfl, HA, HJ5, HO_5, HB⟩ := hcut
                  cases kq with
                  | zero => exact absurd HA.out (by simp [racewayref24_Select.j2])
                  | succ kj5 =>
                    have H := HA.out
                    clear HA
                    simp only [racewayref24_Select.j2] at H
                    by_cases c10 : x40_5 = true
                    · subst c10
                      have H1 : (if (wrap64 (((rdOf ByteArray.empty l1 x8_2).size : Int) - 2)) ≥ 0 then (if 0 ≤ (wrap64 (((rdOf ByteArray.empty l1 x8_2).size : Int) - 2)) then (if (wrap64 (((rdOf ByteArray.empty l1 x8_2).size : Int) - 2)) ≤ ((rdOf ByteArray.empty l1 x8_2).size : Int) then (if ((rdOf ByteArray.empty l1 x8_2).extract ((wrap64 (((rdOf ByteArray.empty l1 x8_2).size : Int) - 2)) : Int).toNat (rdOf ByteArray.empty l1 x8_2).size).toList = ([46, 42] : List UInt8) then (if 0 ≤ x6_1 then (if x6_1 < (l0.length : Int) then (if (((rd_T33 l0 x6_1).f0).size : Int) ≥ (wrap64 (((rdOf ByteArray.empty l1 x8_2).size : Int) - 2)) then (if (wrap64 (((rdOf ByteArray.empty l1 x8_2).size : Int) - 2)) ≤ (((rd_T33 l0 x6_1).f0).size : Int) then (if (((rd_T33 l0 x6_1).f0).extract 0 ((wrap64 (((rdOf ByteArray.empty l1 x8_2).size : Int) - 2)) : Int).toNat).toList = ((rdOf ByteArray.empty l1 x8_2).extract 0 ((wrap64 (((rdOf ByteArray.empty l1 x8_2).size : Int) - 2)) : Int).toNat).toList then (racewayref24_Select.l1 kj5 l0 l1 x5_1 x6_1 true (wrap64 (x8_2 + 1))) else (racewayref24_Select.l1 kj5 l0 l1 x5_1 x6_1 true (wrap64 (x8_2 + 1)))) else (none)) else (racewayref24_Select.l1 kj5 l0 l1 x5_1 x6_1 true (wrap64 (x8_2 + 1)))) else (none)) else (none)) else (racewayref24_Select.l1 kj5 l0 l1 x5_1 x6_1 true (wrap64 (x8_2 + 1)))) else (none)) else (none)) else (racewayref24_Select.l1 kj5 l0 l1 x5_1 x6_1 true (wrap64 (x8_2 + 1)))) = some r := by rw [if_pos rfl] at H; exact H
                      clear H
                      have H := H1
                      clear H1
                      by_cases c11 : (wrap64 (((rdOf ByteArray.empty l1 x8_2).size : Int) - 2)) ≥ 0
                      · rw [if_pos c11] at H
                        have c11b0 : decide (0 ≤ (wrap64 (((rdOf ByteArray.empty l1 x8_2).size : Int) - 2))) = true := decide_eq_true c11
                        clear c11
                        obtain ⟨ji12, hji12⟩ : ∃ j_ : Int, (wrap64 (((rdOf ByteArray.empty l1 x8_2).size : Int) - 2)) = j_ := ⟨_, rfl⟩
                        replace H : (if 0 ≤ (ji12) then (if (ji12) ≤ ((rdOf ByteArray.empty l1 x8_2).size : Int) then (if ((rdOf ByteArray.empty l1 x8_2).extract ((ji12) : Int).toNat (rdOf ByteArray.empty l1 x8_2).size).toList = ([46, 42] : List UInt8) then (if 0 ≤ x6_1 then (if x6_1 < (l0.length : Int) then (if (((rd_T33 l0 x6_1).f0).size : Int) ≥ (ji12) then (if (ji12) ≤ (((rd_T33 l0 x6_1).f0).size : Int) then (if (((rd_T33 l0 x6_1).f0).extract 0 ((ji12) : Int).toNat).toList = ((rdOf ByteArray.empty l1 x8_2).extract 0 ((ji12) : Int).toNat).toList then (racewayref24_Select.l1 kj5 l0 l1 x5_1 x6_1 true (wrap64 (x8_2 + 1))) else (racewayref24_Select.l1 kj5 l0 l1 x5_1 x6_1 true (wrap64 (x8_2 + 1)))) else (none)) else (racewayref24_Select.l1 kj5 l0 l1 x5_1 x6_1 true (wrap64 (x8_2 + 1)))) else (none)) else (none)) else (racewayref24_Select.l1 kj5 l0 l1 x5_1 x6_1 true (wrap64 (x8_2 + 1)))) else (none)) else (none)) = some r := by first | (rw [hji12] at H; exact H) | (simp only [hji12] at H ⊢; exact H)
                        (try rw [hji12] at c11b0)
                        have hji12w : (IntKind.i64.wrap (((rdOf ByteArray.empty l1 x8_2).size : Int) - 2)) = ji12 := (i64_w _).trans hji12
                        by_cases c13 : 0 ≤ (ji12)
                        · rw [if_pos c13] at H
                          have c13b0 := eq_true c13
                          have c13b1 : decide (0 ≤ (ji12)) = true := decide_eq_true c13
                          clear c13
                          by_cases c14 : (ji12) ≤ ((rdOf ByteArray.empty l1 x8_2).size : Int)
                          · rw [if_pos c14] at H
                            have c14b0 := eq_true c14
                            have c14b1 : decide ((ji12) ≤ ((rdOf ByteArray.empty l1 x8_2).size : Int)) = true := decide_eq_true c14
                            clear c14
                            by_cases c15 : ((rdOf ByteArray.empty l1 x8_2).extract ((ji12) : Int).toNat (rdOf ByteArray.empty l1 x8_2).size).toList = ([46, 42] : List UInt8)
                            · rw [if_pos c15] at H
                              have c15b0 : (((rdOf ByteArray.empty l1 x8_2).extract ((ji12) : Int).toNat (rdOf ByteArray.empty l1 x8_2).size).toList == ([46, 42] : List UInt8)) = true := beq_iff_eq.mpr c15
                              have c15b1 : (((rdOf ByteArray.empty l1 x8_2).extract ((ji12) : Int).toNat (rdOf ByteArray.empty l1 x8_2).size).toList != ([46, 42] : List UInt8)) = false := bne_eq_false_iff_eq.mpr c15
                              clear c15
                              by_cases c16 : 0 ≤ x6_1
                              · rw [if_pos c16] at H
                                have c16b0 : decide (0 ≤ x6_1) = true := decide_eq_true c16
                                clear c16
                                by_cases c17 : x6_1 < (l0.length : Int)
                                · rw [if_pos c17] at H
                                  have c17b0 : decide (x6_1 < (l0.length : Int)) = true := decide_eq_true c17
                                  clear c17
                                  by_cases c18 : (((rd_T33 l0 x6_1).f0).size : Int) ≥ (ji12)
                                  · rw [if_pos c18] at H
                                    have c18b0 : decide ((ji12) ≤ (((rd_T33 l0 x6_1).f0).size : Int)) = true := decide_eq_true c18
                                    clear c18
                                    have c19b0 := eq_true (of_decide_eq_true (by first | (with_reducible assumption) | assumption) : 0 ≤ (ji12))
                                    by_cases c20 : (ji12) ≤ (((rd_T33 l0 x6_1).f0).size : Int)
                                    · rw [if_pos c20] at H
                                      have c20b0 := eq_true c20
                                      have c20b1 : decide ((ji12) ≤ (((rd_T33 l0 x6_1).f0).size : Int)) = true := decide_eq_true c20
                                      clear c20
                                      have c21b0 := eq_true (of_decide_eq_true (by first | (with_reducible assumption) | assumption) : 0 ≤ (ji12))
                                      have c22b0 := eq_true (of_decide_eq_true (by first | (with_reducible assumption) | assumption) : (ji12) ≤ ((rdOf ByteArray.empty l1 x8_2).size : Int))
                                      by_cases c23 : (((rd_T33 l0 x6_1).f0).extract 0 ((ji12) : Int).toNat).toList = ((rdOf ByteArray.empty l1 x8_2).extract 0 ((ji12) : Int).toNat).toList
                                      · rw [if_pos c23] at H
                                        have c23b0 : ((((rd_T33 l0 x6_1).f0).extract 0 ((ji12) : Int).toNat).toList == ((rdOf ByteArray.empty l1 x8_2).extract 0 ((ji12) : Int).toNat).toList) = true := beq_iff_eq.mpr c23
                                        have c23b1 : ((((rd_T33 l0 x6_1).f0).extract 0 ((ji12) : Int).toNat).toList != ((rdOf ByteArray.empty l1 x8_2).extract 0 ((ji12) : Int).toNat).toList) = false := bne_eq_false_iff_eq.mpr c23
                                        clear c23
                                        have H' := Aside0.mk H
                                        clear H
                                        have p179 : 0 ≤ (x6_1 : Int) := of_decide_eq_true (by first | (with_reducible assumption) | assumption)
                                        have q179 : x6_1 < (l0.length : Int) := of_decide_eq_true (by first | (with_reducible assumption) | assumption)
                                        obtain ⟨ad179, e179, hx179_0, hx179_1, hx179_2⟩ := at_T33 HR0.out x6_1 p179 q179
                                        cases e179
                                        replace hx179_0 := (HB.out.cell (World.block_lt_of_cell? w _ hx179_0)).trans hx179_0
                                        replace hx179_1 := (HB.out.cell (World.block_lt_of_cell? w _ hx179_1)).trans hx179_1
                                        replace hx179_2 := (HB.out.cell (World.block_lt_of_cell? w _ hx179_2)).trans hx179_2
                                        replace p179 := eq_true p179
                                        replace q179 := eq_true q179
                                        have p180 : 0 ≤ (x6_1 : Int) := of_decide_eq_true (by first | (with_reducible assumption) | assumption)
                                        have q180 : x6_1 < (l0.length : Int) := of_decide_eq_true (by first | (with_reducible assumption) | assumption)
                                        obtain ⟨ad180, e180, hx180_0, hx180_1, hx180_2⟩ := at_T33 HR0.out x6_1 p180 q180
                                        obtain rfl : ad179 = ad180 := (by injection e180)
                                        replace hx180_0 := (HB.out.cell (World.block_lt_of_cell? w _ hx180_0)).trans hx180_0
                                        replace hx180_1 := (HB.out.cell (World.block_lt_of_cell? w _ hx180_1)).trans hx180_1
                                        replace hx180_2 := (HB.out.cell (World.block_lt_of_cell? w _ hx180_2)).trans hx180_2
                                        replace p180 := eq_true p180
                                        replace q180 := eq_true q180
                                        go_wp2
                                        repeat (go_quiet (fail); try go_wp2)
                                        go_roundg kj5
                                        case measure => have := HK1.out; have := HK2.out; have := HJ5.out; omega
                                        case rel => exact ⟨(true), (wrap64 (x8_2 + 1)), (by first | rfl | (simp; done) | (simp; decide +kernel) | (simp [*]; done)), (by first | rfl | (simp; done) | (simp; decide +kernel) | (simp [*]; done)), (by first | exact H' | (subst_vars; exact H')), ⟨by have := HK1.out; have := HK2.out; have := HJ5.out; omega⟩, ⟨by (with_reducible repeat (first | apply Kd.R_alloc | apply Kd.R_drewN | apply Kd.R_drew)); exact HO_5.out⟩, ⟨by repeat (first | (with_reducible first | exact HB.out | apply below_alloc | apply pw_below_drewN | apply below_drew1) | exact HB.out)⟩⟩
                                      · rw [if_neg c23] at H
                                        have c23b0 : ((((rd_T33 l0 x6_1).f0).extract 0 ((ji12) : Int).toNat).toList == ((rdOf ByteArray.empty l1 x8_2).extract 0 ((ji12) : Int).toNat).toList) = false := beq_eq_false_iff_ne.mpr c23
                                        have c23b1 : ((((rd_T33 l0 x6_1).f0).extract 0 ((ji12) : Int).toNat).toList != ((rdOf ByteArray.empty l1 x8_2).extract 0 ((ji12) : Int).toNat).toList) = true := bne_iff_ne.mpr c23
                                        have H' := Aside0.mk H
                                        clear H
                                        have p179 : 0 ≤ (x6_1 : Int) := of_decide_eq_true (by first | (with_reducible assumption) | assumption)
                                        have q179 : x6_1 < (l0.length : Int) := of_decide_eq_true (by first | (with_reducible assumption) | assumption)
                                        obtain ⟨ad179, e179, hx179_0, hx179_1, hx179_2⟩ := at_T33 HR0.out x6_1 p179 q179
                                        cases e179
                                        replace hx179_0 := (HB.out.cell (World.block_lt_of_cell? w _ hx179_0)).trans hx179_0
                                        replace hx179_1 := (HB.out.cell (World.block_lt_of_cell? w _ hx179_1)).trans hx179_1
                                        replace hx179_2 := (HB.out.cell (World.block_lt_of_cell? w _ hx179_2)).trans hx179_2
                                        replace p179 := eq_true p179
                                        replace q179 := eq_true q179
                                        have p180 : 0 ≤ (x6_1 : Int) := of_decide_eq_true (by first | (with_reducible assumption) | assumption)
                                        have q180 : x6_1 < (l0.length : Int) := of_decide_eq_true (by first | (with_reducible assumption) | assumption)
                                        obtain ⟨ad180, e180, hx180_0, hx180_1, hx180_2⟩ := at_T33 HR0.out x6_1 p180 q180
                                        obtain rfl : ad179 = ad180 := (by injection e180)
                                        replace hx180_0 := (HB.out.cell (World.block_lt_of_cell? w _ hx180_0)).trans hx180_0
                                        replace hx180_1 := (HB.out.cell (World.block_lt_of_cell? w _ hx180_1)).trans hx180_1
                                        replace hx180_2 := (HB.out.cell (World.block_lt_of_cell? w _ hx180_2)).trans hx180_2
                                        replace p180 := eq_true p180
                                        replace q180 := eq_true q180
                                        go_wp2
                                        repeat (go_quiet (fail); try go_wp2)
                                        go_roundg kj5
                                        case measure => have := HK1.out; have := HK2.out; have := HJ5.out; omega
                                        case rel => exact ⟨(true), (wrap64 (x8_2 + 1)), (by first | rfl | (simp; done) | (simp; decide +kernel) | (simp [*]; done)), (by first | rfl | (simp; done) | (simp; decide +kernel) | (simp [*]; done)), (by first | exact H' | (subst_vars; exact H')), ⟨by have := HK1.out; have := HK2.out; have := HJ5.out; omega⟩, ⟨by (with_reducible repeat (first | apply Kd.R_alloc | apply Kd.R_drewN | apply Kd.R_drew)); exact HO_5.out⟩, ⟨by repeat (first | (with_reducible first | exact HB.out | apply below_alloc | apply pw_below_drewN | apply below_drew1) | exact HB.out)⟩⟩
                                    · rw [if_neg c20] at H
                                      exact absurd H (by simp)
                                  · rw [if_neg c18] at H
                                    have c18b0 : decide ((ji12) ≤ (((rd_T33 l0 x6_1).f0).size : Int)) = false := decide_eq_false c18
                                    clear c18
                                    have H' := Aside0.mk H
                                    clear H
                                    have p179 : 0 ≤ (x6_1 : Int) := of_decide_eq_true (by first | (with_reducible assumption) | assumption)
                                    have q179 : x6_1 < (l0.length : Int) := of_decide_eq_true (by first | (with_reducible assumption) | assumption)
                                    obtain ⟨ad179, e179, hx179_0, hx179_1, hx179_2⟩ := at_T33 HR0.out x6_1 p179 q179
                                    cases e179
                                    replace hx179_0 := (HB.out.cell (World.block_lt_of_cell? w _ hx179_0)).trans hx179_0
                                    replace hx179_1 := (HB.out.cell (World.block_lt_of_cell? w _ hx179_1)).trans hx179_1
                                    replace hx179_2 := (HB.out.cell (World.block_lt_of_cell? w _ hx179_2)).trans hx179_2
                                    replace p179 := eq_true p179
                                    replace q179 := eq_true q179
                                    go_wp2
                                    repeat (go_quiet (fail); try go_wp2)
                                    go_roundg kj5
                                    case measure => have := HK1.out; have := HK2.out; have := HJ5.out; omega
                                    case rel => exact ⟨(true), (wrap64 (x8_2 + 1)), (by first | rfl | (simp; done) | (simp; decide +kernel) | (simp [*]; done)), (by first | rfl | (simp; done) | (simp; decide +kernel) | (simp [*]; done)), (by first | exact H' | (subst_vars; exact H')), ⟨by have := HK1.out; have := HK2.out; have := HJ5.out; omega⟩, ⟨by (with_reducible repeat (first | apply Kd.R_alloc | apply Kd.R_drewN | apply Kd.R_drew)); exact HO_5.out⟩, ⟨by repeat (first | (with_reducible first | exact HB.out | apply below_alloc | apply pw_below_drewN | apply below_drew1) | exact HB.out)⟩⟩
                                · rw [if_neg c17] at H
                                  exact absurd H (by simp)
                              · rw [if_neg c16] at H
                                exact absurd H (by simp)
                            · rw [if_neg c15] at H
                              have c15b0 : (((rdOf ByteArray.empty l1 x8_2).extract ((ji12) : Int).toNat (rdOf ByteArray.empty l1 x8_2).size).toList == ([46, 42] : List UInt8)) = false := beq_eq_false_iff_ne.mpr c15
                              have c15b1 : (((rdOf ByteArray.empty l1 x8_2).extract ((ji12) : Int).toNat (rdOf ByteArray.empty l1 x8_2).size).toList != ([46, 42] : List UInt8)) = true := bne_iff_ne.mpr c15
                              have H' := Aside0.mk H
                              clear H
                              go_wp2
                              repeat (go_quiet (fail); try go_wp2)
                              go_roundg kj5
                              case measure => have := HK1.out; have := HK2.out; have := HJ5.out; omega
                              case rel => exact ⟨(true), (wrap64 (x8_2 + 1)), (by first | rfl | (simp; done) | (simp; decide +kernel) | (simp [*]; done)), (by first | rfl | (simp; done) | (simp; decide +kernel) | (simp [*]; done)), (by first | exact H' | (subst_vars; exact H')), ⟨by have := HK1.out; have := HK2.out; have := HJ5.out; omega⟩, ⟨by (with_reducible repeat (first | apply Kd.R_alloc | apply Kd.R_drewN | apply Kd.R_drew)); exact HO_5.out⟩, ⟨by repeat (first | (with_reducible first | exact HB.out | apply below_alloc | apply pw_below_drewN | apply below_drew1) | exact HB.out)⟩⟩
                          · rw [if_neg c14] at H
                            exact absurd H (by simp)
                        · rw [if_neg c13] at H
                          exact absurd H (by simp)
                      · rw [if_neg c11] at H
                        have c11b0 : decide (0 ≤ (wrap64 (((rdOf ByteArray.empty l1 x8_2).size : Int) - 2))) = false := decide_eq_false c11
                        clear c11
                        have H' := Aside0.mk H
                        clear H
                        go_wp2
                        repeat (go_quiet (fail); try go_wp2)
                        go_roundg kj5
                        case measure => have := HK1.out; have := HK2.out; have := HJ5.out; omega
                        case rel => exact ⟨(true), (wrap64 (x8_2 + 1)), (by first | rfl | (simp; done) | (simp; decide +kernel) | (simp [*]; done)), (by first | rfl | (simp; done) | (simp; decide +kernel) | (simp [*]; done)), (by first | exact H' | (subst_vars; exact H')), ⟨by have := HK1.out; have := HK2.out; have := HJ5.out; omega⟩, ⟨by (with_reducible repeat (first | apply Kd.R_alloc | apply Kd.R_drewN | apply Kd.R_drew)); exact HO_5.out⟩, ⟨by repeat (first | (with_reducible first | exact HB.out | apply below_alloc | apply pw_below_drewN | apply below_drew1) | exact HB.out)⟩⟩
                    · replace c10 := Bool.eq_false_iff.mpr c10
                      subst c10
                      have H1 : (if (wrap64 (((rdOf ByteArray.empty l1 x8_2).size : Int) - 2)) ≥ 0 then (if 0 ≤ (wrap64 (((rdOf ByteArray.empty l1 x8_2).size : Int) - 2)) then (if (wrap64 (((rdOf ByteArray.empty l1 x8_2).size : Int) - 2)) ≤ ((rdOf ByteArray.empty l1 x8_2).size : Int) then (if ((rdOf ByteArray.empty l1 x8_2).extract ((wrap64 (((rdOf ByteArray.empty l1 x8_2).size : Int) - 2)) : Int).toNat (rdOf ByteArray.empty l1 x8_2).size).toList = ([46, 42] : List UInt8) then (if 0 ≤ x6_1 then (if x6_1 < (l0.length : Int) then (if (((rd_T33 l0 x6_1).f0).size : Int) ≥ (wrap64 (((rdOf ByteArray.empty l1 x8_2).size : Int) - 2)) then (if (wrap64 (((rdOf ByteArray.empty l1 x8_2).size : Int) - 2)) ≤ (((rd_T33 l0 x6_1).f0).size : Int) then (if (((rd_T33 l0 x6_1).f0).extract 0 ((wrap64 (((rdOf ByteArray.empty l1 x8_2).size : Int) - 2)) : Int).toNat).toList = ((rdOf ByteArray.empty l1 x8_2).extract 0 ((wrap64 (((rdOf ByteArray.empty l1 x8_2).size : Int) - 2)) : Int).toNat).toList then (racewayref24_Select.l1 kj5 l0 l1 x5_1 x6_1 true (wrap64 (x8_2 + 1))) else (racewayref24_Select.l1 kj5 l0 l1 x5_1 x6_1 x7_2 (wrap64 (x8_2 + 1)))) else (none)) else (racewayref24_Select.l1 kj5 l0 l1 x5_1 x6_1 x7_2 (wrap64 (x8_2 + 1)))) else (none)) else (none)) else (racewayref24_Select.l1 kj5 l0 l1 x5_1 x6_1 x7_2 (wrap64 (x8_2 + 1)))) else (none)) else (none)) else (racewayref24_Select.l1 kj5 l0 l1 x5_1 x6_1 x7_2 (wrap64 (x8_2 + 1)))) = some r := by rw [if_neg (show ¬ (false = true) by decide)] at H; exact H
                      clear H
                      have H := H1
                      clear H1
                      by_cases c24 : (wrap64 (((rdOf ByteArray.empty l1 x8_2).size : Int) - 2)) ≥ 0
                      · rw [if_pos c24] at H
                        have c24b0 : decide (0 ≤ (wrap64 (((rdOf ByteArray.empty l1 x8_2).size : Int) - 2))) = true := decide_eq_true c24
                        clear c24
                        obtain ⟨ji25, hji25⟩ : ∃ j_ : Int, (wrap64 (((rdOf ByteArray.empty l1 x8_2).size : Int) - 2)) = j_ := ⟨_, rfl⟩
                        replace H : (if 0 ≤ (ji25) then (if (ji25) ≤ ((rdOf ByteArray.empty l1 x8_2).size : Int) then (if ((rdOf ByteArray.empty l1 x8_2).extract ((ji25) : Int).toNat (rdOf ByteArray.empty l1 x8_2).size).toList = ([46, 42] : List UInt8) then (if 0 ≤ x6_1 then (if x6_1 < (l0.length : Int) then (if (((rd_T33 l0 x6_1).f0).size : Int) ≥ (ji25) then (if (ji25) ≤ (((rd_T33 l0 x6_1).f0).size : Int) then (if (((rd_T33 l0 x6_1).f0).extract 0 ((ji25) : Int).toNat).toList = ((rdOf ByteArray.empty l1 x8_2).extract 0 ((ji25) : Int).toNat).toList then (racewayref24_Select.l1 kj5 l0 l1 x5_1 x6_1 true (wrap64 (x8_2 + 1))) else (racewayref24_Select.l1 kj5 l0 l1 x5_1 x6_1 x7_2 (wrap64 (x8_2 + 1)))) else (none)) else (racewayref24_Select.l1 kj5 l0 l1 x5_1 x6_1 x7_2 (wrap64 (x8_2 + 1)))) else (none)) else (none)) else (racewayref24_Select.l1 kj5 l0 l1 x5_1 x6_1 x7_2 (wrap64 (x8_2 + 1)))) else (none)) else (none)) = some r := by first | (rw [hji25] at H; exact H) | (simp only [hji25] at H ⊢; exact H)
                        (try rw [hji25] at c24b0)
                        have hji25w : (IntKind.i64.wrap (((rdOf ByteArray.empty l1 x8_2).size : Int) - 2)) = ji25 := (i64_w _).trans hji25
                        by_cases c26 : 0 ≤ (ji25)
                        · rw [if_pos c26] at H
                          have c26b0 := eq_true c26
                          have c26b1 : decide (0 ≤ (ji25)) = true := decide_eq_true c26
                          clear c26
                          by_cases c27 : (ji25) ≤ ((rdOf ByteArray.empty l1 x8_2).size : Int)
                          · rw [if_pos c27] at H
                            have c27b0 := eq_true c27
                            have c27b1 : decide ((ji25) ≤ ((rdOf ByteArray.empty l1 x8_2).size : Int)) = true := decide_eq_true c27
                            clear c27
                            by_cases c28 : ((rdOf ByteArray.empty l1 x8_2).extract ((ji25) : Int).toNat (rdOf ByteArray.empty l1 x8_2).size).toList = ([46, 42] : List UInt8)
                            · rw [if_pos c28] at H
                              have c28b0 : (((rdOf ByteArray.empty l1 x8_2).extract ((ji25) : Int).toNat (rdOf ByteArray.empty l1 x8_2).size).toList == ([46, 42] : List UInt8)) = true := beq_iff_eq.mpr c28
                              have c28b1 : (((rdOf ByteArray.empty l1 x8_2).extract ((ji25) : Int).toNat (rdOf ByteArray.empty l1 x8_2).size).toList != ([46, 42] : List UInt8)) = false := bne_eq_false_iff_eq.mpr c28
                              clear c28
                              by_cases c29 : 0 ≤ x6_1
                              · rw [if_pos c29] at H
                                have c29b0 : decide (0 ≤ x6_1) = true := decide_eq_true c29
                                clear c29
                                by_cases c30 : x6_1 < (l0.length : Int)
                                · rw [if_pos c30] at H
                                  have c30b0 : decide (x6_1 < (l0.length : Int)) = true := decide_eq_true c30
                                  clear c30
                                  by_cases c31 : (((rd_T33 l0 x6_1).f0).size : Int) ≥ (ji25)
                                  · rw [if_pos c31] at H
                                    have c31b0 : decide ((ji25) ≤ (((rd_T33 l0 x6_1).f0).size : Int)) = true := decide_eq_true c31
                                    clear c31
                                    have c32b0 := eq_true (of_decide_eq_true (by first | (with_reducible assumption) | assumption) : 0 ≤ (ji25))
                                    by_cases c33 : (ji25) ≤ (((rd_T33 l0 x6_1).f0).size : Int)
                                    · rw [if_pos c33] at H
                                      have c33b0 := eq_true c33
                                      have c33b1 : decide ((ji25) ≤ (((rd_T33 l0 x6_1).f0).size : Int)) = true := decide_eq_true c33
                                      clear c33
                                      have c34b0 := eq_true (of_decide_eq_true (by first | (with_reducible assumption) | assumption) : 0 ≤ (ji25))
                                      have c35b0 := eq_true (of_decide_eq_true (by first | (with_reducible assumption) | assumption) : (ji25) ≤ ((rdOf ByteArray.empty l1 x8_2).size : Int))
                                      by_cases c36 : (((rd_T33 l0 x6_1).f0).extract 0 ((ji25) : Int).toNat).toList = ((rdOf ByteArray.empty l1 x8_2).extract 0 ((ji25) : Int).toNat).toList
                                      · rw [if_pos c36] at H
                                        have c36b0 : ((((rd_T33 l0 x6_1).f0).extract 0 ((ji25) : Int).toNat).toList == ((rdOf ByteArray.empty l1 x8_2).extract 0 ((ji25) : Int).toNat).toList) = true := beq_iff_eq.mpr c36
                                        have c36b1 : ((((rd_T33 l0 x6_1).f0).extract 0 ((ji25) : Int).toNat).toList != ((rdOf ByteArray.empty l1 x8_2).extract 0 ((ji25) : Int).toNat).toList) = false := bne_eq_false_iff_eq.mpr c36
                                        clear c36
                                        have H' := Aside0.mk H
                                        clear H
                                        have p181 : 0 ≤ (x6_1 : Int) := of_decide_eq_true (by first | (with_reducible assumption) | assumption)
                                        have q181 : x6_1 < (l0.length : Int) := of_decide_eq_true (by first | (with_reducible assumption) | assumption)
                                        obtain ⟨ad181, e181, hx181_0, hx181_1, hx181_2⟩ := at_T33 HR0.out x6_1 p181 q181
                                        cases e181
                                        replace hx181_0 := (HB.out.cell (World.block_lt_of_cell? w _ hx181_0)).trans hx181_0
                                        replace hx181_1 := (HB.out.cell (World.block_lt_of_cell? w _ hx181_1)).trans hx181_1
                                        replace hx181_2 := (HB.out.cell (World.block_lt_of_cell? w _ hx181_2)).trans hx181_2
                                        replace p181 := eq_true p181
                                        replace q181 := eq_true q181
                                        have p182 : 0 ≤ (x6_1 : Int) := of_decide_eq_true (by first | (with_reducible assumption) | assumption)
                                        have q182 : x6_1 < (l0.length : Int) := of_decide_eq_true (by first | (with_reducible assumption) | assumption)
                                        obtain ⟨ad182, e182, hx182_0, hx182_1, hx182_2⟩ := at_T33 HR0.out x6_1 p182 q182
                                        obtain rfl : ad181 = ad182 := (by injection e182)
                                        replace hx182_0 := (HB.out.cell (World.block_lt_of_cell? w _ hx182_0)).trans hx182_0
                                        replace hx182_1 := (HB.out.cell (World.block_lt_of_cell? w _ hx182_1)).trans hx182_1
                                        replace hx182_2 := (HB.out.cell (World.block_lt_of_cell? w _ hx182_2)).trans hx182_2
                                        replace p182 := eq_true p182
                                        replace q182 := eq_true q182
                                        go_wp2
                                        repeat (go_quiet (fail); try go_wp2)
                                        go_roundg kj5
                                        case measure => have := HK1.out; have := HK2.out; have := HJ5.out; omega
                                        case rel => exact ⟨(true), (wrap64 (x8_2 + 1)), (by first | rfl | (simp; done) | (simp; decide +kernel) | (simp [*]; done)), (by first | rfl | (simp; done) | (simp; decide +kernel) | (simp [*]; done)), (by first | exact H' | (subst_vars; exact H')), ⟨by have := HK1.out; have := HK2.out; have := HJ5.out; omega⟩, ⟨by (with_reducible repeat (first | apply Kd.R_alloc | apply Kd.R_drewN | apply Kd.R_drew)); exact HO_5.out⟩, ⟨by repeat (first | (with_reducible first | exact HB.out | apply below_alloc | apply pw_below_drewN | apply below_drew1) | exact HB.out)⟩⟩
                                      · rw [if_neg c36] at H
                                        have c36b0 : ((((rd_T33 l0 x6_1).f0).extract 0 ((ji25) : Int).toNat).toList == ((rdOf ByteArray.empty l1 x8_2).extract 0 ((ji25) : Int).toNat).toList) = false := beq_eq_false_iff_ne.mpr c36
                                        have c36b1 : ((((rd_T33 l0 x6_1).f0).extract 0 ((ji25) : Int).toNat).toList != ((rdOf ByteArray.empty l1 x8_2).extract 0 ((ji25) : Int).toNat).toList) = true := bne_iff_ne.mpr c36
                                        have H' := Aside0.mk H
                                        clear H
                                        have p181 : 0 ≤ (x6_1 : Int) := of_decide_eq_true (by first | (with_reducible assumption) | assumption)
                                        have q181 : x6_1 < (l0.length : Int) := of_decide_eq_true (by first | (with_reducible assumption) | assumption)
                                        obtain ⟨ad181, e181, hx181_0, hx181_1, hx181_2⟩ := at_T33 HR0.out x6_1 p181 q181
                                        cases e181
                                        replace hx181_0 := (HB.out.cell (World.block_lt_of_cell? w _ hx181_0)).trans hx181_0
                                        replace hx181_1 := (HB.out.cell (World.block_lt_of_cell? w _ hx181_1)).trans hx181_1
                                        replace hx181_2 := (HB.out.cell (World.block_lt_of_cell? w _ hx181_2)).trans hx181_2
                                        replace p181 := eq_true p181
                                        replace q181 := eq_true q181
                                        have p182 : 0 ≤ (x6_1 : Int) := of_decide_eq_true (by first | (with_reducible assumption) | assumption)
                                        have q182 : x6_1 < (l0.length : Int) := of_decide_eq_true (by first | (with_reducible assumption) | assumption)
                                        obtain ⟨ad182, e182, hx182_0, hx182_1, hx182_2⟩ := at_T33 HR0.out x6_1 p182 q182
                                        obtain rfl : ad181 = ad182 := (by injection e182)
                                        replace hx182_0 := (HB.out.cell (World.block_lt_of_cell? w _ hx182_0)).trans hx182_0
                                        replace hx182_1 := (HB.out.cell (World.block_lt_of_cell? w _ hx182_1)).trans hx182_1
                                        replace hx182_2 := (HB.out.cell (World.block_lt_of_cell? w _ hx182_2)).trans hx182_2
                                        replace p182 := eq_true p182
                                        replace q182 := eq_true q182
                                        go_wp2
                                        repeat (go_quiet (fail); try go_wp2)
                                        go_roundg kj5
                                        case measure => have := HK1.out; have := HK2.out; have := HJ5.out; omega
                                        case rel => exact ⟨(x7_2), (wrap64 (x8_2 + 1)), (by first | rfl | (simp; done) | (simp; decide +kernel) | (simp [*]; done)), (by first | rfl | (simp; done) | (simp; decide +kernel) | (simp [*]; done)), (by first | exact H' | (subst_vars; exact H')), ⟨by have := HK1.out; have := HK2.out; have := HJ5.out; omega⟩, ⟨by (with_reducible repeat (first | apply Kd.R_alloc | apply Kd.R_drewN | apply Kd.R_drew)); exact HO_5.out⟩, ⟨by repeat (first | (with_reducible first | exact HB.out | apply below_alloc | apply pw_below_drewN | apply below_drew1) | exact HB.out)⟩⟩
                                    · rw [if_neg c33] at H
                                      exact absurd H (by simp)
                                  · rw [if_neg c31] at H
                                    have c31b0 : decide ((ji25) ≤ (((rd_T33 l0 x6_1).f0).size : Int)) = false := decide_eq_false c31
                                    clear c31
                                    have H' := Aside0.mk H
                                    clear H
                                    have p181 : 0 ≤ (x6_1 : Int) := of_decide_eq_true (by first | (with_reducible assumption) | assumption)
                                    have q181 : x6_1 < (l0.length : Int) := of_decide_eq_true (by first | (with_reducible assumption) | assumption)
                                    obtain ⟨ad181, e181, hx181_0, hx181_1, hx181_2⟩ := at_T33 HR0.out x6_1 p181 q181
                                    cases e181
                                    replace hx181_0 := (HB.out.cell (World.block_lt_of_cell? w _ hx181_0)).trans hx181_0
                                    replace hx181_1 := (HB.out.cell (World.block_lt_of_cell? w _ hx181_1)).trans hx181_1
                                    replace hx181_2 := (HB.out.cell (World.block_lt_of_cell? w _ hx181_2)).trans hx181_2
                                    replace p181 := eq_true p181
                                    replace q181 := eq_true q181
                                    go_wp2
                                    repeat (go_quiet (fail); try go_wp2)
                                    go_roundg kj5
                                    case measure => have := HK1.out; have := HK2.out; have := HJ5.out; omega
                                    case rel => exact ⟨(x7_2), (wrap64 (x8_2 + 1)), (by first | rfl | (simp; done) | (simp; decide +kernel) | (simp [*]; done)), (by first | rfl | (simp; done) | (simp; decide +kernel) | (simp [*]; done)), (by first | exact H' | (subst_vars; exact H')), ⟨by have := HK1.out; have := HK2.out; have := HJ5.out; omega⟩, ⟨by (with_reducible repeat (first | apply Kd.R_alloc | apply Kd.R_drewN | apply Kd.R_drew)); exact HO_5.out⟩, ⟨by repeat (first | (with_reducible first | exact HB.out | apply below_alloc | apply pw_below_drewN | apply below_drew1) | exact HB.out)⟩⟩
                                · rw [if_neg c30] at H
                                  exact absurd H (by simp)
                              · rw [if_neg c29] at H
                                exact absurd H (by simp)
                            · rw [if_neg c28] at H
                              have c28b0 : (((rdOf ByteArray.empty l1 x8_2).extract ((ji25) : Int).toNat (rdOf ByteArray.empty l1 x8_2).size).toList == ([46, 42] : List UInt8)) = false := beq_eq_false_iff_ne.mpr c28
                              have c28b1 : (((rdOf ByteArray.empty l1 x8_2).extract ((ji25) : Int).toNat (rdOf ByteArray.empty l1 x8_2).size).toList != ([46, 42] : List UInt8)) = true := bne_iff_ne.mpr c28
                              have H' := Aside0.mk H
                              clear H
                              go_wp2
                              repeat (go_quiet (fail); try go_wp2)
                              go_roundg kj5
                              case measure => have := HK1.out; have := HK2.out; have := HJ5.out; omega
                              case rel => exact ⟨(x7_2), (wrap64 (x8_2 + 1)), (by first | rfl | (simp; done) | (simp; decide +kernel) | (simp [*]; done)), (by first | rfl | (simp; done) | (simp; decide +kernel) | (simp [*]; done)), (by first | exact H' | (subst_vars; exact H')), ⟨by have := HK1.out; have := HK2.out; have := HJ5.out; omega⟩, ⟨by (with_reducible repeat (first | apply Kd.R_alloc | apply Kd.R_drewN | apply Kd.R_drew)); exact HO_5.out⟩, ⟨by repeat (first | (with_reducible first | exact HB.out | apply below_alloc | apply pw_below_drewN | apply below_drew1) | exact HB.out)⟩⟩
                          · rw [if_neg c27] at H
                            exact absurd H (by simp)
                        · rw [if_neg c26] at H
                          exact absurd H (by simp)
                      · rw [if_neg c24] at H
                        have c24b0 : decide (0 ≤ (wrap64 (((rdOf ByteArray.empty l1 x8_2).size : Int) - 2))) = false := decide_eq_false c24
                        clear c24
                        have H' := Aside0.mk H
                        clear H
                        go_wp2
                        repeat (go_quiet (fail); try go_wp2)
                        go_roundg kj5
                        case measure => have := HK1.out; have := HK2.out; have := HJ5.out; omega
                        case rel => exact ⟨(x7_2), (wrap64 (x8_2 + 1)), (by first | rfl | (simp; done) | (simp; decide +kernel) | (simp [*]; done)), (by first | rfl | (simp; done) | (simp; decide +kernel) | (simp [*]; done)), (by first | exact H' | (subst_vars; exact H')), ⟨by have := HK1.out; have := HK2.out; have := HJ5.out; omega⟩, ⟨by (with_reducible repeat (first | apply Kd.R_alloc | apply Kd.R_drewN | apply Kd.R_drew)); exact HO_5.out⟩, ⟨by repeat (first | (with_reducible first | exact HB.out | apply below_alloc | apply pw_below_drewN | apply below_drew1) | exact HB.out)⟩⟩
              · rw [if_neg c5] at H
                exact absurd H (by simp)
            · rw [if_neg c4] at H
              have c4b0 : decide (x8_2 < (l1.length : Int)) = false := decide_eq_false c4
              clear c4
              by_cases c37 : x7_2 = true
              · subst c37
                have H1 : (if 0 ≤ x6_1 then (if x6_1 < (l0.length : Int) then (if x5_1.length < 2932031007402 then (racewayref24_Select.l0 k2 l0 l1 (x5_1 ++ [(⟨(rd_T33 l0 x6_1).f0, (rd_T33 l0 x6_1).f1, (rd_T33 l0 x6_1).f2⟩ : S33)]) (wrap64 (x6_1 + 1))) else (none)) else (none)) else (none)) = some r := by rw [if_pos rfl] at H; exact H
                clear H
                have H := H1
                clear H1
                by_cases c38 : 0 ≤ x6_1
                · rw [if_pos c38] at H
                  have c38b0 : decide (0 ≤ x6_1) = true := decide_eq_true c38
                  clear c38
                  by_cases c39 : x6_1 < (l0.length : Int)
                  · rw [if_pos c39] at H
                    have c39b0 : decide (x6_1 < (l0.length : Int)) = true := decide_eq_true c39
                    clear c39
                    by_cases c40 : x5_1.length < 2932031007402
                    · rw [if_pos c40] at H
                      have LMc40 := Aside0.mk c40
                      clear c40
                      obtain ⟨y174, hy174⟩ : ∃ y_ : List (S33), y_ = (x5_1 ++ [(⟨(rd_T33 l0 x6_1).f0, (rd_T33 l0 x6_1).f1, (rd_T33 l0 x6_1).f2⟩ : S33)]) := ⟨_, rfl⟩
                      replace H : (racewayref24_Select.l0 k2 l0 l1 y174 (wrap64 (x6_1 + 1))) = some r := by first | (rw [hy174]; with_reducible exact H) | (have H2_ := (Option.bind_some _ _).symm.trans H; rw [hy174]; with_reducible exact H2_) | (have H2_ := (Option.bind_some _ _).symm.trans H; with_reducible exact H2_) | with_reducible exact H | (rw [hy174]; exact H) | exact H
                      have Ny174 := Aside0.mk hy174
                      clear hy174
                      have H' := Aside0.mk H
                      clear H
                      have p173 : 0 ≤ (x6_1 : Int) := of_decide_eq_true (by first | (with_reducible assumption) | assumption)
                      have q173 : x6_1 < (l0.length : Int) := of_decide_eq_true (by first | (with_reducible assumption) | assumption)
                      obtain ⟨ad173, e173, hx173_0, hx173_1, hx173_2⟩ := at_T33 HR0.out x6_1 p173 q173
                      cases e173
                      replace hx173_0 := (HB.out.cell (World.block_lt_of_cell? w _ hx173_0)).trans hx173_0
                      replace hx173_1 := (HB.out.cell (World.block_lt_of_cell? w _ hx173_1)).trans hx173_1
                      replace hx173_2 := (HB.out.cell (World.block_lt_of_cell? w _ hx173_2)).trans hx173_2
                      replace p173 := eq_true p173
                      replace q173 := eq_true q173
                      go_wp2_with (first | ((with_reducible refine gate_builtin (b := .append) (xs := #[.tmp 73, .tmp 78]) rfl ?_); (try (refine gate_guard (by rfl) ?_; dsimp only)); at_builtin; refine Kd.R_append k33 (w0 := w) w.heap.size rfl (.tmp 73) (.tmp 78) 26 33 (.agg #[(.string ⟨#[]⟩), (.string ⟨#[]⟩), (.string ⟨#[]⟩)]) 48 rfl Tryd.underlying26 info33 rfl (by decide) (by omega) u5 x5_1 (⟨(rd_T33 l0 x6_1).f0, (rd_T33 l0 x6_1).f1, (rd_T33 l0 x6_1).f2⟩ : S33) [.string ((rd_T33 l0 x6_1).f0), .string ((rd_T33 l0 x6_1).f1), .string ((rd_T33 l0 x6_1).f2)] (fun _ => True) (fun _ => False) rfl rfl ?aP (fun _ hk => hk.elim) ?aF ?aO ?aB ?aS ?aL ?_; (case aP => exact k33_mkM _ _ _ (⟨(rd_T33 l0 x6_1).f0, (rd_T33 l0 x6_1).f1, (rd_T33 l0 x6_1).f2⟩ : S33)); (case aB => exact (by repeat (first | (with_reducible first | exact HB.out | apply below_alloc | apply pw_below_drewN | apply below_drew1) | exact HB.out))); (case aF => exact (fun _ _ => trivial)); (case aO => exact (by (with_reducible repeat (first | apply Kd.R_alloc | apply Kd.R_drewN | apply Kd.R_drew)); exact HO_5.out)); (case aS => exact (below_size (by repeat (first | (with_reducible first | exact HB.out | apply below_alloc | apply pw_below_drewN | apply below_drew1) | exact HB.out)))); (case aL => have := LMc40.out; omega); intro v175 w41 ho hb hg hat; rw [← Ny174.out] at ho; have n0_ := Aside0.mk (hb); have n1_ := Aside0.mk (ho); clear HB; clear HO_5; have HB := n0_; have HO176 := n1_; clear n0_ n1_; clear ho hb hg hat))
                      repeat (go_quiet (first | ((with_reducible refine gate_builtin (b := .append) (xs := #[.tmp 73, .tmp 78]) rfl ?_); (try (refine gate_guard (by rfl) ?_; dsimp only)); at_builtin; refine Kd.R_append k33 (w0 := w) w.heap.size rfl (.tmp 73) (.tmp 78) 26 33 (.agg #[(.string ⟨#[]⟩), (.string ⟨#[]⟩), (.string ⟨#[]⟩)]) 48 rfl Tryd.underlying26 info33 rfl (by decide) (by omega) u5 x5_1 (⟨(rd_T33 l0 x6_1).f0, (rd_T33 l0 x6_1).f1, (rd_T33 l0 x6_1).f2⟩ : S33) [.string ((rd_T33 l0 x6_1).f0), .string ((rd_T33 l0 x6_1).f1), .string ((rd_T33 l0 x6_1).f2)] (fun _ => True) (fun _ => False) rfl rfl ?aP (fun _ hk => hk.elim) ?aF ?aO ?aB ?aS ?aL ?_; (case aP => exact k33_mkM _ _ _ (⟨(rd_T33 l0 x6_1).f0, (rd_T33 l0 x6_1).f1, (rd_T33 l0 x6_1).f2⟩ : S33)); (case aB => exact (by repeat (first | (with_reducible first | exact HB.out | apply below_alloc | apply pw_below_drewN | apply below_drew1) | exact HB.out))); (case aF => exact (fun _ _ => trivial)); (case aO => exact (by (with_reducible repeat (first | apply Kd.R_alloc | apply Kd.R_drewN | apply Kd.R_drew)); exact HO_5.out)); (case aS => exact (below_size (by repeat (first | (with_reducible first | exact HB.out | apply below_alloc | apply pw_below_drewN | apply below_drew1) | exact HB.out)))); (case aL => have := LMc40.out; omega); intro v175 w41 ho hb hg hat; rw [← Ny174.out] at ho; have n0_ := Aside0.mk (hb); have n1_ := Aside0.mk (ho); clear HB; clear HO_5; have HB := n0_; have HO176 := n1_; clear n0_ n1_; clear ho hb hg hat)); try go_wp2_with (first | ((with_reducible refine gate_builtin (b := .append) (xs := #[.tmp 73, .tmp 78]) rfl ?_); (try (refine gate_guard (by rfl) ?_; dsimp only)); at_builtin; refine Kd.R_append k33 (w0 := w) w.heap.size rfl (.tmp 73) (.tmp 78) 26 33 (.agg #[(.string ⟨#[]⟩), (.string ⟨#[]⟩), (.string ⟨#[]⟩)]) 48 rfl Tryd.underlying26 info33 rfl (by decide) (by omega) u5 x5_1 (⟨(rd_T33 l0 x6_1).f0, (rd_T33 l0 x6_1).f1, (rd_T33 l0 x6_1).f2⟩ : S33) [.string ((rd_T33 l0 x6_1).f0), .string ((rd_T33 l0 x6_1).f1), .string ((rd_T33 l0 x6_1).f2)] (fun _ => True) (fun _ => False) rfl rfl ?aP (fun _ hk => hk.elim) ?aF ?aO ?aB ?aS ?aL ?_; (case aP => exact k33_mkM _ _ _ (⟨(rd_T33 l0 x6_1).f0, (rd_T33 l0 x6_1).f1, (rd_T33 l0 x6_1).f2⟩ : S33)); (case aB => exact (by repeat (first | (with_reducible first | exact HB.out | apply below_alloc | apply pw_below_drewN | apply below_drew1) | exact HB.out))); (case aF => exact (fun _ _ => trivial)); (case aO => exact (by (with_reducible repeat (first | apply Kd.R_alloc | apply Kd.R_drewN | apply Kd.R_drew)); exact HO_5.out)); (case aS => exact (below_size (by repeat (first | (with_reducible first | exact HB.out | apply below_alloc | apply pw_below_drewN | apply below_drew1) | exact HB.out)))); (case aL => have := LMc40.out; omega); intro v175 w41 ho hb hg hat; rw [← Ny174.out] at ho; have n0_ := Aside0.mk (hb); have n1_ := Aside0.mk (ho); clear HB; clear HO_5; have HB := n0_; have HO176 := n1_; clear n0_ n1_; clear ho hb hg hat)))
                      go_roundg k2
                      case measure => have := HK1.out; have := HK2.out; omega
                      case rel => exact ⟨(y174), (wrap64 (x6_1 + 1)), (by first | rfl | (simp; done) | (simp; decide +kernel) | (simp [*]; done)), (by first | exact H' | (subst_vars; exact H')), ⟨by have := HK1.out; have := HK2.out; omega⟩, ⟨by (with_reducible repeat (first | apply Kd.R_alloc | apply Kd.R_drewN | apply Kd.R_drew)); exact HO176.out⟩, ⟨by repeat (first | (with_reducible first | exact HB.out | apply below_alloc | apply pw_below_drewN | apply below_drew1) | exact HB.out)⟩⟩
                    · rw [if_neg c40] at H
                      exact absurd H (by simp)
                  · rw [if_neg c39] at H
                    exact absurd H (by simp)
                · rw [if_neg c38] at H
                  exact absurd H (by simp)
              · replace c37 := Bool.eq_false_iff.mpr c37
                subst c37
                have H1 : (racewayref24_Select.l0 k2 l0 l1 x5_1 (wrap64 (x6_1 + 1))) = some r := by rw [if_neg (show ¬ (false = true) by decide)] at H; exact H
                clear H
                have H := H1
                clear H1
                have H' := Aside0.mk H
                clear H
                go_wp2
                repeat (go_quiet (fail); try go_wp2)
                go_roundg k2
                case measure => have := HK1.out; have := HK2.out; omega
                case rel => exact ⟨(x5_1), (wrap64 (x6_1 + 1)), (by first | rfl | (simp; done) | (simp; decide +kernel) | (simp [*]; done)), (by first | exact H' | (subst_vars; exact H')), ⟨by have := HK1.out; have := HK2.out; omega⟩, ⟨by (with_reducible repeat (first | apply Kd.R_alloc | apply Kd.R_drewN | apply Kd.R_drew)); exact HO_5.out⟩, ⟨by repeat (first | (with_reducible first | exact HB.out | apply below_alloc | apply pw_below_drewN | apply below_drew1) | exact HB.out)⟩⟩
      · rw [if_neg c3] at H
        have c3b0 : decide (x6_1 < (l0.length : Int)) = false := decide_eq_false c3
        clear c3
        obtain rfl := Option.some.inj H
        go_wp2
        repeat (go_quiet (fail); try go_wp2)
        go_ret
        exact ⟨_, by first | rfl | (simp [errW_none, errW_some] <;> rfl) | (simp [*, errW_none, errW_some] <;> rfl), by (with_reducible repeat (first | apply Kd.R_alloc | apply Kd.R_drewN | apply Kd.R_drew)); exact HO_5.out, by repeat (first | (with_reducible first | exact HB.out | apply below_alloc | apply pw_below_drewN | apply below_drew1) | exact HB.out)⟩

end Go.Proofs.YtolpefnedpgaaaaDoor.X

namespace Go.Proofs.YtolpefnedpgaaaaDoor.X
open Go.RowKit Go.Proofs.YtolpefnedpgaaaaDoorW.PrintWords Go.Proofs.YtolpefnedpgaaaaDoorW.PrintLast Go.Proofs.YtolpefnedpgaaaaDoorW.PrintMore
set_option linter.unusedVariables false
set_option linter.unusedSimpArgs false
/-- What holds in the walk: B is the attribute's own block. -/
structure WhyW (w wr : World) (B : Nat) (A : Option Addr) (l : List S33) (x : S33) : Prop where
  P : wr.heap[B]? = some (.cells (vA x).toArray 33 (0, 0))
  C : Kd.C k33 wr A l.length l
  G : GlobMax wr
  L : Below w.heap.size w wr
theorem WhyW.below {w wr wr' : World} {B : Nat} {A : Option Addr} {l : List S33} {x : S33} (h : WhyW w wr B A l x) (hb : Below wr.heap.size wr wr') : WhyW w wr' B A l x :=
  ⟨(hb.block _ (Array.getElem?_eq_some_iff.mp h.P).1).trans h.P, Kd.C_below h.C hb, h.G.below hb, below_step h.L hb⟩
theorem WhyW.drawn {w wr wr' : World} {B : Nat} {A : Option Addr} {l : List S33} {x : S33} (h : WhyW w wr B A l x) (hd : Drawn0 wr wr') : WhyW w wr' B A l x := h.below hd.below
theorem WhyW.cells {w wr : World} {B : Nat} {A : Option Addr} {l : List S33} {x : S33} (h : WhyW w wr B A l x) : wr.cell? ⟨B, 0, none⟩ = some (.string x.f0) ∧ wr.cell? ⟨B, 1, none⟩ = some (.string x.f1) ∧ wr.cell? ⟨B, 2, none⟩ = some (.string x.f2) :=
  ⟨(blk_cell h.P 0).trans rfl, (blk_cell h.P 1).trans rfl, (blk_cell h.P 2).trans rfl⟩
end Go.Proofs.YtolpefnedpgaaaaDoor.X

namespace Go.Proofs.YtolpefnedpgaaaaDoor.X
open Go.RowKit Go.Proofs.YtolpefnedpgaaaaDoorW.PrintWords Go.Proofs.YtolpefnedpgaaaaDoorW.PrintLast Go.Proofs.YtolpefnedpgaaaaDoorW.PrintMore
set_option linter.unusedVariables false
set_option linter.unusedSimpArgs false
/-- Is a name one that a pattern asks for? -/
def fitsB (n p : ByteArray) : Bool :=
  p.toList == [65, 108, 108] || p.toList == [46, 42] || n.toList == p.toList || (Lib.hasSuffix p.data.toList [46, 42] && Lib.hasPrefix n.data.toList (Lib.trimSuffix p.data.toList [46, 42]))
set_option maxHeartbeats 1000000 in
set_option maxRecDepth 100000 in
theorem fits_calls (n p : ByteArray) (w : World) (hp : p.size ≤ 9223372036854775807) :
    Calls Tryd.prog 57 #[.string n, .string p] w fun e w' => e = .returned (.bool (fitsB n p)) ∧ Below w.heap.size w w' := by
  unfold fitsB
  generalize h1 : (p.toList == ([65, 108, 108] : List UInt8)) = b1
  generalize h2 : (p.toList == ([46, 42] : List UInt8)) = b2
  generalize h3 : (n.toList == p.toList) = b3
  generalize h4 : Lib.hasSuffix p.data.toList [46, 42] = b4
  generalize h5 : Lib.hasPrefix n.data.toList (Lib.trimSuffix p.data.toList [46, 42]) = b5
  have H4 := Lib.hid h4
  have H5 := Lib.hid h5
  clear h4 h5
  go_enter Tryd.func57, Tryd.ntmps57
  cases b1 <;> cases b2 <;> cases b3 <;> cases b4 <;> cases b5 <;>
  (go_wp2_with (first
    | (go_at_call 86; refine (Tryd.strings_CutSuffix p ⟨#[46, 42]⟩ _ hp).mono ?_; rw [show Lib.hasSuffix p.data.toList (⟨#[46, 42]⟩ : ByteArray).data.toList = _ from H4.out]; rintro e w1 ⟨rfl, rfl⟩)
    | (go_at_call 40; refine (Tryd.strings_HasPrefix n _ _).mono ?_; rw [show Lib.hasPrefix n.data.toList (⟨(Lib.trimSuffix p.data.toList (⟨#[46, 42]⟩ : ByteArray).data.toList).toArray⟩ : ByteArray).data.toList = _ from H5.out]; rintro e w1 ⟨rfl, rfl⟩))
   go_ret
   exact ⟨rfl, Below.refl _ _⟩)
set_option maxHeartbeats 1000000 in
set_option maxRecDepth 100000 in
theorem select1_calls (p : ByteArray) (B : Nat) (nm : ByteArray) (w : World) (hb : w.cell? ⟨B, 0, none⟩ = some (.string nm)) (hp : p.size ≤ 9223372036854775807) :
    Calls Tryd.prog 56 #[.string p, .pointer (some ⟨B, 0, none⟩)] w fun e w' => e = .returned (.bool (fitsB nm p)) ∧ Below w.heap.size w w' := by
  go_enter Tryd.func56, Tryd.ntmps56
  go_wp2_with (go_at_call 57; refine (fits_calls nm p _ hp).mono ?_; rintro e w1 ⟨rfl, hb1⟩)
  go_ret
  exact ⟨rfl, hb1⟩
theorem anyS_take_succ (p : ByteArray → Bool) (l : List ByteArray) (k : Nat) (h : k < l.length) : (l.take (k + 1)).any p = ((l.take k).any p || p (l.getD k ByteArray.empty)) := by
  rw [List.take_succ_eq_append_getElem h, List.any_append]
  simp [List.getD, h]
theorem anyS_true (p : ByteArray → Bool) (l : List ByteArray) (k : Nat) (h : k < l.length) (hp : p (l.getD k ByteArray.empty) = true) : l.any p = true := by
  rw [List.any_eq_true]
  refine ⟨l.getD k ByteArray.empty, ?_, hp⟩
  simp only [List.getD, List.getElem?_eq_getElem h, Option.getD_some]
  exact List.getElem_mem h
set_option maxHeartbeats 2000000 in
set_option maxRecDepth 100000 in
theorem idxS_calls (A : Option Addr) (c : Nat) (l : List ByteArray) (B : Nat) (nm : ByteArray) (w : World) (hr : Kd.C Kd.string w A l.length l) (hl : l.length ≤ 1000) (hs : ∀ p ∈ l, p.size ≤ 100000) (hb : w.cell? ⟨B, 0, none⟩ = some (.string nm)) :
    Calls Tryd.prog 85 #[.slice A l.length c, .func (.func 56) #[] #[.pointer (some ⟨B, 0, none⟩)]] w fun e w' => (∃ i : Int, e = .returned (.int .i64 i) ∧ decide (0 ≤ i) = l.any (fitsB nm)) ∧ Below w.heap.size w w' := by
  have hlt := World.block_lt_of_cell? w _ hb
  have eg : ∀ args w, (callFunc 56 args).run Tryd.prog w = .ok (.enter 56 args) w := fun args w => enters_ Tryd.func56 (by kernel_rfl) (by kernel_rfl) args w
  have HR := Lib.hid hr
  have HB := Lib.hid hb
  have HS := Lib.hid hs
  clear hr hb hs
  go_enter Tryd.func85, Tryd.ntmps85
  go_wp2
  go_loopw [5, 8] (fun _ i wr => ∃ k : Nat, i = .int .i64 k ∧ k ≤ l.length ∧ Hid ((l.take k).any (fitsB nm) = false) ∧ Below w.heap.size w wr) (fun _ i _ => (l.length - intOf i).toNat)
  case atStart => exact ⟨0, rfl, Nat.zero_le _, Lib.hid rfl, Below.refl _ _⟩
  case round =>
    obtain ⟨k, rfl, hk, hany, hbel⟩ := hrel
    by_cases hkn : k < l.length
    · have hd : decide ((k : Int) < (l.length : Int)) = true := decide_eq_true (by omega)
      obtain ⟨ad, e, x0⟩ := Kd.at_string HR.out (k : Int) (by omega) (by omega)
      subst e
      simp only [Int.toNat_natCast] at x0
      have hx : Hid (l.getD k ByteArray.empty = rdOf ByteArray.empty l (k : Int)) := Lib.hid rfl
      have hsz : (rdOf ByteArray.empty l (k : Int)).size ≤ 100000 := by
        rw [← hx.out]
        apply HS.out
        simp only [List.getD, List.getElem?_eq_getElem hkn, Option.getD_some]
        exact List.getElem_mem hkn
      generalize rdOf ByteArray.empty l (k : Int) = x at x0 hx hsz
      have HSZ := Lib.hid hsz
      clear hsz
      replace x0 := (hbel.cell (World.block_lt_of_cell? w _ x0)).trans x0
      have hbr := (hbel.cell hlt).trans HB.out
      have HBR := Lib.hid hbr
      clear hbr
      cases hq : fitsB nm x with
      | true =>
        go_wp2_with (go_at_fn 56; refine (select1_calls x B nm _ HBR.out (Nat.le_trans HSZ.out (by omega))).mono ?_; rw [hq]; rintro e w1 ⟨rfl, hb1⟩)
        go_ret
        exact ⟨⟨(k : Int), rfl, by rw [anyS_true (fitsB nm) l k hkn (by rw [hx.out]; exact hq)]; simp⟩, below_step hbel hb1⟩
      | false =>
        go_wp2_with (go_at_fn 56; refine (select1_calls x B nm _ HBR.out (Nat.le_trans HSZ.out (by omega))).mono ?_; rw [hq]; rintro e w1 ⟨rfl, hb1⟩)
        go_roundw
        case rel => exact ⟨k + 1, by go_num, by omega, Lib.hid (by rw [anyS_take_succ _ _ _ (by omega), hany.out, hx.out, hq]; rfl), below_step hbel hb1⟩
        case measure => simp [intOf]; omega
    · have hd : decide ((k : Int) < (l.length : Int)) = false := decide_eq_false (by omega)
      have hkk : k = l.length := by omega
      go_wp2
      go_ret
      refine ⟨⟨-1, rfl, ?_⟩, hbel⟩
      have := hany.out
      rw [hkk, List.take_length] at this
      rw [this]; rfl
set_option maxHeartbeats 1000000 in
set_option maxRecDepth 100000 in
theorem containsS_calls (A : Option Addr) (c : Nat) (l : List ByteArray) (B : Nat) (nm : ByteArray) (w : World) (hr : Kd.C Kd.string w A l.length l) (hl : l.length ≤ 1000) (hs : ∀ p ∈ l, p.size ≤ 100000) (hb : w.cell? ⟨B, 0, none⟩ = some (.string nm)) :
    Calls Tryd.prog 55 #[.slice A l.length c, .func (.func 56) #[] #[.pointer (some ⟨B, 0, none⟩)]] w fun e w' => e = .returned (.bool (l.any (fitsB nm))) ∧ Below w.heap.size w w' := by
  have HR := Lib.hid hr
  have HB := Lib.hid hb
  have HS := Lib.hid hs
  clear hr hb hs
  go_enter Tryd.func55, Tryd.ntmps55
  go_wp2_with (go_at_call 85; refine (idxS_calls A c l B nm _ HR.out hl HS.out HB.out).mono ?_; rintro e w1 ⟨⟨i, rfl, hi⟩, hb1⟩)
  go_ret
  exact ⟨by rw [← hi]; rfl, hb1⟩
/-- Those that patterns ask for. -/
def attribute_Select.f (l : List S33) (ps : List ByteArray) : Option (List S33) :=
  if l.length ≤ 1000 ∧ ps.length ≤ 1000 ∧ (∀ p ∈ ps, p.size ≤ 100000) then some (l.filter fun x => ps.any (fitsB x.f0)) else none
theorem filter_take_succ (q : S33 → Bool) (l : List S33) (k : Nat) (h : k < l.length) : (l.take (k + 1)).filter q = (l.take k).filter q ++ (if q (l.getD k z33) = true then [l.getD k z33] else []) := by
  rw [List.take_succ_eq_append_getElem h, List.filter_append]
  simp only [List.getD, List.getElem?_eq_getElem h, Option.getD_some]
  by_cases hq : q l[k] = true <;> simp [hq]
set_option maxHeartbeats 4000000 in
set_option maxRecDepth 100000 in
theorem attribute_Select.calls (A0 : Option Addr) (c0 : Nat) (l0 : List S33) (A1 : Option Addr) (c1 : Nat) (l1 : List ByteArray) (r : List S33) (w : World) (hr0 : Kd.C k33 w A0 l0.length l0) (hc0 : l0.length ≤ c0) (hr1 : Kd.C Kd.string w A1 l1.length l1) (hc1 : l1.length ≤ c1) (h : attribute_Select.f l0 l1 = some r) :
    Calls Tryd.prog 24 #[.slice A0 l0.length c0, .slice A1 l1.length c1] w fun e w' => ∃ v0_ : Value, e = .returned v0_ ∧ Kd.R k33 33 w' w.heap.size (fun _ => True) v0_ r ∧ Below w.heap.size w w' := by
  unfold attribute_Select.f at h
  split at h
  · rename_i hh
    obtain ⟨hl0, hl1, hs⟩ := hh
    obtain rfl := Option.some.inj h
    have HR0 := Lib.hid hr0
    have HR1 := Lib.hid hr1
    have HS := Lib.hid hs
    clear hr0 hr1 hs h
    have hu33 := Tryd.underlying33
    generalize hq : (fun x : S33 => l1.any (fitsB x.f0)) = q
    have HQ := Lib.hid hq
    clear hq
    go_enter Tryd.func24, Tryd.ntmps24
    go_wp2
    go_loopw [5, 10] (fun o i wr => ∃ k : Nat, i = .int .i64 k ∧ k ≤ l0.length ∧ Hid (Kd.R k33 33 wr w.heap.size (fun _ => True) o ((l0.take k).filter q)) ∧ Hid (Below w.heap.size w wr)) (fun _ i _ => (l0.length - intOf i).toNat)
    case atStart => exact ⟨0, rfl, Nat.zero_le _, Lib.hid (Kd.R_nil _ _ _ _ _), Lib.hid (Below.refl _ _)⟩
    case round =>
      obtain ⟨k, rfl, hk, hO, hbel⟩ := hrel
      by_cases hkn : k < l0.length
      · have hd : decide ((k : Int) < (l0.length : Int)) = true := decide_eq_true (by omega)
        obtain ⟨ad, e, x0, x1, x2⟩ := at_T33 HR0.out (k : Int) (by omega) (by omega)
        subst e
        simp only [Int.toNat_natCast] at x0 x1 x2
        have hx : Hid (l0.getD k z33 = rd_T33 l0 (k : Int)) := Lib.hid rfl
        generalize rd_T33 l0 (k : Int) = x at x0 x1 x2 hx
        replace x0 := (hbel.out.cell (World.block_lt_of_cell? w _ x0)).trans x0
        replace x1 := (hbel.out.cell (World.block_lt_of_cell? w _ x1)).trans x1
        replace x2 := (hbel.out.cell (World.block_lt_of_cell? w _ x2)).trans x2
        go_upto_region 4 with (fail)
        refine wp_region_lit ?_
        refine wpList_step (fun K hK => ?_)
        go_simp
        refine hK _ _ ?_
        clear hK K
        refine wpList_step (fun K hK => ?_)
        go_simp
        refine hK _ _ ?_
        clear hK K
        refine wpList_step (fun K hK => ?_)
        go_simp
        refine hK _ _ ?_
        clear hK K
        have hnew : (wr.alloc (.cells (cellsA [z33] ++ []).toArray 33 (0, 0))).heap[wr.heap.size]? = some (.cells (cellsA [z33] ++ []).toArray 33 (0, 0)) := heap_alloc_new wr _
        have hbel1 : Below wr.heap.size wr (wr.alloc (.cells (cellsA [z33] ++ []).toArray 33 (0, 0))) := (Below.refl _ _).alloc (Nat.le_refl _) _
        refine wpList_store_at rfl _ _ _ rfl ⟨wr.heap.size, 3 * 0, none⟩ rfl _ rfl (store_A hnew 0 x (by simp)) ?_
        have hset := (set_A hnew 0 x (by simp)).trans (show _ = some (Obj.cells (vA x).toArray 33 (0, 0)) from rfl)
        have hb2 : Below wr.heap.size wr ((wr.alloc (.cells (cellsA [z33] ++ []).toArray 33 (0, 0))).setCells wr.heap.size (3 * 0) (vA x)) := ((hbel1.setCell (Nat.le_refl _) _).setCell (Nat.le_refl _) _).setCell (Nat.le_refl _) _
        generalize (wr.alloc (.cells (cellsA [z33] ++ []).toArray 33 (0, 0))).setCells wr.heap.size (3 * 0) (vA x) = w1 at hset hb2
        clear hnew hbel1 x0 x1 x2
        have HP := Lib.hid hset
        have HL := Lib.hid (below_step hbel.out hb2)
        have HO := Lib.hid (Kd.R_below hO.out hb2)
        clear hset hb2 hO hbel
        generalize wr.heap.size = B at HP
        have c0 : w1.cell? ⟨B, 0, none⟩ = some (.string x.f0) := (blk_cell HP.out 0).trans rfl
        have HC0 := Lib.hid c0
        clear c0
        refine wpList_nil ?_
        have hqx : q x = l1.any (fitsB x.f0) := by rw [← HQ.out]
        have hfl := filter_take_succ q l0 k hkn
        rw [hx.out] at hfl
        have HFL := Lib.hid hfl
        clear hfl
        cases hany : l1.any (fitsB x.f0) with
        | false =>
          rw [hany] at hqx
          have HQX := Lib.hid hqx
          clear hqx
          go_wp2_with (go_at_call 55; refine (containsS_calls A1 c1 l1 B x.f0 _ (Kd.C_below HR1.out HL.out) hl1 HS.out HC0.out).mono ?_; rw [hany]; rintro e w2 ⟨rfl, hb3⟩)
          go_roundw
          case rel =>
            refine ⟨k + 1, by go_num, by omega, Lib.hid ?_, Lib.hid (below_step HL.out hb3)⟩
            rw [HFL.out, HQX.out]
            simp only [Bool.false_eq_true, if_false, List.append_nil]
            exact Kd.R_below HO.out hb3
          case measure => simp [intOf]; omega
        | true =>
          rw [hany] at hqx
          have HQX := Lib.hid hqx
          clear hqx
          go_upto_region 6 with (go_at_call 55; refine (containsS_calls A1 c1 l1 B x.f0 _ (Kd.C_below HR1.out HL.out) hl1 HS.out HC0.out).mono ?_; rw [hany]; rintro e w2 ⟨rfl, hb3⟩)
          have hblk : w2.heap[B]? = some (Obj.cells (vA x).toArray 33 (0, 0)) := (hb3.block _ (Array.getElem?_eq_some_iff.mp HP.out).1).trans HP.out
          have u0 : w2.cell? ⟨B, 0, none⟩ = some (.string x.f0) := (blk_cell hblk 0).trans rfl
          have u1 : w2.cell? ⟨B, 1, none⟩ = some (.string x.f1) := (blk_cell hblk 1).trans rfl
          have u2 : w2.cell? ⟨B, 2, none⟩ = some (.string x.f2) := (blk_cell hblk 2).trans rfl
          clear hblk
          have HO2 := Lib.hid (Kd.R_below HO.out hb3)
          have HL2 := Lib.hid (below_step HL.out hb3)
          have hlen : Hid ((List.filter q (List.take k l0)).length ≤ 1000) := Lib.hid (Nat.le_trans (List.length_filter_le _ _) (by rw [List.length_take]; omega))
          clear hb3 HL HO HP HC0
          refine wp_region_lit ?_
          refine wpList_step (fun K hK => ?_)
          go_simp
          refine hK _ _ ?_
          clear hK K
          refine wpList_step (fun K hK => ?_)
          go_simp
          refine hK _ _ ?_
          clear hK K
          refine wpList_step (fun K hK => ?_)
          go_simp
          refine hK _ _ ?_
          clear hK K
          refine Kd.R_append k33 (w0 := w) w.heap.size rfl (.tmp 17) (.tmp 19) 26 33 (.agg #[(.string ⟨#[]⟩), (.string ⟨#[]⟩), (.string ⟨#[]⟩)]) 48 rfl Tryd.underlying26 info33 rfl (by decide) (by decide) _ _ x [.string x.f0, .string x.f1, .string x.f2] (fun _ => True) (fun _ => False) rfl rfl (k33_mkM _ _ _ x) (fun _ hk => hk.elim) (fun _ _ => trivial) HO2.out HL2.out HL2.out.size (by have := hlen.out; omega) ?_
          intro v1 w3 ho hb hg hat
          have HO3 := Lib.hid ho
          have HL3 := Lib.hid hb
          clear ho hb hg hat
          go_wp2
          go_roundw
          case rel =>
            refine ⟨k + 1, by go_num, by omega, Lib.hid ?_, HL3⟩
            rw [HFL.out, HQX.out]
            simp only [if_true]
            exact HO3.out
          case measure => simp [intOf]; omega
      · have hd : decide ((k : Int) < (l0.length : Int)) = false := decide_eq_false (by omega)
        have hkk : k = l0.length := by omega
        go_wp2
        go_ret
        refine ⟨_, rfl, ?_, hbel.out⟩
        have := hO.out
        rw [hkk, List.take_length] at this
        exact this
  · exact absurd h (by simp)
end Go.Proofs.YtolpefnedpgaaaaDoor.X

