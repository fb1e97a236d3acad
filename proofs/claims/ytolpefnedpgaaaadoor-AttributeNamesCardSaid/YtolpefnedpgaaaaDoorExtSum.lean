/-
  attribute.Sum: the fingerprint of attributes in order.
-/
import Derived.Test.YtolpefnedpgaaaaDoorExtSortA
import Derived.Test.YtolpefnedpgaaaaDoorExtHex
import Derived.Test.YtolpefnedpgaaaaDoorExtGlob
import Derived.Test.YtolpefnedpgaaaaDoorX2
namespace Go.Proofs.YtolpefnedpgaaaaDoor.X
open Go.RowKit Go.Proofs.YtolpefnedpgaaaaDoorW.PrintWords Go.Proofs.YtolpefnedpgaaaaDoorW.PrintLast Go.Proofs.YtolpefnedpgaaaaDoorW.PrintMore
set_option linter.unusedVariables false
set_option linter.unusedSimpArgs false
def Fp.text (s : Fp) (b : ByteArray) : Fp := (s.bytes (numL b.size)).bytes (bytesOf b)
def small33 (x : S33) : Prop := x.f0.size ≤ 4096 ∧ x.f1.size ≤ 4096 ∧ x.f2.size ≤ 4096
instance (x : S33) : Decidable (small33 x) := by unfold small33; infer_instance
def sumStep (k : Nat) (s : Fp) (x : S33) : Option Fp :=
  if small33 x then (attribute_Type.f k x.f1).bind fun p => some ((((s.text x.f0).text x.f1).bytes [if p.1 = 3 then 2 else 1]).text x.f2) else none
def sumAll (k : Nat) (s : Fp) : List S33 → Option Fp
  | [] => some s
  | x :: l => (sumStep k s x).bind fun s => sumAll k s l
def attribute_Sum.f (k : Nat) (l : List S33) : Option ByteArray :=
  if l.length = 0 then some ⟨#[]⟩ else if l.length < 20 then (sumAll k fp0 (sortA l)).bind fun s => some (strOfNums (hexL s.sum)) else none
theorem sumStep_mono (k : Nat) (s : Fp) (x : S33) : LeO (sumStep k s x) (sumStep (k + 1) s x) := by
  unfold sumStep
  refine LeO.ite (LeO.bind (attribute_Type.mono _ _) (fun _ => LeO.refl _)) (LeO.refl _)
theorem sumAll_mono (k : Nat) : ∀ (l : List S33) (s : Fp), LeO (sumAll k s l) (sumAll (k + 1) s l)
  | [], s => LeO.refl _
  | x :: l, s => LeO.bind (sumStep_mono k s x) (fun s => sumAll_mono k l s)
theorem attribute_Sum.mono : ∀ (l : List S33) (k : Nat), LeO (attribute_Sum.f k l) (attribute_Sum.f (k + 1) l) := by
  intro l k
  unfold attribute_Sum.f
  exact LeO.ite (LeO.refl _) (LeO.ite (LeO.bind (sumAll_mono k _ _) (fun _ => LeO.refl _)) (LeO.refl _))
theorem Fp.text_ok {s : Fp} (h : s.Ok) (b : ByteArray) : (s.text b).Ok := Fp.bytes_ok (Fp.bytes_ok h _) _
theorem Fp.text_n (s : Fp) (b : ByteArray) : (s.text b).n = s.n + 4 + b.size := by unfold Fp.text; rw [Fp.bytes_n, Fp.bytes_n, bytesOf_length]; rfl
theorem R_upd {e b B : Nat} {w w' : World} {ok : Nat → Prop} {v : Value} {xs : List S33} (h : Kd.R k33 e w b ok v xs) (hu : Upd B w w') (hB : B < b) : Kd.R k33 e w' b ok v xs :=
  Kd.R_mono (Kd.R_move (Kd.R_bound h) (fun k hk => hu.block k hk.2.2.1 (by have := hk.2.1; omega))) (fun _ hk => hk.1)
/-- What holds in a round. -/
structure SumW (w : World) (wr : World) (st : Fp) (v : Value) (xs : List S33) : Prop where
  ok : st.Ok
  P : wr.heap[w.heap.size]? = some (.cells st.cells 97 (0, 0))
  R : Kd.R k33 33 wr (w.heap.size + 1) (fun _ => True) v xs
  T : FpTables wr
  B : Below w.heap.size w wr
theorem SumW.upd {w wr wr' : World} {st st' : Fp} {v : Value} {xs : List S33} (h : SumW w wr st v xs) (hu : Upd w.heap.size wr wr') (hok : st'.Ok) (hP : wr'.heap[w.heap.size]? = some (.cells st'.cells 97 (0, 0))) (h1 : 1 < w.heap.size) (h2 : 2 < w.heap.size) : SumW w wr' st' v xs :=
  ⟨hok, hP, R_upd h.R hu (by omega), h.T.upd hu (by omega) (by omega), h.B.trans (hu.below (Nat.le_refl _) h.B.size)⟩
theorem SumW.below {w wr wr' : World} {st : Fp} {v : Value} {xs : List S33} (h : SumW w wr st v xs) (hb : Below wr.heap.size wr wr') (h1 : 1 < w.heap.size) (h2 : 2 < w.heap.size) : SumW w wr' st v xs :=
  h.upd (Upd.of_below hb) h.ok ((hb.block _ (Array.getElem?_eq_some_iff.mp h.P).1).trans h.P) h1 h2
theorem SumW.text {w wr : World} {st : Fp} {v : Value} {xs : List S33} (h : SumW w wr st v xs) (b : ByteArray) (hb : b.size ≤ 4096) (hn : st.n ≤ 900000) (h1 : 1 < w.heap.size) (h2 : 2 < w.heap.size) :
    Calls Tryd.prog 47 #[.pointer (some ⟨w.heap.size, 0, none⟩), .string b] wr fun e w' => e = .returned (.int .i64 0) ∧ SumW w w' (st.text b) v xs ∧ Upd w.heap.size wr w' := by
  refine (text_calls w.heap.size st b wr h.ok (by omega) (by omega) h.T (by omega) (by omega) h.P).mono ?_
  rintro e w' ⟨rfl, hP, hu⟩
  exact ⟨rfl, h.upd hu (Fp.text_ok h.ok b) hP h1 h2, hu⟩
theorem SumW.mark {w wr : World} {st : Fp} {v : Value} {xs : List S33} (h : SumW w wr st v xs) (m : Int) (hn : st.n ≤ 900000) (h1 : 1 < w.heap.size) (h2 : 2 < w.heap.size) :
    Calls Tryd.prog 48 #[.pointer (some ⟨w.heap.size, 0, none⟩), .slice (some ⟨wr.heap.size, 0, none⟩) 1 1] (wr.alloc (.cells #[.int .u8 m] 5 (0, 0))) fun e w' => e = .returned (.int .i64 0) ∧ SumW w w' (st.bytes [m]) v xs ∧ Upd w.heap.size wr w' := by
  have hlt : w.heap.size < wr.heap.size := (Array.getElem?_eq_some_iff.mp h.P).1
  have hb : Below wr.heap.size wr (wr.alloc (.cells (nums .u8 [m]).toArray 5 (0, 0))) := (Below.refl _ _).alloc (Nat.le_refl _) _
  have hu := Upd.of_below (B := w.heap.size) hb
  refine (write_calls w.heap.size st (some ⟨wr.heap.size, 0, none⟩) [m] 1 _ h.ok (by simp; omega) (h.T.upd hu (by omega) (by omega)) (by omega) (by omega) ((hb.block _ hlt).trans h.P) (bytesAt_new w.heap.size wr [m] 5 hlt)).mono ?_
  rintro e w' ⟨rfl, hC, hu'⟩
  have hh := hu.trans hu'
  exact ⟨rfl, h.upd hh (Fp.bytes_ok h.ok _) hC h1 h2, hh⟩
set_option maxHeartbeats 4000000 in
set_option maxRecDepth 100000 in
theorem attribute_Sum.calls (k : Nat) (A0 : Option Addr) (c0 : Nat) (l0 : List S33) (r : ByteArray) (w : World) (hGFp : GlobFp w) (hr0 : Kd.C k33 w A0 l0.length l0) (hc0 : l0.length ≤ c0) (h : attribute_Sum.f k l0 = some r) :
    Calls Tryd.prog 21 #[.slice A0 l0.length c0] w fun e w' => e = .returned (.string r) ∧ Below w.heap.size w w' := by
  unfold attribute_Sum.f at h
  have h1 : 1 < w.heap.size := (Array.getElem?_eq_some_iff.mp hGFp.1).1
  have h2 : 2 < w.heap.size := (Array.getElem?_eq_some_iff.mp hGFp.2).1
  split at h
  · rename_i hz
    obtain rfl := Option.some.inj h
    have hq : ((l0.length : Int) == 0) = true := by rw [hz]; rfl
    go_enter Tryd.func21, Tryd.ntmps21
    go_wp2
    go_ret
    exact ⟨rfl, Below.refl _ _⟩
  · rename_i hz
    have hq : ((l0.length : Int) == 0) = false := by rw [beq_eq_false_iff_ne]; omega
    split at h
    · rename_i hl
      obtain ⟨fin, hfin, hrr⟩ := Option.bind_eq_some_iff.1 h
      obtain rfl := Option.some.inj hrr
      have HF := Lib.hid hfin
      clear h hfin
      have hb0 : Below w.heap.size w (w.alloc (.cells fp0.cells 97 (0, 0))) := (Below.refl _ _).alloc (Nat.le_refl _) _
      have HS := Lib.hid (attribute_Sort.calls A0 c0 l0 (sortA l0) (w.alloc (.cells fp0.cells 97 (0, 0))) (Kd.C_below hr0 hb0) hc0 (by unfold attribute_Sort.f; rw [if_pos hl]))
      have hP0 := heap_alloc_new w (.cells fp0.cells 97 (0, 0))
      have hz0 : (w.alloc (.cells fp0.cells 97 (0, 0))).heap.size = w.heap.size + 1 := World.size_alloc _ _
      have HP0 := Lib.hid hP0
      have HZ0 := Lib.hid hz0
      clear hP0 hz0 hr0
      go_enter Tryd.func21, Tryd.ntmps21
      go_wp2_with (first | (go_at_call 46; refine (new_calls _).mono ?_; rintro e w1 ⟨rfl, rfl⟩) | (go_at_call 19; refine HS.out.mono ?_; rintro e w2 ⟨v, rfl, hR, hb⟩; obtain ⟨A1, c1, hv, _, _⟩ := Kd.R_reads hR; subst hv))
      have hsl : (sortA l0).length = l0.length := sortedTo_len _ _
      have hI : SumW w w2 fp0 (.slice A1 (sortA l0).length c1) (sortA l0) :=
        ⟨fp0_ok, (hb.block _ (by rw [HZ0.out]; omega)).trans HP0.out, by have := hR; rw [HZ0.out] at this; exact this, (hGFp.below hb0).below hb, hb0.trans (hb.mono (by rw [HZ0.out]; omega))⟩
      clear HS HP0 HZ0 hb0 hb hR
      obtain ⟨xs, hxs⟩ : ∃ xs, sortA l0 = xs := ⟨_, rfl⟩
      rw [hxs] at hI hsl HF
      simp only [hxs]
      have hx20 : xs.length < 20 := by omega
      have HXS := Lib.hid hxs
      have HSL := Lib.hid hsl
      clear hxs hsl hz hl hq
      go_loopw [17] (fun i wr => ∃ (j : Nat) (st : Fp), i = .int .i64 (j : Nat) ∧ j ≤ xs.length ∧ SumW w wr st (.slice A1 xs.length c1) xs ∧ st.n ≤ 20000 * j ∧ sumAll k st (xs.drop j) = some fin)
        (fun i _ => (xs.length - intOf i).toNat)
      case atStart => exact ⟨0, fp0, rfl, by omega, hI, by simp [fp0], HF.out⟩
      case round =>
        obtain ⟨j, st, rfl, hj, hI, hn, hall⟩ := hrel
        by_cases hlt : j < xs.length
        · have hd : decide ((j : Int) < xs.length) = true := by simp; omega
          obtain ⟨x, hx⟩ : ∃ x, rd_T33 xs (j : Int) = x := ⟨_, rfl⟩
          have hdrop : xs.drop j = x :: xs.drop (j + 1) := by
            rw [List.drop_eq_getElem_cons hlt, ← hx]
            congr 1
            simp [rd_T33, List.getD_eq_getElem?_getD, List.getElem?_eq_getElem hlt]
          rw [hdrop, sumAll] at hall
          obtain ⟨st', hst, hrest⟩ := Option.bind_eq_some_iff.1 hall
          unfold sumStep at hst
          split at hst
          · rename_i hsm
            obtain ⟨p, hty, hst'⟩ := Option.bind_eq_some_iff.1 hst
            obtain rfl := Option.some.inj hst'
            obtain ⟨p1, p2⟩ := p
            obtain ⟨A2, c2, hv, _, hC⟩ := Kd.R_reads hI.R
            injection hv with hv1 hv2 hv3
            subst hv1 hv3
            obtain ⟨ad, rfl, q0, q1, q2⟩ := at_T33 hC (j : Int) (by omega) (by omega)
            rw [hx] at q0 q1 q2
            simp only [Int.toNat_natCast] at q0 q1 q2
            have HTY := Lib.hid hty
            have HRE := Lib.hid hrest
            have HXX := Lib.hid hx
            have HSM := Lib.hid hsm
            clear hty hrest hst hall hdrop hx hC hsm
            obtain ⟨N, hNe⟩ : ∃ N, wr.heap.size = N := ⟨_, rfl⟩
            have hIa := hI.below (wr' := wr.alloc (.cells #[.string x.f0, .string x.f1, .string x.f2] 33 (0, 0))) ((Below.refl _ _).alloc (Nat.le_refl _) _) h1 h2
            have hNa := heap_alloc_new wr (.cells #[.string x.f0, .string x.f1, .string x.f2] 33 (0, 0))
            have hza : (wr.alloc (.cells #[.string x.f0, .string x.f1, .string x.f2] 33 (0, 0))).heap.size = wr.heap.size + 1 := World.size_alloc _ _
            have hne : N ≠ w.heap.size := by
              have := (Array.getElem?_eq_some_iff.mp hI.P).1
              omega
            have hsmm := HSM.out
            obtain ⟨s0, s1, s2⟩ := hsmm
            go_wp2_with fail
            refine (attribute_Type.calls k x.f1 p1 p2 _ HTY.out).mono ?_
            rintro e w3 ⟨rfl, hb3⟩
            have hI3 := hIa.below hb3 h1 h2
            have hN3 : w3.heap[N]? = some (.cells #[.string x.f0, .string x.f1, .string x.f2] 33 (0, 0)) := by rw [← hNe]; exact (hb3.block _ (by omega)).trans hNa
            have hlt3 : N < w3.heap.size := (Array.getElem?_eq_some_iff.mp hN3).1
            have b0 : w3.cell? ⟨N, 0, none⟩ = some (.string x.f0) := by rw [blk_cell hN3]; rfl
            have HNE := Lib.hid hNe
            clear hNe hza hNa hIa q0 q1 q2 hb3 hI
            by_cases hp : p1 = 3
            · have hp' : (p1 == 3) = true := by rw [hp]; rfl
              go_wp2_with fail
              refine (hI3.text x.f0 HSM.out.1 (by omega) h1 h2).mono ?_
              rintro e w4 ⟨rfl, hI4, hu4⟩
              have hN4 := (hu4.block N hlt3 hne).trans hN3
              have hlt4 : N < w4.heap.size := Nat.lt_of_lt_of_le hlt3 hu4.size
              have b1 : w4.cell? ⟨N, 1, none⟩ = some (.string x.f1) := by rw [blk_cell hN4]; rfl
              have hn4 := Fp.text_n st x.f0
              go_wp2_with fail
              refine (hI4.text x.f1 HSM.out.2.1 (by omega) h1 h2).mono ?_
              rintro e w5 ⟨rfl, hI5, hu5⟩
              have hN5 := (hu5.block N hlt4 hne).trans hN4
              have hlt5 : N < w5.heap.size := Nat.lt_of_lt_of_le hlt4 hu5.size
              have hn5 := Fp.text_n (st.text x.f0) x.f1
              go_wp2_with fail
              refine (hI5.mark 2 (by omega) h1 h2).mono ?_
              rintro e w6 ⟨rfl, hI6, hu6⟩
              have hN6 := (hu6.block N hlt5 hne).trans hN5
              have b2 : w6.cell? ⟨N, 2, none⟩ = some (.string x.f2) := by rw [blk_cell hN6]; rfl
              have hn6 := Fp.bytes_n ((st.text x.f0).text x.f1) [2]
              simp only [List.length_singleton] at hn6
              go_wp2_with fail
              refine (hI6.text x.f2 HSM.out.2.2 (by omega) h1 h2).mono ?_
              rintro e w7 ⟨rfl, hI7, hu7⟩
              have hn7 := Fp.text_n (((st.text x.f0).text x.f1).bytes [2]) x.f2
              have h7 : ((((st.text x.f0).text x.f1).bytes [2]).text x.f2).n ≤ 20000 * (j + 1) := by omega
              have hre := HRE.out
              simp only [hp, if_true, if_false] at hre
              have H7 := Lib.hid h7
              have HRR := Lib.hid hre
              clear hn4 hn5 hn6 hn7 h7 hre
              go_wp2
              go_roundw
              case rel => exact ⟨j + 1, _, rfl, by omega, hI7, H7.out, HRR.out⟩
              case measure => simp [intOf]; omega
            · have hp' : (p1 == 3) = false := by rw [beq_eq_false_iff_ne]; exact hp
              go_wp2_with fail
              refine (hI3.text x.f0 HSM.out.1 (by omega) h1 h2).mono ?_
              rintro e w4 ⟨rfl, hI4, hu4⟩
              have hN4 := (hu4.block N hlt3 hne).trans hN3
              have hlt4 : N < w4.heap.size := Nat.lt_of_lt_of_le hlt3 hu4.size
              have b1 : w4.cell? ⟨N, 1, none⟩ = some (.string x.f1) := by rw [blk_cell hN4]; rfl
              have hn4 := Fp.text_n st x.f0
              go_wp2_with fail
              refine (hI4.text x.f1 HSM.out.2.1 (by omega) h1 h2).mono ?_
              rintro e w5 ⟨rfl, hI5, hu5⟩
              have hN5 := (hu5.block N hlt4 hne).trans hN4
              have hlt5 : N < w5.heap.size := Nat.lt_of_lt_of_le hlt4 hu5.size
              have hn5 := Fp.text_n (st.text x.f0) x.f1
              go_wp2_with fail
              refine (hI5.mark 1 (by omega) h1 h2).mono ?_
              rintro e w6 ⟨rfl, hI6, hu6⟩
              have hN6 := (hu6.block N hlt5 hne).trans hN5
              have b2 : w6.cell? ⟨N, 2, none⟩ = some (.string x.f2) := by rw [blk_cell hN6]; rfl
              have hn6 := Fp.bytes_n ((st.text x.f0).text x.f1) [1]
              simp only [List.length_singleton] at hn6
              go_wp2_with fail
              refine (hI6.text x.f2 HSM.out.2.2 (by omega) h1 h2).mono ?_
              rintro e w7 ⟨rfl, hI7, hu7⟩
              have hn7 := Fp.text_n (((st.text x.f0).text x.f1).bytes [1]) x.f2
              have h7 : ((((st.text x.f0).text x.f1).bytes [1]).text x.f2).n ≤ 20000 * (j + 1) := by omega
              have hre := HRE.out
              simp only [hp, if_true, if_false] at hre
              have H7 := Lib.hid h7
              have HRR := Lib.hid hre
              clear hn4 hn5 hn6 hn7 h7 hre
              go_wp2
              go_roundw
              case rel => exact ⟨j + 1, _, rfl, by omega, hI7, H7.out, HRR.out⟩
              case measure => simp [intOf]; omega
          · exact absurd hst (by simp)
        · have hjx : j = xs.length := by omega
          rw [hjx, List.drop_length, sumAll] at hall
          obtain rfl := Option.some.inj hall
          have hS := sum_calls w.heap.size st wr hI.ok (by omega) hI.T (Nat.lt_of_lt_of_le h1 hI.B.size) (Nat.lt_of_lt_of_le h2 hI.B.size) hI.P
          have hl16 : st.sum.length = 16 := by
            obtain ⟨a, b, c, d, e⟩ := four_of (show st.fin.ws.length = 4 from (Fp.bytes_ok (Fp.bytes_ok (Fp.byte_ok hI.ok _) _) _).1)
            unfold Fp.sum
            rw [e]
            rfl
          have hb8 : ∀ x ∈ st.sum, 0 ≤ x ∧ x < 256 := by
            intro x hx
            simp only [Fp.sum, outL, List.mem_flatMap, List.mem_cons, List.mem_nil_iff, or_false] at hx
            obtain ⟨y, _, rfl | rfl | rfl | rfl⟩ := hx <;> omega
          have HS := Lib.hid hS
          have hbI := hI.B
          clear hS hI hall HF
          go_upto_region 16 with (fail)
          refine wp_region_lit ?_
          refine wpList_step (fun K hK => ?_)
          go_simp
          refine hK _ _ ?_
          clear hK K
          refine goesL_ (some 47) rfl rfl Tryd.func49 (by kernel_rfl) rfl #[.pointer (some ⟨w.heap.size, 0, none⟩)] rfl (by simp only [List.map_toArray, List.map_cons, List.map_nil]; rfl) ?_
          refine HS.out.mono ?_
          rintro e w3 ⟨rfl, hb3⟩
          refine ⟨_, rfl, ?_⟩
          obtain ⟨N, hNe⟩ : ∃ N, w3.heap.size = N := ⟨_, rfl⟩
          have hZ := heap_alloc_new w3 (.cells (nums .u8 (List.replicate 16 0)).toArray 64 (0, 0))
          rw [hNe] at hZ
          have hbz : Below w3.heap.size w3 (w3.alloc (.cells (nums .u8 (List.replicate 16 0)).toArray 64 (0, 0))) := (Below.refl _ _).alloc (Nat.le_refl _) _
          obtain ⟨ie, hie, hsz⟩ := arrInfo
          have hn16 : (nums .u8 st.sum).length = 16 := by simp [nums, hl16]
          have hst := Lib.rl_storeVar_cells (P := Tryd.prog) 64 ie hie N 0 (nums .u8 st.sum) (by rw [hn16, hsz]) (fun v hv => by
                simp only [nums, List.mem_map] at hv
                obtain ⟨_, _, rfl⟩ := hv
                rfl) (w3.alloc (.cells (nums .u8 (List.replicate 16 0)).toArray 64 (0, 0))) (fun k hk => by rw [Nat.zero_add, blk_cell hZ]; simp [nums]; omega) (fun k hk => blk_frozen hZ _)
          have hfin := blk_setCells N 64 (nums .u8 st.sum) 0 _ (nums .u8 (List.replicate 16 0)) (by rw [hn16]; rfl) hZ
          rw [List.take_zero, List.nil_append] at hfin
          have hu4 : Upd N w3 ((w3.alloc (.cells (nums .u8 (List.replicate 16 0)).toArray 64 (0, 0))).setCells N 0 (nums .u8 st.sum)) := upd_setCells _ _ _ (Upd.of_below hbz)
          have hNw : w.heap.size ≤ N := by rw [← hNe]; exact Nat.le_trans hbI.size hb3.size
          have hbf : Below w.heap.size w ((w3.alloc (.cells (nums .u8 (List.replicate 16 0)).toArray 64 (0, 0))).setCells N 0 (nums .u8 st.sum)) := (hbI.trans (hb3.mono hbI.size)).trans (hu4.below hNw (by rw [hNe]; exact hNw))
          have HFI := Lib.hid hfin
          have HBF := Lib.hid hbf
          clear hfin hbf hu4 hbz hZ
          refine wpList_step (fun K hK => ?_)
          go_simp
          refine hK _ _ ?_
          clear hK K
          refine wpList_store_at rfl _ _ _ rfl _ rfl _ rfl hst ?_
          refine wpList_nil ?_
          simp only [Act.put]
          generalize (w3.alloc (.cells (nums .u8 (List.replicate 16 0)).toArray 64 (0, 0))).setCells N 0 (nums .u8 st.sum) = w5 at *
          clear hst
          have hH := hex_calls (some ⟨N, 0, none⟩) 16 st.sum w5 ⟨rfl, by omega, fun _ => ⟨_, rfl, fun j p hp => ⟨[.int .u8 p], rfl, rfl, fun i u hu => by
            rcases i with _ | i
            · simp at hu
              subst hu
              have hjl : j < st.sum.length := (List.getElem?_eq_some_iff.mp hp).1
              have := out_cell HFI.out hl16 j (by omega)
              rw [List.getD_eq_getElem?_getD, hp] at this
              have e : (Addr.add ⟨N, 0, none⟩ (j * 1 + 0)) = ⟨N, j, none⟩ := by unfold Addr.add; split <;> simp_all
              show w5.cell? (Addr.add ⟨N, 0, none⟩ (j * 1 + 0)) = _
              rw [e]
              exact this
            · simp at hu⟩⟩⟩ (by omega) (by omega) hb8
          rw [hl16] at hH
          have HH := Lib.hid hH
          clear hH hb8
          have hlt5 : w.heap.size ≤ w5.heap.size := HBF.out.size
          go_wp2_with fail
          refine HH.out.mono ?_
          rintro e w6 ⟨rfl, hb6⟩
          go_wp2
          go_ret
          exact ⟨rfl, HBF.out.trans (hb6.mono hlt5)⟩
    · exact absurd h (by simp)
end Go.Proofs.YtolpefnedpgaaaaDoor.X
