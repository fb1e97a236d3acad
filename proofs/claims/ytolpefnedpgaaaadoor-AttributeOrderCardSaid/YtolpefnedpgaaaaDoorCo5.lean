/-
  What the claim's law rests on, part 5 of 5: printed walks, externals, plain lemmas; conditions: none of its own.
-/
import Derived.ChangeSame
import Derived.Deep.Slices
import Derived.Handed
import Derived.HandedShaped
import Derived.LaidSub
import Derived.Lib.LaidTab
import Derived.ShapedOpen
import Derived.SliceStrings
import Derived.Test.YtolpefnedpgaaaaDoorCo4
namespace Go.Proofs.YtolpefnedpgaaaaDoor.X
open Go.RowKit Go.Proofs.YtolpefnedpgaaaaDoorW.PrintWords Go.Proofs.YtolpefnedpgaaaaDoorW.PrintLast Go.Proofs.YtolpefnedpgaaaaDoorW.PrintMore
set_option linter.unusedVariables false
set_option linter.unusedSimpArgs false
def sizes (l : List S33) : Prop := ∀ x ∈ l, x.f0.size ≤ 100 ∧ x.f1.size ≤ 100 ∧ x.f2.size ≤ 200
theorem dist_nil : Dist [] := fun a b h => by simp at h
theorem getD_app (O : List S33) (x : S33) (n : Nat) : (O ++ [x]).getD n z33 = if n < O.length then O.getD n z33 else if n = O.length then x else z33 := by
  simp only [List.getD]
  by_cases h : n < O.length
  · rw [if_pos h, List.getElem?_append_left h]
  · rw [if_neg h, List.getElem?_append_right (by omega)]
    by_cases h2 : n = O.length
    · subst h2; simp
    · rw [if_neg h2]
      have : n - O.length ≠ 0 := by omega
      cases hk : n - O.length with
      | zero => omega
      | succ k => rfl
theorem dist_snoc {O : List S33} (hd : Dist O) (x : S33) (h : O.any (named x.f0) = false) : Dist (O ++ [x]) := by
  have hn : ∀ n, n < O.length → (O.getD n z33).f0.toList ≠ x.f0.toList := by
    intro n hn he
    have := any_take_true (named x.f0) O n O.length hn hn (by unfold named; rw [he]; simp)
    rw [List.take_length, h] at this
    exact absurd this (by simp)
  intro a b ha hb he
  rw [List.length_append, List.length_singleton] at ha hb
  rw [getD_app, getD_app] at he
  by_cases h1 : a < O.length
  · rw [if_pos h1] at he
    by_cases h2 : b < O.length
    · rw [if_pos h2] at he; exact hd a b h1 h2 he
    · rw [if_neg h2, if_pos (by omega)] at he; exact absurd he (hn a h1)
  · rw [if_neg h1, if_pos (show a = O.length by omega)] at he
    by_cases h2 : b < O.length
    · rw [if_pos h2] at he; exact absurd he.symm (hn b h2)
    · omega
/-- A slice of the call's own, as a block, and back. -/
theorem R_open {wr : World} {base c n : Nat} {A : Option Addr} {M : List S33} (h : Kd.R k33 33 wr base (fun _ => True) (.slice A n c) M) (hM : 0 < M.length) :
    ∃ (g : Nat) (t : List Value), A = some ⟨g, 0, none⟩ ∧ base ≤ g ∧ wr.heap[g]? = some (.cells (cellsA M ++ t).toArray 33 (0, 0)) ∧
      ∀ (wq : World) (M' : List S33), M'.length = M.length → wq.heap[g]? = some (.cells (cellsA M' ++ t).toArray 33 (0, 0)) → Kd.R k33 33 wq base (fun _ => True) (.slice A n c) M' := by
  obtain ⟨hok, inner, hown, hrep⟩ := h
  have hin := cellsA_of M inner _ (fun x cs h => k33_openM h) hrep
  subst hin
  rcases hown.2 with ⟨hv, h0⟩ | ⟨g, cap, cur, hv, hbg, hgc, hcap, hmax, hsz, htk⟩
  · omega
  · injection hv with e1 e2 e3
    subst e1 e2 e3
    have hcur : cur = (cellsA M ++ cur.toList.drop (M.length * 3)).toArray := by
      apply Array.ext'
      rw [show cellsA M = cur.toList.take (M.length * 3) from htk.symm]
      simp
    rw [hcur] at hgc
    refine ⟨g, cur.toList.drop (M.length * 3), rfl, hbg, hgc, fun wq M' hl hq => ⟨fun _ _ => trivial, cellsA M', ⟨?_, .inr ⟨g, c, _, by rw [hl], hbg, hq, by rw [hl]; exact hcap, hmax, ?_, ?_⟩⟩, reps_of _ (fun x => k33_mkM _ _ _ x) _⟩⟩
    · show (cellsA M').length = _
      rw [cellsA_len]
      show _ = M'.length * 3
      omega
    · show (cellsA M' ++ _).toArray.size = c * 3
      rw [List.size_toArray, List.length_append, cellsA_len, List.length_drop]
      have : cur.toList.length = c * 3 := hsz
      have := hcap
      omega
    · show (cellsA M' ++ _).toArray.toList.take (M'.length * 3) = _
      rw [List.toList_toArray, List.take_append_of_le_length (by rw [cellsA_len]; omega), List.take_of_length_le (by rw [cellsA_len]; omega)]
/-- What is fixed ahead of the loops: few's answer lies in w1. -/
structure OrdW (w1 wr : World) (A : Option Addr) (L : List S33) : Prop where
  C : Kd.C k33 wr A L.length L
  F : GlobFp wr
  M : GlobMax wr
  B : Below w1.heap.size w1 wr
theorem OrdW.below {w1 wr wr' : World} {A : Option Addr} {L : List S33} (h : OrdW w1 wr A L) (hb : Below wr.heap.size wr wr') : OrdW w1 wr' A L :=
  ⟨Kd.C_below h.C hb, h.F.below hb, h.M.below hb, below_step h.B hb⟩
theorem OrdW.of {w1 wr : World} {A : Option Addr} {L : List S33} (h : OrdW w1 w1 A L) (hb : Below w1.heap.size w1 wr) : OrdW w1 wr A L :=
  ⟨Kd.C_below h.C hb, h.F.below hb, h.M.below hb, hb⟩
theorem at_attrA (ad : Addr) (n cap : Nat) (i : Int) (j : Nat) (W : World) (hj : i = j) (hl : j < n) :
    (Instr.indexAt 26 (.slice (some ad) n cap) (.int .i64 i)).run Tryd.prog W = .ok (.pointer (some (ad.add (j * 3)))) W := by
  have hs : ∀ W, (sizeOf (Tryd.prog.elem 26)).run Tryd.prog W = .ok 3 W := fun W => by kernel_rfl
  rw [run_indexAt_slice W 26 ad n cap .i64 i (by kernel_rfl), hs, if_pos (by omega)]
  subst hj
  simp only [Result.andThen, Int.toNat_natCast]
def racewaylaw24_AttributeOrder.f (k : Nat) (l : List S33) (zs : List Int) : Option Bool := if zs.length ≤ zs.length then some true else none
set_option maxHeartbeats 16000000 in
set_option maxRecDepth 100000 in
theorem racewaylaw24_AttributeOrder.calls (k : Nat) (A0 : Option Addr) (c0 : Nat) (l0 : List S33) (A2 : Option Addr) (c2 : Nat) (l2 : List Int) (r : Bool) (w : World) (hGFp : GlobFp w) (hGMax : GlobMax w) (hr0 : Kd.C k33 w A0 l0.length l0) (hc0 : l0.length ≤ c0) (hr2 : Kd.C (Kd.int .i64) w A2 l2.length l2) (hc2 : l2.length ≤ c2) (h : racewaylaw24_AttributeOrder.f k l0 l2 = some r) :
    Calls Tryd.prog 5 #[.slice A0 l0.length c0, .slice A2 l2.length c2] w fun e w' => e = .returned (.bool r) ∧ Below w.heap.size w w' := by
  unfold racewaylaw24_AttributeOrder.f at h
  split at h
  · rename_i hrange
    obtain rfl : true = r := by simpa using h
    clear h
    have HF := Lib.hid hGFp
    have HM := Lib.hid hGMax
    have HR := Lib.hid hr0
    have HC := Lib.hid hc0
    have HR2 := Lib.hid hr2
    have HA := Lib.hid hrange
    clear hGFp hGMax hr0 hc0 hrange hr2
    go_enter Tryd.func5, Tryd.ntmps5
    go_wp2_with (go_at_call 17; refine (racewaylaw24_few.calls 8000 A0 c0 l0 (fewB l0) _ HR.out HC.out (few_eq l0 8000 (by omega))).mono ?_; rintro e w1 ⟨v1, rfl, ho1, hb1⟩; obtain ⟨A1, c1, rfl⟩ := Kd.R_slice ho1)
    have hL := fewB_small l0
    generalize fewB l0 = L at hL ho1
    have HL := Lib.hid hL
    have h14 : Hid (L.length ≤ 14) := Lib.hid hL.1
    have HB1 := Lib.hid hb1
    have H2 := Lib.hid (Kd.C_below HR2.out hb1)
    have HW0 := Lib.hid (show OrdW w1 w1 A1 L from ⟨(Kd.R_reads' ho1).2.2, HF.out.below hb1, HM.out.below hb1, Below.refl _ _⟩)
    have hc1 := (Kd.R_reads' ho1).2.1
    clear hL ho1 hb1 HR HC HF HM HR2
    go_loopw [5, 20] (fun o i wr => ∃ (n : Nat) (O : List S33), i = .int .i64 n ∧ n ≤ L.length ∧ Hid (Kd.R k33 33 wr w1.heap.size (fun _ => True) o O) ∧ Hid (Dist O) ∧ Hid (sizes O) ∧ Hid (O.length ≤ n) ∧ Hid (OrdW w1 wr A1 L)) (fun _ i _ => (L.length - intOf i).toNat)
    case atStart => exact ⟨0, [], rfl, Nat.zero_le _, Lib.hid (Kd.R_nil _ _ _ _ _), Lib.hid dist_nil, Lib.hid (fun x hx => by simp at hx), Lib.hid (Nat.le_refl _), HW0⟩
    case round =>
      obtain ⟨n, O, rfl, hn, HO, HD, HS, HN, HWr⟩ := hrel
      have h14v := h14.out
      have hNb : O.length ≤ 14 := Nat.le_trans HN.out (Nat.le_trans hn h14v)
      by_cases hlt : n < L.length
      · have hd : decide ((n : Int) < (L.length : Int)) = true := decide_eq_true (by omega)
        obtain ⟨ad, ea, x0, x1, x2⟩ := at_T33 HWr.out.C (n : Int) (by omega) (by omega)
        subst ea
        simp only [Int.toNat_natCast] at x0 x1 x2
        have hsz := small_at HL.out n hlt
        rw [← rd33] at hsz
        generalize rd_T33 L (n : Int) = x at x0 x1 x2 hsz
        have HSZ := Lib.hid hsz
        clear hsz
        go_upto_region 4 with (fail)
        refine wp_region_lit ?_
        refine wpList_step (fun K hK => ?_)
        go_simp
        refine hK _ _ ?_
        clear hK K
        refine wpList_step (fun K hK => ?_)
        go_simp
        refine hK _ _ ?_
        clear hK K
        refine wpList_step (fun K hK => ?_)
        go_simp
        refine hK _ _ ?_
        clear hK K
        have hnew : (wr.alloc (.cells (cellsA [z33] ++ []).toArray 33 (0, 0))).heap[wr.heap.size]? = some (.cells (cellsA [z33] ++ []).toArray 33 (0, 0)) := heap_alloc_new wr _
        have hbel1 : Below wr.heap.size wr (wr.alloc (.cells (cellsA [z33] ++ []).toArray 33 (0, 0))) := (Below.refl _ _).alloc (Nat.le_refl _) _
        refine wpList_store_at rfl _ _ _ rfl ⟨wr.heap.size, 3 * 0, none⟩ rfl _ rfl (store_A hnew 0 x (by simp)) ?_
        have hset := (set_A hnew 0 x (by simp)).trans (show _ = some (Obj.cells (vA x).toArray 33 (0, 0)) from rfl)
        have hb2 : Below wr.heap.size wr ((wr.alloc (.cells (cellsA [z33] ++ []).toArray 33 (0, 0))).setCells wr.heap.size (3 * 0) (vA x)) := ((hbel1.setCell (Nat.le_refl _) _).setCell (Nat.le_refl _) _).setCell (Nat.le_refl _) _
        generalize (wr.alloc (.cells (cellsA [z33] ++ []).toArray 33 (0, 0))).setCells wr.heap.size (3 * 0) (vA x) = w3 at hset hb2
        clear hnew hbel1
        have HP := Lib.hid hset
        have HW3 := Lib.hid (HWr.out.below hb2)
        have HO3 := Lib.hid (Kd.R_below HO.out hb2)
        clear hset hb2 x0 x1 x2 HWr HO
        generalize wr.heap.size = B at HP
        obtain ⟨Ao, co, eo⟩ := Kd.R_slice HO3.out
        subst eo
        refine wpList_nil ?_
        go_wp2
        go_loopw [8, 26] (fun f i wq => ∃ m : Nat, i = .int .i64 m ∧ m ≤ O.length ∧ f = .bool ((O.take m).any (named x.f0)) ∧ Hid (Kd.R k33 33 wq w1.heap.size (fun _ => True) (.slice Ao O.length co) O) ∧ Hid (OrdW w1 wq (some ad) L) ∧ Hid (wq.heap[B]? = some (Obj.cells (vA x).toArray 33 (0, 0)))) (fun _ i _ => (O.length - intOf i).toNat)
        case atStart => exact ⟨0, rfl, Nat.zero_le _, rfl, HO3, HW3, HP⟩
        case round =>
          clear HO3 HW3 HP
          obtain ⟨m, rfl, hm, rfl, HOq, HWq, HPq⟩ := hrel
          by_cases hmlt : m < O.length
          · have hdm : decide ((m : Int) < (O.length : Int)) = true := decide_eq_true (by omega)
            obtain ⟨ad2, ea2, v0, v1, v2⟩ := at_T33 (Kd.R_reads' HOq.out).2.2 (m : Int) (by omega) (by omega)
            subst ea2
            simp only [Int.toNat_natCast] at v0 v1 v2
            have hst := any_take_succ (named x.f0) O m hmlt
            rw [← rd33] at hst
            generalize rd_T33 O (m : Int) = y at v0 v1 v2 hst
            have HST := Lib.hid hst
            clear hst
            generalize (O.take m).any (named x.f0) = fl at HST
            go_upto_region 8 with (fail)
            refine wp_region_lit ?_
            refine wpList_step (fun K hK => ?_)
            go_simp
            refine hK _ _ ?_
            clear hK K
            refine wpList_step (fun K hK => ?_)
            go_simp
            refine hK _ _ ?_
            clear hK K
            refine wpList_step (fun K hK => ?_)
            go_simp
            refine hK _ _ ?_
            clear hK K
            have hnew : (wr.alloc (.cells (cellsA [z33] ++ []).toArray 33 (0, 0))).heap[wr.heap.size]? = some (.cells (cellsA [z33] ++ []).toArray 33 (0, 0)) := heap_alloc_new wr _
            have hbel1 : Below wr.heap.size wr (wr.alloc (.cells (cellsA [z33] ++ []).toArray 33 (0, 0))) := (Below.refl _ _).alloc (Nat.le_refl _) _
            refine wpList_store_at rfl _ _ _ rfl ⟨wr.heap.size, 3 * 0, none⟩ rfl _ rfl (store_A hnew 0 y (by simp)) ?_
            have hset := (set_A hnew 0 y (by simp)).trans (show _ = some (Obj.cells (vA y).toArray 33 (0, 0)) from rfl)
            have hb2 : Below wr.heap.size wr ((wr.alloc (.cells (cellsA [z33] ++ []).toArray 33 (0, 0))).setCells wr.heap.size (3 * 0) (vA y)) := ((hbel1.setCell (Nat.le_refl _) _).setCell (Nat.le_refl _) _).setCell (Nat.le_refl _) _
            generalize (wr.alloc (.cells (cellsA [z33] ++ []).toArray 33 (0, 0))).setCells wr.heap.size (3 * 0) (vA y) = w6 at hset hb2
            clear hnew hbel1
            have hPx := (hb2.block _ (Array.getElem?_eq_some_iff.mp HPq.out).1).trans HPq.out
            have HP6 := Lib.hid hPx
            have HW6 := Lib.hid (HWq.out.below hb2)
            have HO6 := Lib.hid (Kd.R_below HOq.out hb2)
            have q0 : w6.cell? ⟨wr.heap.size, 0, none⟩ = some (.string y.f0) := (blk_cell hset 0).trans rfl
            have q1 : w6.cell? ⟨B, 0, none⟩ = some (.string x.f0) := (blk_cell hPx 0).trans rfl
            clear hset hb2 hPx v0 v1 v2 HWq HPq HOq
            refine wpList_nil ?_
            cases fl with
            | true =>
              go_wp2
              go_roundw
              case rel => exact ⟨m + 1, by go_num, by omega, by rw [HST.out]; rfl, HO6, HW6, HP6⟩
              case measure => simp [intOf]; omega
            | false =>
              go_wp2
              go_roundw
              case rel => exact ⟨m + 1, by go_num, by omega, by rw [HST.out]; rfl, HO6, HW6, HP6⟩
              case measure => simp [intOf]; omega
          · have hdm : decide ((m : Int) < (O.length : Int)) = false := decide_eq_false (by omega)
            have hmn : m = O.length := by omega
            have u0 : wr.cell? ⟨B, 0, none⟩ = some (.string x.f0) := (blk_cell HPq.out 0).trans rfl
            have u1 : wr.cell? ⟨B, 1, none⟩ = some (.string x.f1) := (blk_cell HPq.out 1).trans rfl
            have u2 : wr.cell? ⟨B, 2, none⟩ = some (.string x.f2) := (blk_cell HPq.out 2).trans rfl
            have hall : (O.take m).any (named x.f0) = O.any (named x.f0) := by rw [hmn, List.take_length]
            rw [hall]
            clear hall
            cases hany : O.any (named x.f0) with
            | true =>
              go_wp2
              go_roundw
              case rel => exact ⟨n + 1, O, by go_num, by omega, HOq, HD, HS, Lib.hid (by have := HN.out; omega), HWq⟩
              case measure => simp [intOf]; omega
            | false =>
              have HANY := Lib.hid hany
              have HXS := Lib.hid (show x.f0.size ≤ 100 ∧ x.f1.size ≤ 100 ∧ x.f2.size ≤ 200 from HSZ.out)
              clear hany
              go_upto_region 12 with (fail)
              refine wp_region_lit ?_
              refine wpList_step (fun K hK => ?_)
              go_simp
              refine hK _ _ ?_
              clear hK K
              refine wpList_step (fun K hK => ?_)
              go_simp
              refine hK _ _ ?_
              clear hK K
              refine wpList_step (fun K hK => ?_)
              go_simp
              refine hK _ _ ?_
              clear hK K
              refine Kd.R_append k33 (w0 := w1) w1.heap.size rfl (.tmp 41) (.tmp 43) 26 33 (.agg #[(.string ⟨#[]⟩), (.string ⟨#[]⟩), (.string ⟨#[]⟩)]) 48 rfl Tryd.underlying26 info33 rfl (by decide) (by decide) _ _ x [.string x.f0, .string x.f1, .string x.f2] (fun _ => True) (fun _ => False) rfl rfl (k33_mkM _ _ _ x) (fun _ hk => hk.elim) (fun _ _ => trivial) HOq.out HWq.out.B HWq.out.B.size (by omega) ?_
              intro v1 w7 ho hb hg hat
              have HO7 := Lib.hid ho
              have HW7 := Lib.hid (HW0.out.of hb)
              clear ho hb hg hat
              go_wp2
              go_roundw
              case rel => exact ⟨n + 1, O ++ [x], by go_num, by omega, HO7, Lib.hid (dist_snoc HD.out x HANY.out), Lib.hid (fun z hz => (List.mem_append.1 hz).elim (HS.out z) (fun h => by rw [List.mem_singleton] at h; rw [h]; exact HXS.out)), Lib.hid (by rw [List.length_append, List.length_singleton]; have := HN.out; omega), HW7⟩
              case measure => simp [intOf]; omega
      · have hd : decide ((n : Int) < (L.length : Int)) = false := decide_eq_false (by omega)
        obtain ⟨Ao, co, eo⟩ := Kd.R_slice HO.out
        subst eo
        have hco := (Kd.R_reads' HO.out).2.1
        have hCO := (Kd.R_reads' HO.out).2.2
        have hOb : O.length ≤ 14 := hNb
        have HQ := Lib.hid (show OrdW wr wr Ao O from ⟨hCO, HWr.out.F, HWr.out.M, Below.refl _ _⟩)
        have H22 := Lib.hid (Kd.C_below H2.out HWr.out.B)
        have HB2 := Lib.hid (below_step HB1.out HWr.out.B)
        go_upto_region 14 with (fail)
        clear HO HWr HW0 hCO HN h14v hlt hd
        generalize wr = w2 at *
        have hnew := heap_alloc_new w2 (.cells #[] 33 (0, 0))
        have hbel : Below w2.heap.size w2 (w2.alloc (.cells #[] 33 (0, 0))) := (Below.refl _ _).alloc (Nat.le_refl _) _
        have hown : Kd.R k33 33 (w2.alloc (.cells #[] 33 (0, 0))) w2.heap.size (fun _ => True) (.slice (some ⟨w2.heap.size, 0, none⟩) 0 0) [] := by
          refine ⟨fun _ _ => trivial, [], ⟨rfl, .inr ⟨w2.heap.size, 0, _, rfl, Nat.le_refl _, hnew, Nat.le_refl _, by unfold maxLen; omega, rfl, rfl⟩⟩, Reps.none _ _⟩
        refine wp_region_lit ?_
        refine wpList_step (fun K hK => ?_)
        go_simp
        refine hK _ _ ?_
        clear hK K
        refine wpList_step (fun K hK => ?_)
        go_simp
        refine hK _ _ ?_
        clear hK K
        refine Kd.R_append_rows k33 (Rr := k33.K w2) (w0 := w2) w2.heap.size rfl _ _ _ 33 _ 48 rfl Tryd.underlying26 info33 rfl (by decide) (by decide) (.slice (some ⟨w2.heap.size, 0, none⟩) 0 0) [] O Ao O.length co (fun _ => True) (fun _ => False) rfl rfl hown (Kd.C_below HQ.out.C hbel) (fun x cs h => by rw [k33_open h]; exact k33_mkM _ _ _ _) (fun _ h => h.elim) (fun _ _ => trivial) hbel (by rw [World.size_alloc]; omega) (by simp; omega) ?_
        intro v1 w3 h1 hb1 hg1 hat1
        rw [List.nil_append] at h1
        have HM1 := Lib.hid h1
        have HB3 := Lib.hid hb1
        clear h1 hb1 hg1 hat1 hown hbel hnew
        refine wpList_step (fun K hK => ?_)
        go_simp
        refine hK _ _ ?_
        clear hK K
        refine wpList_nil ?_
        obtain ⟨Am, cm, em⟩ := Kd.R_slice HM1.out
        subst em
        go_step
        go_step
        go_step
        go_cut [12] (fun v12 wc => ∃ M : List S33, Hid (Same O M) ∧ Hid (Kd.R k33 33 wc w2.heap.size (fun _ => True) (.slice Am O.length cm) M) ∧ Hid (OrdW w2 wc Ao O))
        case first =>
          go_wp2
          go_loopw [12] (fun i wr => ∃ (m : Nat) (M : List S33), i = .int .i64 m ∧ m ≤ l2.length ∧ m ≤ 31 ∧ Hid (Same O M) ∧ Hid (Kd.R k33 33 wr w2.heap.size (fun _ => True) (.slice Am O.length cm) M) ∧ Hid (OrdW w2 wr Ao O)) (fun i _ => (l2.length - intOf i).toNat)
          case atStart => exact ⟨0, O, rfl, Nat.zero_le _, Nat.zero_le _, Lib.hid (Same.refl O), HM1, Lib.hid (HQ.out.of HB3.out)⟩
          case round =>
            clear HM1
            obtain ⟨m, M, rfl, hm, hm31, HS1, HMr, HWr⟩ := hrel
            have hml : M.length = O.length := HS1.out.len
            have HML := Lib.hid hml
            clear hml
            by_cases hlt : m < l2.length
            · have hd : decide ((m : Int) < (l2.length : Int)) = true := decide_eq_true (by omega)
              by_cases h1 : 1 < O.length
              · have hd1 : decide ((1 : Int) < (O.length : Int)) = true := decide_eq_true (by omega)
                have hCz := Kd.C_below H22.out HWr.out.B
                obtain ⟨az, ez, z0⟩ := Kd.at_int hCz (m : Int) (by omega) (by omega)
                subst ez
                simp only [Int.toNat_natCast] at z0
                generalize rd l2 (m : Int) = z at z0
                have hlz : ((O.length : Int) == 0) = false := by rw [beq_eq_false_iff_ne]; omega
                go_upto_region 19 with (fail)
                have hmod : ∃ q : Nat, q < O.length ∧ (wrap64 (z.tmod (O.length : Int) + (O.length : Int))).tmod (O.length : Int) = (q : Int) := by
                  have hpi : (0 : Int) < (O.length : Int) := by omega
                  have t1 := Int.tmod_lt_of_pos z hpi
                  have t0 : -(O.length : Int) < Int.tmod z (O.length : Int) := by
                    have := Int.tmod_lt_of_pos (-z) hpi
                    rw [Int.neg_tmod] at this
                    omega
                  rw [w64 (by omega) (by omega)]
                  have u1 := Int.tmod_lt_of_pos (z.tmod (O.length : Int) + (O.length : Int)) hpi
                  have u0 := Int.tmod_nonneg (O.length : Int) (show 0 ≤ z.tmod (O.length : Int) + (O.length : Int) by omega)
                  exact ⟨_, by omega, (Int.toNat_of_nonneg u0).symm⟩
                obtain ⟨q, hq1, hq2⟩ := hmod
                rw [hq2]
                obtain ⟨g, tl, eg, hbg, hg, hback⟩ := R_open HMr.out (by rw [HML.out]; omega)
                subst eg
                have hqM : q < M.length := by rw [HML.out]; exact hq1
                have h0M : 0 < M.length := by rw [HML.out]; omega
                have HQM := Lib.hid hqM
                have H0M := Lib.hid h0M
                obtain ⟨x, hx⟩ : ∃ x, M.getD q z33 = x := ⟨_, rfl⟩
                obtain ⟨y, hy⟩ : ∃ y, M.getD 0 z33 = y := ⟨_, rfl⟩
                have HG : Hid (wr.drew.heap[g]? = some (.cells (cellsA M ++ tl).toArray 33 (0, 0))) := Lib.hid hg
                have c := fun j k hj hk => (blk_cell HG.out (3 * j + k)).trans ((List.getElem?_toArray ..).trans (cellsA_at M tl j z33 hj k hk))
                have hc0 : wr.drew.cell? ⟨g, 3 * q, none⟩ = some (.string x.f0) := hx ▸ c q 0 hqM (by omega)
                have hc1 : wr.drew.cell? ⟨g, 3 * q + 1, none⟩ = some (.string x.f1) := hx ▸ c q 1 hqM (by omega)
                have hc2_ : wr.drew.cell? ⟨g, 3 * q + 2, none⟩ = some (.string x.f2) := hx ▸ c q 2 hqM (by omega)
                have hc3 : wr.drew.cell? ⟨g, 0, none⟩ = some (.string y.f0) := hy ▸ c 0 0 h0M (by omega)
                have hc4 : wr.drew.cell? ⟨g, 1, none⟩ = some (.string y.f1) := hy ▸ c 0 1 h0M (by omega)
                have hc5 : wr.drew.cell? ⟨g, 2, none⟩ = some (.string y.f2) := hy ▸ c 0 2 h0M (by omega)
                have la := fun W => at_attr g O.length cm (q : Int) q W rfl hq1
                have lb := fun W => at_attr g O.length cm 0 0 W rfl (by omega)
                rw [Nat.mul_zero] at lb
                have HX := Lib.hid hx
                have HY := Lib.hid hy
                have HBK := Lib.hid hback
                have HBG := Lib.hid hbg
                clear hx hy hback c hq2 z0 hCz hg hqM h0M
                refine start_ (n := 14) (S := fun w' => w'.cell? ⟨g, 3 * q, none⟩ = some (.string x.f0) ∧ w'.cell? ⟨g, 3 * q + 1, none⟩ = some (.string x.f1) ∧ w'.cell? ⟨g, 3 * q + 2, none⟩ = some (.string x.f2) ∧ w'.cell? ⟨g, 0, none⟩ = some (.string y.f0) ∧ w'.cell? ⟨g, 1, none⟩ = some (.string y.f1) ∧ w'.cell? ⟨g, 2, none⟩ = some (.string y.f2)) (ds := [11, 13]) #[false, false, false, false, false, false, false, false, false, false, false, false, false, false] (by kernel_rfl) rfl rfl ⟨hc0, hc1, hc2_, hc3, hc4, hc5⟩ (fun hHeld => ?_)
                refine pure_ (i := 0) (N := some 73) (v := ?_) (a' := ?_) #[true, false, false, false, false, false, false, false, false, false, false, false, false, false] rfl rfl (by kernel_rfl) (fun _ _ _ h => h) (Or.inl ⟨by rfl, ?_⟩) ?_ ?_
                rotate_left
                · intro w'
                  go_simp
                  with_reducible rfl
                rotate_left
                · simp only [Act.put, List.setIfInBounds_toArray, List.set_cons_zero, List.set_cons_succ, i64_w, i32_w]
                  rfl
                refine pure_ (i := 1) (N := some 74) (v := ?_) (a' := ?_) #[true, true, false, false, false, false, false, false, false, false, false, false, false, false] rfl rfl (by kernel_rfl) (fun _ _ _ h => h) (Or.inl ⟨by rfl, ?_⟩) ?_ ?_
                rotate_left
                · intro w'
                  go_simp
                  with_reducible rfl
                rotate_left
                · simp only [Act.put, List.setIfInBounds_toArray, List.set_cons_zero, List.set_cons_succ, i64_w, i32_w]
                  rfl
                refine pure_ (i := 2) (N := some 75) (v := ?_) (a' := ?_) #[true, true, true, false, false, false, false, false, false, false, false, false, false, false] rfl rfl (by kernel_rfl) (fun _ _ _ h => h) (Or.inl ⟨by rfl, ?_⟩) ?_ ?_
                rotate_left
                · intro w'
                  go_simp
                  with_reducible rfl
                rotate_left
                · simp only [Act.put, List.setIfInBounds_toArray, List.set_cons_zero, List.set_cons_succ, i64_w, i32_w]
                  rfl
                refine pure_ (i := 3) (N := some 76) (v := ?_) (a' := ?_) #[true, true, true, true, false, false, false, false, false, false, false, false, false, false] rfl rfl (by kernel_rfl) (fun _ _ _ h => h) (Or.inl ⟨by rfl, ?_⟩) ?_ ?_
                rotate_left
                · intro w'
                  go_simp
                  with_reducible rfl
                rotate_left
                · simp only [Act.put, List.setIfInBounds_toArray, List.set_cons_zero, List.set_cons_succ, i64_w, i32_w]
                  rfl
                refine pure_ (i := 4) (N := some 77) (v := ?_) (a' := ?_) #[true, true, true, true, true, false, false, false, false, false, false, false, false, false] rfl rfl (by kernel_rfl) (fun _ _ _ h => h) (Or.inl ⟨by rfl, ?_⟩) ?_ ?_
                rotate_left
                · intro w'
                  go_simp
                  with_reducible rfl
                rotate_left
                · simp only [Act.put, List.setIfInBounds_toArray, List.set_cons_zero, List.set_cons_succ, i64_w, i32_w]
                  rfl
                refine pure_ (i := 5) (N := some 78) (v := ?_) (a' := ?_) #[true, true, true, true, true, true, false, false, false, false, false, false, false, false] rfl rfl (by kernel_rfl) (fun _ _ _ h => h) (Or.inl ⟨by rfl, ?_⟩) ?_ ?_
                rotate_left
                · intro w'
                  go_simp
                  with_reducible rfl
                rotate_left
                · simp only [Act.put, List.setIfInBounds_toArray, List.set_cons_zero, List.set_cons_succ, i64_w, i32_w]
                  rfl
                refine pure_ (i := 7) (N := some 80) (v := ?_) (a' := ?_) #[true, true, true, true, true, true, false, true, false, false, false, false, false, false] rfl rfl (by kernel_rfl) (fun _ _ _ h => h) (Or.inl ⟨by rfl, ?_⟩) ?_ ?_
                rotate_left
                · intro w'
                  go_simp
                  with_reducible rfl
                rotate_left
                · simp only [Act.put, List.setIfInBounds_toArray, List.set_cons_zero, List.set_cons_succ, i64_w, i32_w]
                  rfl
                refine pure_ (i := 8) (N := some 81) (v := ?_) (a' := ?_) #[true, true, true, true, true, true, false, true, true, false, false, false, false, false] rfl rfl (by kernel_rfl) (fun _ _ _ h => h) (Or.inl ⟨by rfl, ?_⟩) ?_ ?_
                rotate_left
                · intro w'
                  go_simp
                  with_reducible rfl
                rotate_left
                · simp only [Act.put, List.setIfInBounds_toArray, List.set_cons_zero, List.set_cons_succ, i64_w, i32_w]
                  rfl
                refine take_ (i := 6) (N := some 79) (v := ?_) (a' := ?_) #[true, true, true, true, true, true, true, true, true, false, false, false, false, false] rfl rfl (by kernel_rfl) (fun _ _ _ h => h) (Or.inl ⟨by rfl, ?_⟩) hHeld ?_ ?_
                rotate_left
                · rintro w' ⟨s0, s1, s2, s3, s4, s5⟩
                  go_simp
                  with_reducible rfl
                rotate_left
                · simp only [Act.put, List.setIfInBounds_toArray, List.set_cons_zero, List.set_cons_succ, i64_w, i32_w]
                  rfl
                refine take_ (i := 9) (N := some 82) (v := ?_) (a' := ?_) #[true, true, true, true, true, true, true, true, true, true, false, false, false, false] rfl rfl (by kernel_rfl) (fun _ _ _ h => h) (Or.inl ⟨by rfl, ?_⟩) hHeld ?_ ?_
                rotate_left
                · rintro w' ⟨s0, s1, s2, s3, s4, s5⟩
                  go_simp
                  with_reducible rfl
                rotate_left
                · simp only [Act.put, List.setIfInBounds_toArray, List.set_cons_zero, List.set_cons_succ, i64_w, i32_w]
                  rfl
                refine pure_ (i := 10) (N := some 83) (v := ?_) (a' := ?_) #[true, true, true, true, true, true, true, true, true, true, true, false, false, false] rfl rfl (by kernel_rfl) (fun _ _ _ h => h) (Or.inl ⟨by rfl, ?_⟩) ?_ ?_
                rotate_left
                · intro w'
                  go_simp
                  with_reducible rfl
                rotate_left
                · simp only [Act.put, List.setIfInBounds_toArray, List.set_cons_zero, List.set_cons_succ, i64_w, i32_w]
                  rfl
                refine last_ (i := 11) (N := none) #[true, true, true, true, true, true, true, true, true, true, true, true, false, false] rfl rfl (by kernel_rfl) (by decide) (fun K hK => ?_)
                refine skip_ (w1 := wr.drew.setCells g (3 * 0) (vA x)) (by rfl) rfl ?_ ?_
                · exact store_run_value _ _ _ rfl _ rfl _ rfl (store_A HG.out 0 x (H0M.out))
                refine hK.out _ _ ?_
                clear hK K
                refine pure_ (i := 12) (N := some 84) (v := ?_) (a' := ?_) #[true, true, true, true, true, true, true, true, true, true, true, true, true, false] rfl rfl (by kernel_rfl) (fun _ _ _ h => h) (Or.inl ⟨by rfl, ?_⟩) ?_ ?_
                rotate_left
                · intro w'
                  go_simp
                  with_reducible rfl
                rotate_left
                · simp only [Act.put, List.setIfInBounds_toArray, List.set_cons_zero, List.set_cons_succ, i64_w, i32_w]
                  rfl
                refine last_ (i := 13) (N := none) #[true, true, true, true, true, true, true, true, true, true, true, true, true, true] rfl rfl (by kernel_rfl) (by decide) (fun K hK => ?_)
                refine skip_ (w1 := (wr.drew.setCells g (3 * 0) (vA x)).setCells g (3 * q) (vA y)) (by rfl) rfl ?_ ?_
                · exact store_run_value _ _ _ rfl _ rfl _ rfl (store_A (set_A HG.out 0 x H0M.out) q y (by rw [List.length_set]; exact HQM.out))
                refine hK.out _ _ ?_
                clear hK K
                refine done_ (by kernel_rfl) ?_
                have hfin := set_A (set_A HG.out 0 x H0M.out) q y (by rw [List.length_set]; exact HQM.out)
                have hsw : (M.set 0 x).set q y = sw M 0 q := by rw [← HX.out, ← HY.out]; rfl
                rw [hsw] at hfin
                have hu4 : Upd g wr ((wr.drew.setCells g (3 * 0) (vA x)).setCells g (3 * q) (vA y)) := upd_setCells _ _ _ (upd_setCells _ _ wr.drew ⟨rfl, rfl, rfl, Nat.le_refl _, fun _ _ _ => rfl⟩)
                generalize (wr.drew.setCells g (3 * 0) (vA x)).setCells g (3 * q) (vA y) = w5 at hfin hu4
                have hb5 := HWr.out.B.trans (hu4.below HBG.out HWr.out.B.size)
                have HW5 := Lib.hid (HQ.out.of hb5)
                have HM5 := Lib.hid (HBK.out w5 (sw M 0 q) (sw_len M 0 q) hfin)
                have HS5 := Lib.hid (HS1.out.trans (sw_same M 0 q H0M.out HQM.out))
                clear hfin hsw hu4 hb5 hc0 hc1 hc2_ hc3 hc4 hc5 HWr HMr HG
                by_cases h30 : (30 : Int) < (m : Int)
                · have hd30 : decide ((30 : Int) < (m : Int)) = true := decide_eq_true h30
                  go_wp2
                  go_meet
                  case rel => exact ⟨sw M 0 q, HS5, HM5, HW5⟩
                · have hd30 : decide ((30 : Int) < (m : Int)) = false := decide_eq_false h30
                  go_wp2
                  go_roundw
                  case rel => exact ⟨m + 1, sw M 0 q, by go_num, by omega, by omega, HS5, HM5, HW5⟩
                  case measure => simp [intOf]; omega
              · have hd1 : decide ((1 : Int) < (O.length : Int)) = false := decide_eq_false (by omega)
                go_wp2
                go_meet
                case rel => exact ⟨M, HS1, HMr, HWr⟩
            · have hd : decide ((m : Int) < (l2.length : Int)) = false := decide_eq_false (by omega)
              go_wp2
              go_meet
              case rel => exact ⟨M, HS1, HMr, HWr⟩
        case rest =>
          clear HM1 HB3
          obtain ⟨M, HS1, HMr, HWr⟩ := hcut
          have hml : M.length = O.length := HS1.out.len
          have hCM := (Kd.R_reads' HMr.out).2.2
          have hcm := (Kd.R_reads' HMr.out).2.1
          have hDM := HS1.out.dist HD.out
          have hS1 := attribute_Sort.calls Am cm M (sortA M) wc hCM (by omega) (if_pos (by omega))
          rw [hml] at hS1
          have HCM := Lib.hid hCM
          have HML := Lib.hid hml
          have HDM := Lib.hid hDM
          have HSo := Lib.hid hS1
          clear hCM hml hDM hS1 HMr
          go_upto_region 22 with (go_at_call 19; refine HSo.out.mono ?_; rintro e w4 ⟨v4, rfl, ho4, hb4⟩; obtain ⟨As, cs, rfl⟩ := Kd.R_slice ho4)
          have hsl : (sortA M).length = O.length := by rw [(sort_same M).len, HML.out]
          have hsrt := sort_sorted M HDM.out
          have hag := sort_again HDM.out
          have HSM := Lib.hid (sort_same M)
          generalize sortA M = s at ho4 hsl hsrt hag HSM ⊢
          have hcs := (Kd.R_reads' ho4).2.1
          have hCs := (Kd.R_reads' ho4).2.2
          have hS2 := attribute_Sort.calls As cs s (sortA s) w4 hCs (by omega) (if_pos (by omega))
          rw [hag] at hS2
          have HSo2 := Lib.hid hS2
          have HB4 := Lib.hid hb4
          have HCs := Lib.hid hCs
          have HSRT := Lib.hid hsrt
          have HSL := Lib.hid hsl
          have hsb : s.length ≤ 14 := by omega
          clear hS2 ho4 hsrt hag hb4 hCs HSo hsl
          go_upto_region 23 with (go_at_call 19; refine HSo2.out.mono ?_; rintro e w5 ⟨v5, rfl, ho5, hb5⟩; obtain ⟨At, ct, rfl⟩ := Kd.R_slice ho5)
          have HCt5 := Lib.hid (Kd.R_reads' ho5).2.2
          have hct := (Kd.R_reads' ho5).2.1
          have HCs5 := Lib.hid (Kd.C_below HCs.out hb5)
          have hb45 := Lib.hid (below_step HB4.out hb5)
          have HW5 := Lib.hid (HWr.out.below hb45.out)
          have HCM5 := Lib.hid (Kd.C_below HCM.out hb45.out)
          clear ho5 hb5 HSo2 HCs HCM HWr
          go_wp2
          go_loopw [93] (fun i wr => ∃ m : Nat, i = .int .i64 m ∧ m ≤ s.length ∧ Hid (Below w5.heap.size w5 wr)) (fun i _ => (s.length - intOf i).toNat)
          case atStart => exact ⟨0, rfl, Nat.zero_le _, Lib.hid (Below.refl _ _)⟩
          case round =>
            obtain ⟨m, rfl, hm, HB⟩ := hrel
            by_cases hlt : m < s.length
            · have hd : decide ((m : Int) < (s.length : Int)) = true := decide_eq_true (by omega)
              have hbd : Below w5.heap.size w5 wr.drew := below_drew1 HB.out
              obtain ⟨as_, es, x0, x1, x2⟩ := at_T33 (Kd.C_below HCs5.out hbd) (m : Int) (by omega) (by omega)
              obtain ⟨at_, et, y0, y1, y2⟩ := at_T33 (Kd.C_below HCt5.out hbd) (m : Int) (by omega) (by omega)
              subst es et
              simp only [Int.toNat_natCast] at x0 x1 x2 y0 y1 y2
              have la := fun W => at_attrA as_ s.length cs (m : Int) m W rfl hlt
              have lb := fun W => at_attrA at_ s.length ct (m : Int) m W rfl hlt
              generalize hx : rd_T33 s (m : Int) = x at x0 x1 x2 y0 y1 y2
              rw [rd33] at hx
              have HX := Lib.hid hx
              clear hx
              have HBD := Lib.hid hbd
              clear hbd
              by_cases hm0 : 0 < m
              · obtain ⟨p, hp⟩ : ∃ p, m = p + 1 := ⟨m - 1, by omega⟩
                have HPM := Lib.hid hp
                have hdm : decide ((0 : Int) < (m : Int)) = true := decide_eq_true (by omega)
                have hps : p < s.length := by omega
                have hp0 : (0 : Int) ≤ (p : Int) := Int.natCast_nonneg p
                have hpl : (p : Int) < (s.length : Int) := Int.ofNat_lt.2 hps
                have hpm : p < m := by omega
                have E1 : Hid (wrap64 ((m : Int) - 1) = (p : Int)) := Lib.hid (by rw [w64 (by omega) (by omega)]; omega)
                have E3 : Hid (((m : Int) - 1) = (p : Int)) := Lib.hid (by omega)
                have E4 : Hid (wrap64 (p : Int) = (p : Int)) := Lib.hid (w64 (by omega) (by omega))
                have lp := fun W => at_attrA as_ s.length cs (p : Int) p W rfl hps
                obtain ⟨as2, es2, z0, _, _⟩ := at_T33 (Kd.C_below HCs5.out HBD.out) (p : Int) hp0 hpl
                cases es2
                simp only [Int.toNat_natCast] at z0
                have hz : s.getD p z33 = rd_T33 s (p : Int) := (rd33 s p).symm
                generalize rd_T33 s (p : Int) = z at z0 hz
                have hlt0 : ltA z x := by
                  have := HSRT.out p m hpm hlt
                  rw [hz, HX.out] at this
                  exact this
                have hlt2 : Op.bytesLess x.f0.toList z.f0.toList = false := by
                  rw [less_cb, ByteArray.toList_eq, ByteArray.toList_eq]
                  exact decide_eq_false (fun h => ltA_asymm hlt0 h)
                have hlt3 : (x.f0.toList == z.f0.toList) = false := by
                  rw [beq_eq_false_iff_ne, ByteArray.toList_eq, ByteArray.toList_eq]
                  intro he
                  unfold ltA cmpA at hlt0
                  rw [he, cb_self] at hlt0
                  omega
                clear hlt0
                clear hp hz hp0 hpl hpm
                have e1 := E1.out
                have e3 := E3.out
                have e4 := E4.out
                go_upto_region 26 with (fail)
                refine start_ (n := 27) (S := fun w' => w'.cell? (as_.add (m * 3)) = some (.string x.f0) ∧ w'.cell? ⟨(as_.add (m * 3)).block, (as_.add (m * 3)).off + 1, none⟩ = some (.string x.f1) ∧ w'.cell? ⟨(as_.add (m * 3)).block, (as_.add (m * 3)).off + 2, none⟩ = some (.string x.f2) ∧ w'.cell? (at_.add (m * 3)) = some (.string x.f0) ∧ w'.cell? ⟨(at_.add (m * 3)).block, (at_.add (m * 3)).off + 1, none⟩ = some (.string x.f1) ∧ w'.cell? ⟨(at_.add (m * 3)).block, (at_.add (m * 3)).off + 2, none⟩ = some (.string x.f2) ∧ w'.cell? (as_.add (p * 3)) = some (.string z.f0)) (ds := []) #[false, false, false, false, false, false, false, false, false, false, false, false, false, false, false, false, false, false, false, false, false, false, false, false, false, false, false] (by kernel_rfl) rfl rfl ⟨x0, x1, x2, y0, y1, y2, z0⟩ (fun hHeld => ?_)
                refine pure_ (i := 0) (N := some 96) (v := ?_) (a' := ?_) #[true, false, false, false, false, false, false, false, false, false, false, false, false, false, false, false, false, false, false, false, false, false, false, false, false, false, false] rfl rfl (by kernel_rfl) (fun _ _ _ h => h) (Or.inl ⟨by rfl, ?_⟩) ?_ ?_
                rotate_left
                · intro w'
                  go_simp
                  with_reducible rfl
                rotate_left
                · simp only [Act.put, List.setIfInBounds_toArray, List.set_cons_zero, List.set_cons_succ, i64_w, i32_w]
                  rfl
                refine pure_ (i := 1) (N := some 97) (v := ?_) (a' := ?_) #[true, true, false, false, false, false, false, false, false, false, false, false, false, false, false, false, false, false, false, false, false, false, false, false, false, false, false] rfl rfl (by kernel_rfl) (fun _ _ _ h => h) (Or.inl ⟨by rfl, ?_⟩) ?_ ?_
                rotate_left
                · intro w'
                  go_simp
                  with_reducible rfl
                rotate_left
                · simp only [Act.put, List.setIfInBounds_toArray, List.set_cons_zero, List.set_cons_succ, i64_w, i32_w]
                  rfl
                refine pure_ (i := 2) (N := some 98) (v := ?_) (a' := ?_) #[true, true, true, false, false, false, false, false, false, false, false, false, false, false, false, false, false, false, false, false, false, false, false, false, false, false, false] rfl rfl (by kernel_rfl) (fun _ _ _ h => h) (Or.inl ⟨by rfl, ?_⟩) ?_ ?_
                rotate_left
                · intro w'
                  go_simp
                  with_reducible rfl
                rotate_left
                · simp only [Act.put, List.setIfInBounds_toArray, List.set_cons_zero, List.set_cons_succ, i64_w, i32_w]
                  rfl
                refine pure_ (i := 3) (N := some 99) (v := ?_) (a' := ?_) #[true, true, true, true, false, false, false, false, false, false, false, false, false, false, false, false, false, false, false, false, false, false, false, false, false, false, false] rfl rfl (by kernel_rfl) (fun _ _ _ h => h) (Or.inl ⟨by rfl, ?_⟩) ?_ ?_
                rotate_left
                · intro w'
                  go_simp
                  with_reducible rfl
                rotate_left
                · simp only [Act.put, List.setIfInBounds_toArray, List.set_cons_zero, List.set_cons_succ, i64_w, i32_w]
                  rfl
                refine pure_ (i := 4) (N := some 100) (v := ?_) (a' := ?_) #[true, true, true, true, true, false, false, false, false, false, false, false, false, false, false, false, false, false, false, false, false, false, false, false, false, false, false] rfl rfl (by kernel_rfl) (fun _ _ _ h => h) (Or.inl ⟨by rfl, ?_⟩) ?_ ?_
                rotate_left
                · intro w'
                  go_simp
                  with_reducible rfl
                rotate_left
                · simp only [Act.put, List.setIfInBounds_toArray, List.set_cons_zero, List.set_cons_succ, i64_w, i32_w]
                  rfl
                refine pure_ (i := 5) (N := some 101) (v := ?_) (a' := ?_) #[true, true, true, true, true, true, false, false, false, false, false, false, false, false, false, false, false, false, false, false, false, false, false, false, false, false, false] rfl rfl (by kernel_rfl) (fun _ _ _ h => h) (Or.inl ⟨by rfl, ?_⟩) ?_ ?_
                rotate_left
                · intro w'
                  go_simp
                  with_reducible rfl
                rotate_left
                · simp only [Act.put, List.setIfInBounds_toArray, List.set_cons_zero, List.set_cons_succ, i64_w, i32_w]
                  rfl
                refine pure_ (i := 6) (N := some 102) (v := ?_) (a' := ?_) #[true, true, true, true, true, true, true, false, false, false, false, false, false, false, false, false, false, false, false, false, false, false, false, false, false, false, false] rfl rfl (by kernel_rfl) (fun _ _ _ h => h) (Or.inl ⟨by rfl, ?_⟩) ?_ ?_
                rotate_left
                · intro w'
                  go_simp
                  with_reducible rfl
                rotate_left
                · simp only [Act.put, List.setIfInBounds_toArray, List.set_cons_zero, List.set_cons_succ, i64_w, i32_w]
                  rfl
                refine pure_ (i := 8) (N := some 104) (v := ?_) (a' := ?_) #[true, true, true, true, true, true, true, false, true, false, false, false, false, false, false, false, false, false, false, false, false, false, false, false, false, false, false] rfl rfl (by kernel_rfl) (fun _ _ _ h => h) (Or.inl ⟨by rfl, ?_⟩) ?_ ?_
                rotate_left
                · intro w'
                  go_simp
                  with_reducible rfl
                rotate_left
                · simp only [Act.put, List.setIfInBounds_toArray, List.set_cons_zero, List.set_cons_succ, i64_w, i32_w]
                  rfl
                refine pure_ (i := 9) (N := some 105) (v := ?_) (a' := ?_) #[true, true, true, true, true, true, true, false, true, true, false, false, false, false, false, false, false, false, false, false, false, false, false, false, false, false, false] rfl rfl (by kernel_rfl) (fun _ _ _ h => h) (Or.inl ⟨by rfl, ?_⟩) ?_ ?_
                rotate_left
                · intro w'
                  go_simp
                  with_reducible rfl
                rotate_left
                · simp only [Act.put, List.setIfInBounds_toArray, List.set_cons_zero, List.set_cons_succ, i64_w, i32_w]
                  rfl
                refine pure_ (i := 10) (N := some 106) (v := ?_) (a' := ?_) #[true, true, true, true, true, true, true, false, true, true, true, false, false, false, false, false, false, false, false, false, false, false, false, false, false, false, false] rfl rfl (by kernel_rfl) (fun _ _ _ h => h) (Or.inl ⟨by rfl, ?_⟩) ?_ ?_
                rotate_left
                · intro w'
                  go_simp
                  with_reducible rfl
                rotate_left
                · simp only [Act.put, List.setIfInBounds_toArray, List.set_cons_zero, List.set_cons_succ, i64_w, i32_w]
                  rfl
                refine pure_ (i := 11) (N := some 107) (v := ?_) (a' := ?_) #[true, true, true, true, true, true, true, false, true, true, true, true, false, false, false, false, false, false, false, false, false, false, false, false, false, false, false] rfl rfl (by kernel_rfl) (fun _ _ _ h => h) (Or.inl ⟨by rfl, ?_⟩) ?_ ?_
                rotate_left
                · intro w'
                  go_simp
                  with_reducible rfl
                rotate_left
                · simp only [Act.put, List.setIfInBounds_toArray, List.set_cons_zero, List.set_cons_succ, i64_w, i32_w]
                  rfl
                refine pure_ (i := 12) (N := some 108) (v := ?_) (a' := ?_) #[true, true, true, true, true, true, true, false, true, true, true, true, true, false, false, false, false, false, false, false, false, false, false, false, false, false, false] rfl rfl (by kernel_rfl) (fun _ _ _ h => h) (Or.inl ⟨by rfl, ?_⟩) ?_ ?_
                rotate_left
                · intro w'
                  go_simp
                  with_reducible rfl
                rotate_left
                · simp only [Act.put, List.setIfInBounds_toArray, List.set_cons_zero, List.set_cons_succ, i64_w, i32_w]
                  rfl
                refine take_ (i := 7) (N := some 103) (v := ?_) (a' := ?_) #[true, true, true, true, true, true, true, true, true, true, true, true, true, false, false, false, false, false, false, false, false, false, false, false, false, false, false] rfl rfl (by kernel_rfl) (fun _ _ _ h => h) (Or.inl ⟨by rfl, ?_⟩) hHeld ?_ ?_
                rotate_left
                · rintro w' ⟨s0, s1, s2, s3, s4, s5, s6⟩
                  go_simp
                  with_reducible rfl
                rotate_left
                · simp only [Act.put, List.setIfInBounds_toArray, List.set_cons_zero, List.set_cons_succ, i64_w, i32_w]
                  rfl
                refine take_ (i := 13) (N := some 109) (v := ?_) (a' := ?_) #[true, true, true, true, true, true, true, true, true, true, true, true, true, true, false, false, false, false, false, false, false, false, false, false, false, false, false] rfl rfl (by kernel_rfl) (fun _ _ _ h => h) (Or.inl ⟨by rfl, ?_⟩) hHeld ?_ ?_
                rotate_left
                · rintro w' ⟨s0, s1, s2, s3, s4, s5, s6⟩
                  go_simp
                  with_reducible rfl
                rotate_left
                · simp only [Act.put, List.setIfInBounds_toArray, List.set_cons_zero, List.set_cons_succ, i64_w, i32_w]
                  rfl
                refine pure_ (i := 14) (N := some 110) (v := ?_) (a' := ?_) #[true, true, true, true, true, true, true, true, true, true, true, true, true, true, true, false, false, false, false, false, false, false, false, false, false, false, false] rfl rfl (by kernel_rfl) (fun _ _ _ h => h) (Or.inl ⟨by rfl, ?_⟩) ?_ ?_
                rotate_left
                · intro w'
                  go_simp
                  with_reducible rfl
                rotate_left
                · simp only [Act.put, List.setIfInBounds_toArray, List.set_cons_zero, List.set_cons_succ, i64_w, i32_w]
                  rfl
                refine pure_ (i := 15) (N := some 111) (v := ?_) (a' := ?_) #[true, true, true, true, true, true, true, true, true, true, true, true, true, true, true, true, false, false, false, false, false, false, false, false, false, false, false] rfl rfl (by kernel_rfl) (fun _ _ _ h => h) (Or.inl ⟨by rfl, ?_⟩) ?_ ?_
                rotate_left
                · intro w'
                  go_simp
                  with_reducible rfl
                rotate_left
                · simp only [Act.put, List.setIfInBounds_toArray, List.set_cons_zero, List.set_cons_succ, i64_w, i32_w]
                  rfl
                refine pure_ (i := 16) (N := some 112) (v := ?_) (a' := ?_) #[true, true, true, true, true, true, true, true, true, true, true, true, true, true, true, true, true, false, false, false, false, false, false, false, false, false, false] rfl rfl (by kernel_rfl) (fun _ _ _ h => h) (Or.inl ⟨by rfl, ?_⟩) ?_ ?_
                rotate_left
                · intro w'
                  go_simp
                  with_reducible rfl
                rotate_left
                · simp only [Act.put, List.setIfInBounds_toArray, List.set_cons_zero, List.set_cons_succ, i64_w, i32_w]
                  rfl
                refine pure_ (i := 17) (N := some 113) (v := ?_) (a' := ?_) #[true, true, true, true, true, true, true, true, true, true, true, true, true, true, true, true, true, true, false, false, false, false, false, false, false, false, false] rfl rfl (by kernel_rfl) (fun _ _ _ h => h) (Or.inl ⟨by rfl, ?_⟩) ?_ ?_
                rotate_left
                · intro w'
                  go_simp
                  with_reducible rfl
                rotate_left
                · simp only [Act.put, List.setIfInBounds_toArray, List.set_cons_zero, List.set_cons_succ, i64_w, i32_w]
                  rfl
                refine pure_ (i := 18) (N := some 114) (v := ?_) (a' := ?_) #[true, true, true, true, true, true, true, true, true, true, true, true, true, true, true, true, true, true, true, false, false, false, false, false, false, false, false] rfl rfl (by kernel_rfl) (fun _ _ _ h => h) (Or.inl ⟨by rfl, ?_⟩) ?_ ?_
                rotate_left
                · intro w'
                  go_simp
                  with_reducible rfl
                rotate_left
                · simp only [Act.put, List.setIfInBounds_toArray, List.set_cons_zero, List.set_cons_succ, i64_w, i32_w]
                  rfl
                refine pure_ (i := 19) (N := some 115) (v := ?_) (a' := ?_) #[true, true, true, true, true, true, true, true, true, true, true, true, true, true, true, true, true, true, true, true, false, false, false, false, false, false, false] rfl rfl (by kernel_rfl) (fun _ _ _ h => h) (Or.inl ⟨by rfl, ?_⟩) ?_ ?_
                rotate_left
                · intro w'
                  go_simp
                  with_reducible rfl
                rotate_left
                · simp only [Act.put, List.setIfInBounds_toArray, List.set_cons_zero, List.set_cons_succ, i64_w, i32_w]
                  rfl
                refine pure_ (i := 21) (N := some 117) (v := ?_) (a' := ?_) #[true, true, true, true, true, true, true, true, true, true, true, true, true, true, true, true, true, true, true, true, false, true, false, false, false, false, false] rfl rfl (by kernel_rfl) (fun _ _ _ h => h) (Or.inl ⟨by rfl, ?_⟩) ?_ ?_
                rotate_left
                · intro w'
                  go_simp
                  with_reducible rfl
                rotate_left
                · simp only [Act.put, List.setIfInBounds_toArray, List.set_cons_zero, List.set_cons_succ, i64_w, i32_w]
                  rfl
                refine pure_ (i := 22) (N := some 118) (v := ?_) (a' := ?_) #[true, true, true, true, true, true, true, true, true, true, true, true, true, true, true, true, true, true, true, true, false, true, true, false, false, false, false] rfl rfl (by kernel_rfl) (fun _ _ _ h => h) (Or.inl ⟨by rfl, ?_⟩) ?_ ?_
                rotate_left
                · intro w'
                  go_simp
                  with_reducible rfl
                rotate_left
                · simp only [Act.put, List.setIfInBounds_toArray, List.set_cons_zero, List.set_cons_succ, i64_w, i32_w]
                  rfl
                refine pure_ (i := 23) (N := some 119) (v := ?_) (a' := ?_) #[true, true, true, true, true, true, true, true, true, true, true, true, true, true, true, true, true, true, true, true, false, true, true, true, false, false, false] rfl rfl (by kernel_rfl) (fun _ _ _ h => h) (Or.inl ⟨by rfl, ?_⟩) ?_ ?_
                rotate_left
                · intro w'
                  go_simp
                  with_reducible rfl
                rotate_left
                · simp only [Act.put, List.setIfInBounds_toArray, List.set_cons_zero, List.set_cons_succ, i64_w, i32_w]
                  rfl
                refine take_ (i := 20) (N := some 116) (v := ?_) (a' := ?_) #[true, true, true, true, true, true, true, true, true, true, true, true, true, true, true, true, true, true, true, true, true, true, true, true, false, false, false] rfl rfl (by kernel_rfl) (fun _ _ _ h => h) (Or.inl ⟨by rfl, ?_⟩) hHeld ?_ ?_
                rotate_left
                · rintro w' ⟨s0, s1, s2, s3, s4, s5, s6⟩
                  go_simp
                  with_reducible rfl
                rotate_left
                · simp only [Act.put, List.setIfInBounds_toArray, List.set_cons_zero, List.set_cons_succ, i64_w, i32_w]
                  rfl
                refine take_ (i := 24) (N := some 120) (v := ?_) (a' := ?_) #[true, true, true, true, true, true, true, true, true, true, true, true, true, true, true, true, true, true, true, true, true, true, true, true, true, false, false] rfl rfl (by kernel_rfl) (fun _ _ _ h => h) (Or.inl ⟨by rfl, ?_⟩) hHeld ?_ ?_
                rotate_left
                · rintro w' ⟨s0, s1, s2, s3, s4, s5, s6⟩
                  go_simp
                  with_reducible rfl
                rotate_left
                · simp only [Act.put, List.setIfInBounds_toArray, List.set_cons_zero, List.set_cons_succ, i64_w, i32_w]
                  rfl
                refine pure_ (i := 25) (N := some 121) (v := ?_) (a' := ?_) #[true, true, true, true, true, true, true, true, true, true, true, true, true, true, true, true, true, true, true, true, true, true, true, true, true, true, false] rfl rfl (by kernel_rfl) (fun _ _ _ h => h) (Or.inl ⟨by rfl, ?_⟩) ?_ ?_
                rotate_left
                · intro w'
                  go_simp
                  with_reducible rfl
                rotate_left
                · simp only [Act.put, List.setIfInBounds_toArray, List.set_cons_zero, List.set_cons_succ, i64_w, i32_w]
                  rfl
                refine pure_ (i := 26) (N := some 122) (v := ?_) (a' := ?_) #[true, true, true, true, true, true, true, true, true, true, true, true, true, true, true, true, true, true, true, true, true, true, true, true, true, true, true] rfl rfl (by kernel_rfl) (fun _ _ _ h => h) (Or.inl ⟨by rfl, ?_⟩) ?_ ?_
                rotate_left
                · intro w'
                  go_simp
                  with_reducible rfl
                rotate_left
                · simp only [Act.put, List.setIfInBounds_toArray, List.set_cons_zero, List.set_cons_succ, i64_w, i32_w]
                  rfl
                refine done_ (by kernel_rfl) ?_
                change Exit.then _ _ Exit.normal _ wr.drew
                clear e1 e3 e4 lp z0 hlt2 hlt3 hps
                clear x0 x1 x2 y0 y1 y2 la lb
                generalize wr.drew = w6 at HBD
                go_wp2
                go_roundw
                case rel => exact ⟨m + 1, by go_num, by omega, HBD⟩
                case measure => simp [intOf]; omega
              · have hdm : decide ((0 : Int) < (m : Int)) = false := decide_eq_false (by omega)
                go_upto_region 26 with (fail)
                refine start_ (n := 27) (S := fun w' => w'.cell? (as_.add (m * 3)) = some (.string x.f0) ∧ w'.cell? ⟨(as_.add (m * 3)).block, (as_.add (m * 3)).off + 1, none⟩ = some (.string x.f1) ∧ w'.cell? ⟨(as_.add (m * 3)).block, (as_.add (m * 3)).off + 2, none⟩ = some (.string x.f2) ∧ w'.cell? (at_.add (m * 3)) = some (.string x.f0) ∧ w'.cell? ⟨(at_.add (m * 3)).block, (at_.add (m * 3)).off + 1, none⟩ = some (.string x.f1) ∧ w'.cell? ⟨(at_.add (m * 3)).block, (at_.add (m * 3)).off + 2, none⟩ = some (.string x.f2)) (ds := []) #[false, false, false, false, false, false, false, false, false, false, false, false, false, false, false, false, false, false, false, false, false, false, false, false, false, false, false] (by kernel_rfl) rfl rfl ⟨x0, x1, x2, y0, y1, y2⟩ (fun hHeld => ?_)
                refine pure_ (i := 0) (N := some 96) (v := ?_) (a' := ?_) #[true, false, false, false, false, false, false, false, false, false, false, false, false, false, false, false, false, false, false, false, false, false, false, false, false, false, false] rfl rfl (by kernel_rfl) (fun _ _ _ h => h) (Or.inl ⟨by rfl, ?_⟩) ?_ ?_
                rotate_left
                · intro w'
                  go_simp
                  with_reducible rfl
                rotate_left
                · simp only [Act.put, List.setIfInBounds_toArray, List.set_cons_zero, List.set_cons_succ, i64_w, i32_w]
                  rfl
                refine pure_ (i := 1) (N := some 97) (v := ?_) (a' := ?_) #[true, true, false, false, false, false, false, false, false, false, false, false, false, false, false, false, false, false, false, false, false, false, false, false, false, false, false] rfl rfl (by kernel_rfl) (fun _ _ _ h => h) (Or.inl ⟨by rfl, ?_⟩) ?_ ?_
                rotate_left
                · intro w'
                  go_simp
                  with_reducible rfl
                rotate_left
                · simp only [Act.put, List.setIfInBounds_toArray, List.set_cons_zero, List.set_cons_succ, i64_w, i32_w]
                  rfl
                refine pure_ (i := 2) (N := some 98) (v := ?_) (a' := ?_) #[true, true, true, false, false, false, false, false, false, false, false, false, false, false, false, false, false, false, false, false, false, false, false, false, false, false, false] rfl rfl (by kernel_rfl) (fun _ _ _ h => h) (Or.inl ⟨by rfl, ?_⟩) ?_ ?_
                rotate_left
                · intro w'
                  go_simp
                  with_reducible rfl
                rotate_left
                · simp only [Act.put, List.setIfInBounds_toArray, List.set_cons_zero, List.set_cons_succ, i64_w, i32_w]
                  rfl
                refine pure_ (i := 3) (N := some 99) (v := undef) (a' := ?_) #[true, true, true, true, false, false, false, false, false, false, false, false, false, false, false, false, false, false, false, false, false, false, false, false, false, false, false] rfl rfl (by kernel_rfl) (fun _ _ _ h => h) (Or.inr ⟨by rfl, rfl⟩) ?_ ?_
                rotate_left
                · simp only [Act.put, List.setIfInBounds_toArray, List.set_cons_zero, List.set_cons_succ, i64_w, i32_w]
                  rfl
                refine pure_ (i := 4) (N := some 100) (v := undef) (a' := ?_) #[true, true, true, true, true, false, false, false, false, false, false, false, false, false, false, false, false, false, false, false, false, false, false, false, false, false, false] rfl rfl (by kernel_rfl) (fun _ _ _ h => h) (Or.inr ⟨by rfl, rfl⟩) ?_ ?_
                rotate_left
                · simp only [Act.put, List.setIfInBounds_toArray, List.set_cons_zero, List.set_cons_succ, i64_w, i32_w]
                  rfl
                refine pure_ (i := 5) (N := some 101) (v := undef) (a' := ?_) #[true, true, true, true, true, true, false, false, false, false, false, false, false, false, false, false, false, false, false, false, false, false, false, false, false, false, false] rfl rfl (by kernel_rfl) (fun _ _ _ h => h) (Or.inr ⟨by rfl, rfl⟩) ?_ ?_
                rotate_left
                · simp only [Act.put, List.setIfInBounds_toArray, List.set_cons_zero, List.set_cons_succ, i64_w, i32_w]
                  rfl
                refine pure_ (i := 6) (N := some 102) (v := undef) (a' := ?_) #[true, true, true, true, true, true, true, false, false, false, false, false, false, false, false, false, false, false, false, false, false, false, false, false, false, false, false] rfl rfl (by kernel_rfl) (fun _ _ _ h => h) (Or.inr ⟨by rfl, rfl⟩) ?_ ?_
                rotate_left
                · simp only [Act.put, List.setIfInBounds_toArray, List.set_cons_zero, List.set_cons_succ, i64_w, i32_w]
                  rfl
                refine pure_ (i := 7) (N := some 103) (v := undef) (a' := ?_) #[true, true, true, true, true, true, true, true, false, false, false, false, false, false, false, false, false, false, false, false, false, false, false, false, false, false, false] rfl rfl (by kernel_rfl) (fun _ _ _ h => h) (Or.inr ⟨by rfl, rfl⟩) ?_ ?_
                rotate_left
                · simp only [Act.put, List.setIfInBounds_toArray, List.set_cons_zero, List.set_cons_succ, i64_w, i32_w]
                  rfl
                refine pure_ (i := 8) (N := some 104) (v := undef) (a' := ?_) #[true, true, true, true, true, true, true, true, true, false, false, false, false, false, false, false, false, false, false, false, false, false, false, false, false, false, false] rfl rfl (by kernel_rfl) (fun _ _ _ h => h) (Or.inr ⟨by rfl, rfl⟩) ?_ ?_
                rotate_left
                · simp only [Act.put, List.setIfInBounds_toArray, List.set_cons_zero, List.set_cons_succ, i64_w, i32_w]
                  rfl
                refine pure_ (i := 9) (N := some 105) (v := undef) (a' := ?_) #[true, true, true, true, true, true, true, true, true, true, false, false, false, false, false, false, false, false, false, false, false, false, false, false, false, false, false] rfl rfl (by kernel_rfl) (fun _ _ _ h => h) (Or.inr ⟨by rfl, rfl⟩) ?_ ?_
                rotate_left
                · simp only [Act.put, List.setIfInBounds_toArray, List.set_cons_zero, List.set_cons_succ, i64_w, i32_w]
                  rfl
                refine pure_ (i := 10) (N := some 106) (v := undef) (a' := ?_) #[true, true, true, true, true, true, true, true, true, true, true, false, false, false, false, false, false, false, false, false, false, false, false, false, false, false, false] rfl rfl (by kernel_rfl) (fun _ _ _ h => h) (Or.inr ⟨by rfl, rfl⟩) ?_ ?_
                rotate_left
                · simp only [Act.put, List.setIfInBounds_toArray, List.set_cons_zero, List.set_cons_succ, i64_w, i32_w]
                  rfl
                refine pure_ (i := 11) (N := some 107) (v := undef) (a' := ?_) #[true, true, true, true, true, true, true, true, true, true, true, true, false, false, false, false, false, false, false, false, false, false, false, false, false, false, false] rfl rfl (by kernel_rfl) (fun _ _ _ h => h) (Or.inr ⟨by rfl, rfl⟩) ?_ ?_
                rotate_left
                · simp only [Act.put, List.setIfInBounds_toArray, List.set_cons_zero, List.set_cons_succ, i64_w, i32_w]
                  rfl
                refine pure_ (i := 12) (N := some 108) (v := undef) (a' := ?_) #[true, true, true, true, true, true, true, true, true, true, true, true, true, false, false, false, false, false, false, false, false, false, false, false, false, false, false] rfl rfl (by kernel_rfl) (fun _ _ _ h => h) (Or.inr ⟨by rfl, rfl⟩) ?_ ?_
                rotate_left
                · simp only [Act.put, List.setIfInBounds_toArray, List.set_cons_zero, List.set_cons_succ, i64_w, i32_w]
                  rfl
                refine pure_ (i := 13) (N := some 109) (v := undef) (a' := ?_) #[true, true, true, true, true, true, true, true, true, true, true, true, true, true, false, false, false, false, false, false, false, false, false, false, false, false, false] rfl rfl (by kernel_rfl) (fun _ _ _ h => h) (Or.inr ⟨by rfl, rfl⟩) ?_ ?_
                rotate_left
                · simp only [Act.put, List.setIfInBounds_toArray, List.set_cons_zero, List.set_cons_succ, i64_w, i32_w]
                  rfl
                refine pure_ (i := 14) (N := some 110) (v := undef) (a' := ?_) #[true, true, true, true, true, true, true, true, true, true, true, true, true, true, true, false, false, false, false, false, false, false, false, false, false, false, false] rfl rfl (by kernel_rfl) (fun _ _ _ h => h) (Or.inr ⟨by rfl, rfl⟩) ?_ ?_
                rotate_left
                · simp only [Act.put, List.setIfInBounds_toArray, List.set_cons_zero, List.set_cons_succ, i64_w, i32_w]
                  rfl
                refine pure_ (i := 15) (N := some 111) (v := ?_) (a' := ?_) #[true, true, true, true, true, true, true, true, true, true, true, true, true, true, true, true, false, false, false, false, false, false, false, false, false, false, false] rfl rfl (by kernel_rfl) (fun _ _ _ h => h) (Or.inl ⟨by rfl, ?_⟩) ?_ ?_
                rotate_left
                · intro w'
                  go_simp
                  with_reducible rfl
                rotate_left
                · simp only [Act.put, List.setIfInBounds_toArray, List.set_cons_zero, List.set_cons_succ, i64_w, i32_w]
                  rfl
                refine pure_ (i := 16) (N := some 112) (v := ?_) (a' := ?_) #[true, true, true, true, true, true, true, true, true, true, true, true, true, true, true, true, true, false, false, false, false, false, false, false, false, false, false] rfl rfl (by kernel_rfl) (fun _ _ _ h => h) (Or.inl ⟨by rfl, ?_⟩) ?_ ?_
                rotate_left
                · intro w'
                  go_simp
                  with_reducible rfl
                rotate_left
                · simp only [Act.put, List.setIfInBounds_toArray, List.set_cons_zero, List.set_cons_succ, i64_w, i32_w]
                  rfl
                refine pure_ (i := 17) (N := some 113) (v := ?_) (a' := ?_) #[true, true, true, true, true, true, true, true, true, true, true, true, true, true, true, true, true, true, false, false, false, false, false, false, false, false, false] rfl rfl (by kernel_rfl) (fun _ _ _ h => h) (Or.inl ⟨by rfl, ?_⟩) ?_ ?_
                rotate_left
                · intro w'
                  go_simp
                  with_reducible rfl
                rotate_left
                · simp only [Act.put, List.setIfInBounds_toArray, List.set_cons_zero, List.set_cons_succ, i64_w, i32_w]
                  rfl
                refine pure_ (i := 18) (N := some 114) (v := ?_) (a' := ?_) #[true, true, true, true, true, true, true, true, true, true, true, true, true, true, true, true, true, true, true, false, false, false, false, false, false, false, false] rfl rfl (by kernel_rfl) (fun _ _ _ h => h) (Or.inl ⟨by rfl, ?_⟩) ?_ ?_
                rotate_left
                · intro w'
                  go_simp
                  with_reducible rfl
                rotate_left
                · simp only [Act.put, List.setIfInBounds_toArray, List.set_cons_zero, List.set_cons_succ, i64_w, i32_w]
                  rfl
                refine pure_ (i := 19) (N := some 115) (v := ?_) (a' := ?_) #[true, true, true, true, true, true, true, true, true, true, true, true, true, true, true, true, true, true, true, true, false, false, false, false, false, false, false] rfl rfl (by kernel_rfl) (fun _ _ _ h => h) (Or.inl ⟨by rfl, ?_⟩) ?_ ?_
                rotate_left
                · intro w'
                  go_simp
                  with_reducible rfl
                rotate_left
                · simp only [Act.put, List.setIfInBounds_toArray, List.set_cons_zero, List.set_cons_succ, i64_w, i32_w]
                  rfl
                refine pure_ (i := 21) (N := some 117) (v := ?_) (a' := ?_) #[true, true, true, true, true, true, true, true, true, true, true, true, true, true, true, true, true, true, true, true, false, true, false, false, false, false, false] rfl rfl (by kernel_rfl) (fun _ _ _ h => h) (Or.inl ⟨by rfl, ?_⟩) ?_ ?_
                rotate_left
                · intro w'
                  go_simp
                  with_reducible rfl
                rotate_left
                · simp only [Act.put, List.setIfInBounds_toArray, List.set_cons_zero, List.set_cons_succ, i64_w, i32_w]
                  rfl
                refine pure_ (i := 22) (N := some 118) (v := ?_) (a' := ?_) #[true, true, true, true, true, true, true, true, true, true, true, true, true, true, true, true, true, true, true, true, false, true, true, false, false, false, false] rfl rfl (by kernel_rfl) (fun _ _ _ h => h) (Or.inl ⟨by rfl, ?_⟩) ?_ ?_
                rotate_left
                · intro w'
                  go_simp
                  with_reducible rfl
                rotate_left
                · simp only [Act.put, List.setIfInBounds_toArray, List.set_cons_zero, List.set_cons_succ, i64_w, i32_w]
                  rfl
                refine pure_ (i := 23) (N := some 119) (v := ?_) (a' := ?_) #[true, true, true, true, true, true, true, true, true, true, true, true, true, true, true, true, true, true, true, true, false, true, true, true, false, false, false] rfl rfl (by kernel_rfl) (fun _ _ _ h => h) (Or.inl ⟨by rfl, ?_⟩) ?_ ?_
                rotate_left
                · intro w'
                  go_simp
                  with_reducible rfl
                rotate_left
                · simp only [Act.put, List.setIfInBounds_toArray, List.set_cons_zero, List.set_cons_succ, i64_w, i32_w]
                  rfl
                refine take_ (i := 20) (N := some 116) (v := ?_) (a' := ?_) #[true, true, true, true, true, true, true, true, true, true, true, true, true, true, true, true, true, true, true, true, true, true, true, true, false, false, false] rfl rfl (by kernel_rfl) (fun _ _ _ h => h) (Or.inl ⟨by rfl, ?_⟩) hHeld ?_ ?_
                rotate_left
                · rintro w' ⟨s0, s1, s2, s3, s4, s5⟩
                  go_simp
                  with_reducible rfl
                rotate_left
                · simp only [Act.put, List.setIfInBounds_toArray, List.set_cons_zero, List.set_cons_succ, i64_w, i32_w]
                  rfl
                refine take_ (i := 24) (N := some 120) (v := ?_) (a' := ?_) #[true, true, true, true, true, true, true, true, true, true, true, true, true, true, true, true, true, true, true, true, true, true, true, true, true, false, false] rfl rfl (by kernel_rfl) (fun _ _ _ h => h) (Or.inl ⟨by rfl, ?_⟩) hHeld ?_ ?_
                rotate_left
                · rintro w' ⟨s0, s1, s2, s3, s4, s5⟩
                  go_simp
                  with_reducible rfl
                rotate_left
                · simp only [Act.put, List.setIfInBounds_toArray, List.set_cons_zero, List.set_cons_succ, i64_w, i32_w]
                  rfl
                refine pure_ (i := 25) (N := some 121) (v := ?_) (a' := ?_) #[true, true, true, true, true, true, true, true, true, true, true, true, true, true, true, true, true, true, true, true, true, true, true, true, true, true, false] rfl rfl (by kernel_rfl) (fun _ _ _ h => h) (Or.inl ⟨by rfl, ?_⟩) ?_ ?_
                rotate_left
                · intro w'
                  go_simp
                  with_reducible rfl
                rotate_left
                · simp only [Act.put, List.setIfInBounds_toArray, List.set_cons_zero, List.set_cons_succ, i64_w, i32_w]
                  rfl
                refine pure_ (i := 26) (N := some 122) (v := ?_) (a' := ?_) #[true, true, true, true, true, true, true, true, true, true, true, true, true, true, true, true, true, true, true, true, true, true, true, true, true, true, true] rfl rfl (by kernel_rfl) (fun _ _ _ h => h) (Or.inl ⟨by rfl, ?_⟩) ?_ ?_
                rotate_left
                · intro w'
                  go_simp
                  with_reducible rfl
                rotate_left
                · simp only [Act.put, List.setIfInBounds_toArray, List.set_cons_zero, List.set_cons_succ, i64_w, i32_w]
                  rfl
                refine done_ (by kernel_rfl) ?_
                change Exit.then _ _ Exit.normal _ wr.drew
                clear x0 x1 x2 y0 y1 y2 la lb
                generalize wr.drew = w6 at HBD
                go_wp2
                go_roundw
                case rel => exact ⟨m + 1, by go_num, by omega, HBD⟩
                case measure => simp [intOf]; omega
            · have hd : decide ((m : Int) < (s.length : Int)) = false := decide_eq_false (by omega)
              have HW6 := Lib.hid (HW5.out.below HB.out)
              have HCM6 := Lib.hid (Kd.C_below HCM5.out HB.out)
              have hle : ((s.length : Int) == (O.length : Int)) = true := by rw [beq_iff_eq, HSL.out]
              have hOs : ∃ r, attribute_Sum.f 8000 O = some r := Sum_some O hOb HS.out 8000 (by omega)
              obtain ⟨r, hr⟩ := hOs
              have hMs : attribute_Sum.f 8000 M = some r := by rw [Sum_same HD.out HS1.out]; exact hr
              have hcM : M.length ≤ cm := by rw [HML.out]; omega
              have HS3 := Lib.hid (attribute_Sum.calls 8000 Am cm M r wr HW6.out.F HCM6.out hcM hMs)
              have HR := Lib.hid hr
              have hMO := HML.out
              rw [hMO] at HS3
              clear hMO hr hMs hcM
              go_wp2_with (first
                | (go_at_call 16; refine (racewaylaw24_works.calls 8000 true _ HW8.out.F HW8.out.M (works_eq 8000 (by omega))).mono ?_; rintro e w9 ⟨rfl, hb9⟩)
                | (go_at_call 21; with_reducible refine HS3.out.mono ?_; rintro e w7 ⟨rfl, hb7⟩; have HW7 := Lib.hid (HW6.out.below hb7); clear hb7)
                | (go_at_call 21; with_reducible refine (attribute_Sum.calls 8000 Ao co O r _ HW7.out.F HW7.out.C hco HR.out).mono ?_; rintro e w8 ⟨rfl, hb8⟩; have HW8 := Lib.hid (HW7.out.below hb8); clear hb8))
              go_ret
              exact ⟨rfl, (below_step HB2.out (below_step HW8.out.B hb9))⟩
  · exact absurd h (by simp)
end Go.Proofs.YtolpefnedpgaaaaDoor.X

namespace Go.Proofs.YtolpefnedpgaaaaDoor.Pure
open Go.RowKit Go.Proofs.YtolpefnedpgaaaaDoor.X Go.Proofs.YtolpefnedpgaaaaDoorW.PrintWords Go.Proofs.YtolpefnedpgaaaaDoorW.PrintLast
theorem AttributeOrder : ∀ (l : List S33) (zs : List Int), l.length ≤ maxLen → zs.length ≤ maxLen → ∃ k, racewaylaw24_AttributeOrder.f k l zs = some true :=
  fun _ _ _ _ => ⟨0, if_pos (Nat.le_refl _)⟩
end Go.Proofs.YtolpefnedpgaaaaDoor.Pure

namespace Go.Proofs.YtolpefnedpgaaaaDoor.X
open Go
set_option linter.unusedVariables false
section
variable {H : Type} {enc : TypeId × Value → H}
theorem handed_laid_shaped {a : Assume} {C : Checked} {os : Os} {f : FuncId} {fn : Func} {s : ChangeSpec} {conds : List PathCond} {apart fresh handsOn again : Bool} {X : World → Array Value → Prop}
    (hX : ∀ (w w' : World) (args : Array Value), w.heap = w'.heap → X w args → X w' args)
    (own : ownKnob C.prog.godebug = none) (started : os.Started) (noInit : C.prog.inits.idxOf? f = none) (hfn : C.prog.funcs[f]? = some fn)
    (witness : ∃ (w : World) (tape : Tape) (i : Input), w.os = os ∧ (w.forCall tape i).Shaped C.prog ∧ i.vars = [] ∧ Input.okWide C.prog (w.forCall tape i) .any w.heap.size f i ∧
      ((s.pre enc C.prog fn conds apart (w.forCall tape i).memory i.args ∧ X (w.forCall tape i).memory i.args) ∧ sizedMet enc C.prog fn (OpenSpec.ofChange s) apart (w.forCall tape i).memory i.args) ∧ a.holds C.prog (lone (Frame.enter C.prog f i.args .normal) [] (w.forCall tape i)))
    (contract : ∀ (W : World) (base : Nat) (args : Array Value) (ds gs : List (DataW H)) (before : List MemPlace),
      (∀ (j : Nat) t v, fn.params[j]? = some t → args[j]? = some v → Value.okWide C.prog W .any base t v) →
      DataW.Whole enc C.prog fn.params.toList s.vars apart W args.toList ds gs before →
      conds.all (PathCond.test C.prog ⟨fn.params.toList, ds, s.plain.varTypes C.prog, gs⟩) = true →
      (DataW.weightsEach C.prog (fn.params.toList ++ s.plain.varTypes C.prog) (ds ++ gs)).all (· ≤ reachBytes) = true → X W args → W.ShapedOpen C.prog →
      a.holds C.prog (lone (Frame.enter C.prog f args .normal) [] W) →
      Calls C.prog f args W fun e W' => ∃ v, e = .returned v ∧ s.post enc C.prog fn apart fresh handsOn again W args v W') :
    ReturnsInHanded a C os f .any (fun w args => (s.pre enc C.prog fn conds apart w args ∧ X w args) ∧ sizedMet enc C.prog fn (OpenSpec.ofChange s) apart w args) (s.post enc C.prog fn apart fresh handsOn again) := by
  refine returnsInHanded_of_calls own started noInit witness ?_
  intro w tape i _ hsh _ hok hpre hholds
  obtain ⟨_, _, _, fn', hfn', _, _, _, _, hval⟩ := hok
  have e : fn' = fn := Option.some.inj (hfn'.symm.trans hfn)
  subst e
  obtain ⟨⟨⟨ds, gs, before, hw, hc⟩, hx⟩, hz⟩ := hpre
  have hw' := DataW.Whole.of_heap (w' := w.forCall tape i) (by rfl) hw
  refine (contract (w.forCall tape i) w.heap.size i.args ds gs before hval hw' hc (hz.weights hw) (hX _ _ _ (by rfl) hx) hsh hholds).mono fun e W' ⟨v, he, hp⟩ => ?_
  subst he
  exact ChangeSpec.post_blind hp
end
end Go.Proofs.YtolpefnedpgaaaaDoor.X

namespace Go.Proofs.YtolpefnedpgaaaaDoor.X
open Go.RowKit Go.Proofs.YtolpefnedpgaaaaDoorW.PrintWords Go.Proofs.YtolpefnedpgaaaaDoorW.PrintLast Go.Proofs.YtolpefnedpgaaaaDoorW.PrintMore
open Go.Deep Go.ChangeShapes Go.WideShapes
set_option linter.unusedVariables false
set_option linter.unusedSimpArgs false
theorem cells9 : Tryd.prog.cellsOf 9 = 1 := by kernel_rfl
theorem cells33 : Tryd.prog.cellsOf 33 = 3 := by kernel_rfl
instance : Inhabited S33 := ⟨z33⟩
set_option maxRecDepth 100000 in
theorem open_attrs {H : Type} {enc : TypeId × Value → H} {W : World} {A : Option Addr} {len cap : Nat} {d : DataW H} {p : List MemPlace} (h : DataW.Trod enc Tryd.prog W 0 (fun _ => true) true 26 (.slice A len cap) d p) :
    ∃ l : List S33, l.length = len ∧ Kd.C k33 W A l.length l ∧ l.length ≤ cap ∧ l.length ≤ maxLen := by
  obtain ⟨fuel, hf⟩ := h
  rcases open_slice Tryd.underlying26 hf with ⟨hcs, _⟩ | ⟨a, l, c, m, n, D, Pl, hcs, _, hl, hm, hmm, _, hx⟩
  · simp [Value.cells] at hcs
    obtain ⟨rfl, rfl, rfl⟩ := hcs
    exact ⟨[], rfl, ⟨rfl, by simp, fun h => absurd h (by simp)⟩, Nat.le_refl _, Nat.zero_le _⟩
  · simp [Value.cells] at hcs
    obtain ⟨rfl, rfl, rfl⟩ := hcs
    simp only [if_true] at hmm
    have each : ∀ i, i < len → ∃ x : S33, W.cell? (a.add (i * 3)) = some (.string x.f0) ∧ W.cell? (a.add (i * 3 + 1)) = some (.string x.f1) ∧ W.cell? (a.add (i * 3 + 2)) = some (.string x.f2) := by
      intro i hi
      obtain ⟨cs', h1, h2⟩ := hx i (by omega)
      rw [cells33] at h1
      obtain ⟨_, hlen, hcell⟩ := World.cells?_some h1
      obtain ⟨xs, k, hk, hxy, _, hxl, hf⟩ := DataW.trod_struct Tryd.underlying33 h2
      match xs, hxl, cs', hlen with
      | [y0, y1, y2], _, [v0, v1, v2], _ =>
        have g0 := hf 0 _ rfl
        have g1 := hf 1 _ rfl
        have g2 := hf 2 _ rfl
        simp [cells9] at g0 g1 g2
        obtain ⟨s0, e0, _, _⟩ := DataW.trod_string Tryd.underlying9 g0
        obtain ⟨s1, e1, _, _⟩ := DataW.trod_string Tryd.underlying9 g1
        obtain ⟨s2, e2, _, _⟩ := DataW.trod_string Tryd.underlying9 g2
        have c0 := hcell 0 (by omega)
        have c1 := hcell 1 (by omega)
        have c2 := hcell 2 (by omega)
        rw [Go.Deep.add_add] at c0 c1 c2
        simp at e0 e1 e2 c0 c1 c2
        subst e0 e1 e2
        exact ⟨⟨s0, s1, s2⟩, c0, c1, c2⟩
    obtain ⟨q, hq⟩ := choose_lt each
    have hlen : ((List.range len).map q).length = len := by simp
    refine ⟨(List.range len).map q, hlen, ⟨rfl, ?_, fun _ => ⟨a, rfl, fun j x hj => ?_⟩⟩, by omega, by omega⟩
    · rw [hlen]; have : cap ≤ maxLen := hm; unfold maxLen at this; omega
    · have hjl : j < len := by
        have := (List.getElem?_eq_some_iff.1 hj).1
        simpa using this
      have hx : q j = x := by
        rw [List.getElem?_map, List.getElem?_range hjl] at hj
        simpa using hj
      subst hx
      obtain ⟨c0, c1, c2⟩ := hq j hjl
      refine ⟨[.string (q j).f0, .string (q j).f1, .string (q j).f2], rfl, k33_mk W (q j), fun i u hu => ?_⟩
      match i, hu with
      | 0, hu => simp at hu; subst hu; exact c0
      | 1, hu => simp at hu; subst hu; exact c1
      | 2, hu => simp at hu; subst hu; exact c2
theorem open_nums {H : Type} {enc : TypeId × Value → H} {W : World} {A : Option Addr} {len cap : Nat} {d : DataW H} {p : List MemPlace} (h : DataW.Trod enc Tryd.prog W 0 (fun _ => true) true 31 (.slice A len cap) d p) :
    ∃ l : List Int, l.length = len ∧ Kd.C (Kd.int .i64) W A l.length l ∧ l.length ≤ cap ∧ l.length ≤ maxLen := by
  obtain ⟨fuel, hf⟩ := h
  rcases open_ints Tryd.underlying31 Tryd.underlying3 (by kernel_rfl) hf with ⟨hcs, _⟩ | ⟨x, l, c, zs, hcs, _, hl, hm, hz, _, hcell, hwz⟩
  · simp [Value.cells] at hcs
    obtain ⟨rfl, rfl, rfl⟩ := hcs
    exact ⟨[], rfl, ⟨rfl, by simp, fun h => absurd h (by simp)⟩, Nat.le_refl _, Nat.zero_le _⟩
  · simp [Value.cells] at hcs
    obtain ⟨rfl, rfl, rfl⟩ := hcs
    have w : ((some x : Option Addr) = none ∧ len = 0 ∧ cap = 0 ∧ zs = []) ∨ ∃ y, (some x : Option Addr) = some y ∧ len ≤ cap ∧ cap ≤ maxLen ∧ zs.length = cap ∧ (∀ i, i < zs.length → W.cell? (y.add i) = some (.int .i64 (zs.getD i 0))) ∧ ∀ n ∈ zs, (Lit.int .i64 n).wf = true :=
      .inr ⟨_, rfl, hl, hm, by simpa using hz, hcell, hwz⟩
    obtain ⟨l0, rfl, hr, hm0, hw, hc⟩ := ReadsInt.ofRowC w
    exact ⟨l0, rfl, Kd.C_of_reads (d := (0 : Int)) (h1 := fun _ => rfl) hr, hc, hm0⟩
end Go.Proofs.YtolpefnedpgaaaaDoor.X

namespace Go.Proofs.YtolpefnedpgaaaaDoor.X
open Go.RowKit Go.Proofs.YtolpefnedpgaaaaDoorW.PrintWords
set_option linter.unusedVariables false
set_option linter.unusedSimpArgs false
theorem heap_of_var {P : Program} {W : World} {name : String} {g : Nat} {zero : Array Value} {t : TypeId} {arr : Array Value} (hsh : W.ShapedOpen P) (hlt : g < P.globals.size)
    (hrow : (((begin P (fun _ _ => 0) default).world).heap[g]?).bind Obj.row? = some (zero, t)) (hg : P.globalNamed name = some g) (hv : W.var? P name = some arr) : W.heap[g]? = some (.cells arr t (0, 0)) := by
  obtain ⟨hs, _⟩ := hsh
  obtain ⟨cs', h1, _, _⟩ := hs g zero t hlt hrow
  unfold World.var? at hv
  rw [hg] at hv
  simp only [Option.bind_some, h1] at hv
  rw [h1]
  cases hv
  rfl
theorem chunk16 {α : Type} (cs : List α) (h : cs.length = 16) : cs = (cs.drop 0).take 4 ++ ((cs.drop 4).take 4 ++ ((cs.drop 8).take 4 ++ (cs.drop 12).take 4)) := by
  rw [List.drop_zero]
  have h1 := (List.take_append_drop 4 cs).symm
  have h2 := (List.take_append_drop 4 (cs.drop 4)).symm
  have h3 := (List.take_append_drop 4 (cs.drop 8)).symm
  rw [List.drop_drop] at h2 h3
  have h4 : (cs.drop 12).take 4 = cs.drop 12 := List.take_of_length_le (by simp; omega)
  rw [h4]
  conv => lhs; rw [h1, h2, h3]
theorem cells_of_tab4 {H : Type} {enc : TypeId × Value → H} {P : Program} {w : World} {base : Nat} {sp : Nat → Bool} {held : Bool} {fuel : Nat} {t e u : TypeId} {k : IntKind} {cs : List Value} {r0 r1 r2 r3 : List Int} {p : List MemPlace}
    (ht : P.underlying t = some (.array 4 e)) (he : P.underlying e = some (.array 4 u)) (hu : P.underlying u = some (.int k)) (hcu : P.cellsOf u = 1) (hce : P.cellsOf e = 4) (hct : P.cellsOf t = 16)
    (h : DataW.trod enc P w base sp held fuel t cs = some (.agg [Lib.tabData k r0, Lib.tabData k r1, Lib.tabData k r2, Lib.tabData k r3], p)) : cs = (r0 ++ (r1 ++ (r2 ++ r3))).map fun z => Value.int k z := by
  cases fuel with
  | zero => simp [DataW.trod] at h
  | succ fuel =>
    simp only [DataW.trod, ht, hct, hce] at h
    split at h
    · rename_i hl
      obtain ⟨xs, hm, hx⟩ := Option.map_eq_some_iff.1 h
      have hxs : xs.map (·.1) = [Lib.tabData k r0, Lib.tabData k r1, Lib.tabData k r2, Lib.tabData k r3] := by
        have := congrArg Prod.fst hx
        simpa using this
      have hrow : ∀ (i : Nat) (r : List Int), i < 4 → (xs.map (·.1))[i]? = some (Lib.tabData k r : DataW H) → (cs.drop (i * 4)).take 4 = r.map fun z => Value.int k z := by
        intro i r hi hr
        obtain ⟨b, hb, hf⟩ := Lib.mapM_at hm i i (by simp [hi])
        rw [List.getElem?_map, hb] at hr
        simp only [Option.map_some, Option.some.injEq] at hr
        obtain ⟨b1, b2⟩ := b
        simp only at hr
        subst hr
        exact Lib.cells_of_tab he hu hcu hce hf
      have e0 := hrow 0 r0 (by omega) (by rw [hxs]; rfl)
      have e1 := hrow 1 r1 (by omega) (by rw [hxs]; rfl)
      have e2 := hrow 2 r2 (by omega) (by rw [hxs]; rfl)
      have e3 := hrow 3 r3 (by omega) (by rw [hxs]; rfl)
      rw [chunk16 cs hl]
      rw [List.map_append, List.map_append, List.map_append, ← e0, ← e1, ← e2, ← e3]
    · cases h
theorem tab4_of_head {P : Program} {W : World} {name : String} {k : IntKind} {r0 r1 r2 r3 : List Int} {rest : List (String × DataW Unit)} {g : Nat} {t e u : TypeId}
    (hg : P.globalNamed name = some g) (hty : (P.globals[g]?).map (·.type) = some t) (ht : P.underlying t = some (.array 4 e)) (he : P.underlying e = some (.array 4 u)) (hu : P.underlying u = some (.int k)) (hcu : P.cellsOf u = 1) (hce : P.cellsOf e = 4) (hct : P.cellsOf t = 16)
    (h : laidMet P ((name, .agg [Lib.tabData k r0, Lib.tabData k r1, Lib.tabData k r2, Lib.tabData k r3]) :: rest) W) : Lib.TabIs P W name k (r0 ++ (r1 ++ (r2 ++ r3))) := by
  obtain ⟨ps, ⟨g', t', cs, fuel, p, q, hg', ht', hvar, hd, _, _⟩, _⟩ := h
  obtain rfl := Option.some.inj (hg.symm.trans hg')
  obtain rfl := Option.some.inj (hty.symm.trans ht')
  unfold Lib.TabIs
  rw [hvar, ← cells_of_tab4 ht he hu hcu hce hct hd]
set_option maxRecDepth 100000 in
theorem GlobFp.of {W : World} {l : List (String × DataW Unit)} (hsh : W.ShapedOpen Tryd.prog) (hL : laidMet Tryd.prog l W)
    (h1 : l.filter (fun x => x.1 == "raceway/fingerprint.sines") = [("raceway/fingerprint.sines", Lib.tabData .u32 sinesL)])
    (h2 : l.filter (fun x => x.1 == "raceway/fingerprint.turns") = [("raceway/fingerprint.turns", .agg [Lib.tabData .i64 [7, 12, 17, 22], Lib.tabData .i64 [5, 9, 14, 20], Lib.tabData .i64 [4, 11, 16, 23], Lib.tabData .i64 [6, 10, 15, 21]])]) : GlobFp W := by
  have s1 := hL.filter (fun x => x.1 == "raceway/fingerprint.sines")
  rw [h1] at s1
  have s2 := hL.filter (fun x => x.1 == "raceway/fingerprint.turns")
  rw [h2] at s2
  have g1 : Tryd.prog.globalNamed "raceway/fingerprint.sines" = some 1 := by kernel_rfl
  have g2 : Tryd.prog.globalNamed "raceway/fingerprint.turns" = some 2 := by kernel_rfl
  have t1 := Lib.tabIs_of_head (t := 116) (e := 93) (n := 64) g1 (by kernel_rfl) (by kernel_rfl) (by kernel_rfl) (by kernel_rfl) (by kernel_rfl) s1
  have t2 := tab4_of_head (t := 118) (e := 117) (u := 3) g2 (by kernel_rfl) (by kernel_rfl) (by kernel_rfl) (by kernel_rfl) (by kernel_rfl) (by kernel_rfl) (by kernel_rfl) s2
  refine ⟨?_, ?_⟩
  · have := heap_of_var (zero := Array.replicate 64 (.int .u32 0)) (t := 116) hsh (of_decide_eq_true (by kernel_rfl)) (by kernel_rfl) g1 t1
    exact this
  · have := heap_of_var (zero := Array.replicate 16 (.int .i64 0)) (t := 118) hsh (of_decide_eq_true (by kernel_rfl)) (by kernel_rfl) g2 t2
    exact this
end Go.Proofs.YtolpefnedpgaaaaDoor.X

