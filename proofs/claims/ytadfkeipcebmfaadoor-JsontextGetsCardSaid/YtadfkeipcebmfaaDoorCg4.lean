/-
  What the claim's law rests on, part 4 of 8: printed walks, externals, plain lemmas; conditions: none of its own.
-/
import Derived.Test.YtadfkeipcebmfaaDoorCg3
namespace Go.Proofs.YtadfkeipcebmfaaDoor.X
open Go.RowKit Go.Proofs.YtadfkeipcebmfaaDoorW.PrintWords Go.Proofs.YtadfkeipcebmfaaDoorW.PrintLast Go.Proofs.YtadfkeipcebmfaaDoorW.PrintMore
attribute [local go_sem] max2_int min2_int max_two min_two max_three min_three max_four min_four   -- for this text's walks alone
set_option linter.unusedVariables false
set_option linter.unusedSimpArgs false

mutual
def jsontext_wrong.j0 : Nat → Bool → Bool → Int → Int → Int → ByteArray → ByteArray → Option (Bool)
  | 0, _, _, _, _, _, _, _ => none
  | k + 1, x1, x7, x152000, x152001, x152002, x152003, x152004 => if x7 = true then (some true) else (if x152002 > 0 then (jsontext_wrong.j1 k x1 (decide (x152000 < 6)) x152000 x152001 x152002 x152003 x152004) else (jsontext_wrong.j1 k x1 false x152000 x152001 x152002 x152003 x152004))
def jsontext_wrong.j1 : Nat → Bool → Bool → Int → Int → Int → ByteArray → ByteArray → Option (Bool)
  | 0, _, _, _, _, _, _, _ => none
  | k + 1, x1, x30, x152000, x152001, x152002, x152003, x152004 => if x30 = true then (jsontext_wrong.j2 k x30 x152000 x152001 x152002 x152003 x152004) else (if x152003.toList = ([] : List UInt8) then ((utf8_ValidString.f x152003).bind fun t152 => (jsontext_wrong.j2 k (!t152) x152000 x152001 x152002 x152003 x152004)) else (if x1 = true then ((utf8_ValidString.f x152003).bind fun t153 => (jsontext_wrong.j2 k (!t153) x152000 x152001 x152002 x152003 x152004)) else (jsontext_wrong.j2 k (!x1) x152000 x152001 x152002 x152003 x152004)))
def jsontext_wrong.j2 : Nat → Bool → Int → Int → Int → ByteArray → ByteArray → Option (Bool)
  | 0, _, _, _, _, _, _ => none
  | k + 1, x30, x152000, x152001, x152002, x152003, x152004 => if x30 = true then (some true) else (if x152000 = 4 then (if (x152004.size : Int) > 65536 then (some true) else ((jsontext_number.f x152004).bind fun t154 => (some (!t154)))) else (if x152000 = 5 then ((utf8_ValidString.f x152004).bind fun t155 => (some (!t155))) else (some (x152004.toList != ([] : List UInt8)))))
end
def jsontext_wrong.f (k : Nat) (a0_0 : Int) (a0_1 : Int) (a0_2 : Int) (a0_3 : ByteArray) (a0_4 : ByteArray) (a1 : Bool) (a2 : Int) : Option (Bool) := if a0_0 < 1 then (jsontext_wrong.j0 k a1 true a0_0 a0_1 a0_2 a0_3 a0_4) else (if a0_0 > 7 then (jsontext_wrong.j0 k a1 true a0_0 a0_1 a0_2 a0_3 a0_4) else (if a0_1 < 1 then (jsontext_wrong.j0 k a1 true a0_0 a0_1 a0_2 a0_3 a0_4) else (if a0_2 < 0 then (jsontext_wrong.j0 k a1 true a0_0 a0_1 a0_2 a0_3 a0_4) else (jsontext_wrong.j0 k a1 (decide (a2 ≥ 32)) a0_0 a0_1 a0_2 a0_3 a0_4))))
set_option maxHeartbeats 8000000 in
set_option maxRecDepth 100000 in
theorem jsontext_wrong.calls (k : Nat) (a0_0 : Int) (a0_1 : Int) (a0_2 : Int) (a0_3 : ByteArray) (a0_4 : ByteArray) (a1 : Bool) (a2 : Int) (r : Bool) (w : World) (hGU8 : GlobU8 w) (h : jsontext_wrong.f k a0_0 a0_1 a0_2 a0_3 a0_4 a1 a2 = some r) :
    Calls Tryd.prog 63 #[.agg #[.int .i64 a0_0, .int .i64 a0_1, .int .i64 a0_2, .string a0_3, .string a0_4], .bool a1, .int .i64 a2] w fun e w' => e = .returned (.bool r) ∧ Below w.heap.size w w' := by
  have hu46 := Tryd.underlying46
  have HGU8 := Aside0.mk hGU8
  clear hGU8
  have HB := Aside0.mk (Below.refl w.heap.size w)
  have H : (if a0_0 < 1 then (jsontext_wrong.j0 k a1 true a0_0 a0_1 a0_2 a0_3 a0_4) else (if a0_0 > 7 then (jsontext_wrong.j0 k a1 true a0_0 a0_1 a0_2 a0_3 a0_4) else (if a0_1 < 1 then (jsontext_wrong.j0 k a1 true a0_0 a0_1 a0_2 a0_3 a0_4) else (if a0_2 < 0 then (jsontext_wrong.j0 k a1 true a0_0 a0_1 a0_2 a0_3 a0_4) else (jsontext_wrong.j0 k a1 (decide (a2 ≥ 32)) a0_0 a0_1 a0_2 a0_3 a0_4))))) = some r := h
  clear h
  have HC4 := Aside0.mk H
  clear H
  go_enter Tryd.func63, Tryd.ntmps63
  go_upto_region 1 with (first | ((with_reducible refine gate_dst (N := 3) rfl ?_); refine box_event ?hg (N := 3) ?hd (cs := #[.int .i64 a0_0, .int .i64 a0_1, .int .i64 a0_2, .string a0_3, .string a0_4]) (t := 46) ?hr ?_; (case hd => rfl); (case hg => rfl); (case hr => first | (go_simp; done) | (go_simp; rfl)); intro gb151 hg w5 hbox hb; have n0_ := Aside0.mk (below_step (by repeat (first | (with_reducible first | exact HB.out | apply below_alloc | apply pw_below_drewN | apply below_drew1) | exact HB.out)) hb); have n1_ := Aside0.mk (hbox); have n2_ := Aside0.mk ((by rw [hg]; exact (below_size (by repeat (first | (with_reducible first | exact HB.out | apply below_alloc | apply pw_below_drewN | apply below_drew1) | exact HB.out))) : w.heap.size ≤ gb151)); have n3_ := Aside0.mk ((by rw [hg]; exact (below_size (by repeat (first | (with_reducible first | exact HB.out | apply below_alloc | apply pw_below_drewN | apply below_drew1) | exact HB.out))) : w.heap.size ≤ gb151)); clear HB; have HB := n0_; have BK151 := n1_; have GW151 := n2_; have GE151 := n3_; clear n0_ n1_ n2_ n3_; clear hb hbox hg))
  (try simp only [Act.put, List.setIfInBounds_toArray, List.set_cons_zero, List.set_cons_succ])
  go_cut [7] (fun v7 wc => ∃ (kq : Nat) (x7_3 : Bool), v7 = .bool x7_3 ∧ Aside0 (jsontext_wrong.j0 kq a1 x7_3 a0_0 a0_1 a0_2 a0_3 a0_4 = some r) ∧ Aside0 (kq ≤ k) ∧ Aside0 (wc.heap[gb151]? = some (.cells #[.int .i64 a0_0, .int .i64 a0_1, .int .i64 a0_2, .string a0_3, .string a0_4] 46 (0, 0))) ∧ Aside0 (Below w.heap.size w wc))
  case first =>
    have H := HC4.out
    clear HC4
    by_cases c6 : a0_0 < 1
    · rw [if_pos c6] at H
      have c6b0 : decide (a0_0 < 1) = true := decide_eq_true c6
      clear c6
      (first | rw [c6b0] | (simp only [i64_w, i32_w]; rw [c6b0]) | skip)
      have H' := Aside0.mk H
      clear H
      have hcz7_0 : w5.cell? ⟨gb151, 0, none⟩ = some (.int .i64 a0_0) := (blk_cell BK151.out 0).trans rfl
      have hcz7_1 : w5.cell? ⟨gb151, 1, none⟩ = some (.int .i64 a0_1) := (blk_cell BK151.out 1).trans rfl
      have hcz7_2 : w5.cell? ⟨gb151, 2, none⟩ = some (.int .i64 a0_2) := (blk_cell BK151.out 2).trans rfl
      have hcz7_3 : w5.cell? ⟨gb151, 3, none⟩ = some (.string a0_3) := (blk_cell BK151.out 3).trans rfl
      have hcz7_4 : w5.cell? ⟨gb151, 4, none⟩ = some (.string a0_4) := (blk_cell BK151.out 4).trans rfl
      have hfz7_0 := blk_frozen BK151.out 0
      have hfz7_1 := blk_frozen BK151.out 1
      have hfz7_2 := blk_frozen BK151.out 2
      have hfz7_3 := blk_frozen BK151.out 3
      have hfz7_4 := blk_frozen BK151.out 4
      go_wp2
      go_meet
      case rel => exact ⟨_, (true), (by first | rfl | (simp; done) | (simp; decide +kernel) | (simp [*]; done)), (by first | exact H' | (subst_vars; exact H')), ⟨by first | omega | exact Nat.le_refl _⟩, ⟨by (with_reducible repeat (first | refine blk_drewN ?_ _ | refine blk_drew ?_ | refine blk_alloc ?_ _)); exact BK151.out⟩, ⟨by repeat (first | (with_reducible first | exact HB.out | apply below_alloc | apply pw_below_drewN | apply below_drew1 | refine below_set ?_ GE151.out) | exact HB.out)⟩⟩
    · rw [if_neg c6] at H
      have c6b0 : decide (a0_0 < 1) = false := decide_eq_false c6
      clear c6
      (first | rw [c6b0] | (simp only [i64_w, i32_w]; rw [c6b0]) | skip)
      by_cases c8 : a0_0 > 7
      · rw [if_pos c8] at H
        have c8b0 : decide (7 < a0_0) = true := decide_eq_true c8
        clear c8
        have H' := Aside0.mk H
        clear H
        have hcz9_0 : w5.cell? ⟨gb151, 0, none⟩ = some (.int .i64 a0_0) := (blk_cell BK151.out 0).trans rfl
        have hcz9_1 : w5.cell? ⟨gb151, 1, none⟩ = some (.int .i64 a0_1) := (blk_cell BK151.out 1).trans rfl
        have hcz9_2 : w5.cell? ⟨gb151, 2, none⟩ = some (.int .i64 a0_2) := (blk_cell BK151.out 2).trans rfl
        have hcz9_3 : w5.cell? ⟨gb151, 3, none⟩ = some (.string a0_3) := (blk_cell BK151.out 3).trans rfl
        have hcz9_4 : w5.cell? ⟨gb151, 4, none⟩ = some (.string a0_4) := (blk_cell BK151.out 4).trans rfl
        have hfz9_0 := blk_frozen BK151.out 0
        have hfz9_1 := blk_frozen BK151.out 1
        have hfz9_2 := blk_frozen BK151.out 2
        have hfz9_3 := blk_frozen BK151.out 3
        have hfz9_4 := blk_frozen BK151.out 4
        go_wp2
        go_meet
        case rel => exact ⟨_, (true), (by first | rfl | (simp; done) | (simp; decide +kernel) | (simp [*]; done)), (by first | exact H' | (subst_vars; exact H')), ⟨by first | omega | exact Nat.le_refl _⟩, ⟨by (with_reducible repeat (first | refine blk_drewN ?_ _ | refine blk_drew ?_ | refine blk_alloc ?_ _)); exact BK151.out⟩, ⟨by repeat (first | (with_reducible first | exact HB.out | apply below_alloc | apply pw_below_drewN | apply below_drew1 | refine below_set ?_ GE151.out) | exact HB.out)⟩⟩
      · rw [if_neg c8] at H
        have c8b0 : decide (7 < a0_0) = false := decide_eq_false c8
        clear c8
        by_cases c10 : a0_1 < 1
        · rw [if_pos c10] at H
          have c10b0 : decide (a0_1 < 1) = true := decide_eq_true c10
          clear c10
          have H' := Aside0.mk H
          clear H
          have hcz11_0 : w5.cell? ⟨gb151, 0, none⟩ = some (.int .i64 a0_0) := (blk_cell BK151.out 0).trans rfl
          have hcz11_1 : w5.cell? ⟨gb151, 1, none⟩ = some (.int .i64 a0_1) := (blk_cell BK151.out 1).trans rfl
          have hcz11_2 : w5.cell? ⟨gb151, 2, none⟩ = some (.int .i64 a0_2) := (blk_cell BK151.out 2).trans rfl
          have hcz11_3 : w5.cell? ⟨gb151, 3, none⟩ = some (.string a0_3) := (blk_cell BK151.out 3).trans rfl
          have hcz11_4 : w5.cell? ⟨gb151, 4, none⟩ = some (.string a0_4) := (blk_cell BK151.out 4).trans rfl
          have hfz11_0 := blk_frozen BK151.out 0
          have hfz11_1 := blk_frozen BK151.out 1
          have hfz11_2 := blk_frozen BK151.out 2
          have hfz11_3 := blk_frozen BK151.out 3
          have hfz11_4 := blk_frozen BK151.out 4
          go_wp2
          go_meet
          case rel => exact ⟨_, (true), (by first | rfl | (simp; done) | (simp; decide +kernel) | (simp [*]; done)), (by first | exact H' | (subst_vars; exact H')), ⟨by first | omega | exact Nat.le_refl _⟩, ⟨by (with_reducible repeat (first | refine blk_drewN ?_ _ | refine blk_drew ?_ | refine blk_alloc ?_ _)); exact BK151.out⟩, ⟨by repeat (first | (with_reducible first | exact HB.out | apply below_alloc | apply pw_below_drewN | apply below_drew1 | refine below_set ?_ GE151.out) | exact HB.out)⟩⟩
        · rw [if_neg c10] at H
          have c10b0 : decide (a0_1 < 1) = false := decide_eq_false c10
          clear c10
          by_cases c12 : a0_2 < 0
          · rw [if_pos c12] at H
            have c12b0 : decide (a0_2 < 0) = true := decide_eq_true c12
            clear c12
            have H' := Aside0.mk H
            clear H
            have hcz13_0 : w5.cell? ⟨gb151, 0, none⟩ = some (.int .i64 a0_0) := (blk_cell BK151.out 0).trans rfl
            have hcz13_1 : w5.cell? ⟨gb151, 1, none⟩ = some (.int .i64 a0_1) := (blk_cell BK151.out 1).trans rfl
            have hcz13_2 : w5.cell? ⟨gb151, 2, none⟩ = some (.int .i64 a0_2) := (blk_cell BK151.out 2).trans rfl
            have hcz13_3 : w5.cell? ⟨gb151, 3, none⟩ = some (.string a0_3) := (blk_cell BK151.out 3).trans rfl
            have hcz13_4 : w5.cell? ⟨gb151, 4, none⟩ = some (.string a0_4) := (blk_cell BK151.out 4).trans rfl
            have hfz13_0 := blk_frozen BK151.out 0
            have hfz13_1 := blk_frozen BK151.out 1
            have hfz13_2 := blk_frozen BK151.out 2
            have hfz13_3 := blk_frozen BK151.out 3
            have hfz13_4 := blk_frozen BK151.out 4
            go_wp2
            go_meet
            case rel => exact ⟨_, (true), (by first | rfl | (simp; done) | (simp; decide +kernel) | (simp [*]; done)), (by first | exact H' | (subst_vars; exact H')), ⟨by first | omega | exact Nat.le_refl _⟩, ⟨by (with_reducible repeat (first | refine blk_drewN ?_ _ | refine blk_drew ?_ | refine blk_alloc ?_ _)); exact BK151.out⟩, ⟨by repeat (first | (with_reducible first | exact HB.out | apply below_alloc | apply pw_below_drewN | apply below_drew1 | refine below_set ?_ GE151.out) | exact HB.out)⟩⟩
          · rw [if_neg c12] at H
            have c12b0 : decide (a0_2 < 0) = false := decide_eq_false c12
            clear c12
            have H' := Aside0.mk H
            clear H
            have hcz14_0 : w5.cell? ⟨gb151, 0, none⟩ = some (.int .i64 a0_0) := (blk_cell BK151.out 0).trans rfl
            have hcz14_1 : w5.cell? ⟨gb151, 1, none⟩ = some (.int .i64 a0_1) := (blk_cell BK151.out 1).trans rfl
            have hcz14_2 : w5.cell? ⟨gb151, 2, none⟩ = some (.int .i64 a0_2) := (blk_cell BK151.out 2).trans rfl
            have hcz14_3 : w5.cell? ⟨gb151, 3, none⟩ = some (.string a0_3) := (blk_cell BK151.out 3).trans rfl
            have hcz14_4 : w5.cell? ⟨gb151, 4, none⟩ = some (.string a0_4) := (blk_cell BK151.out 4).trans rfl
            have hfz14_0 := blk_frozen BK151.out 0
            have hfz14_1 := blk_frozen BK151.out 1
            have hfz14_2 := blk_frozen BK151.out 2
            have hfz14_3 := blk_frozen BK151.out 3
            have hfz14_4 := blk_frozen BK151.out 4
            go_wp2
            go_meet
            case rel => exact ⟨_, (decide (a2 ≥ 32)), (by first | rfl | (simp; done) | (simp; decide +kernel) | (simp [*]; done)), (by first | exact H' | (subst_vars; exact H')), ⟨by first | omega | exact Nat.le_refl _⟩, ⟨by (with_reducible repeat (first | refine blk_drewN ?_ _ | refine blk_drew ?_ | refine blk_alloc ?_ _)); exact BK151.out⟩, ⟨by repeat (first | (with_reducible first | exact HB.out | apply below_alloc | apply pw_below_drewN | apply below_drew1 | refine below_set ?_ GE151.out) | exact HB.out)⟩⟩
  case rest =>
    clear HC4
    try clear c1
    try clear p2
    try clear c6
    try clear c6b0
    try clear c8
    try clear c8b0
    try clear c10
    try clear c10b0
    try clear c12
    try clear c12b0
    try clear hcz11_0
    try clear hcz11_1
    try clear hcz11_2
    try clear hcz11_3
    try clear hcz11_4
    try clear hcz13_0
    try clear hcz13_1
    try clear hcz13_2
    try clear hcz13_3
    try clear hcz13_4
    try clear hcz14_0
    try clear hcz14_1
    try clear hcz14_2
    try clear hcz14_3
    try clear hcz14_4
    try clear hcz7_0
    try clear hcz7_1
    try clear hcz7_2
    try clear hcz7_3
    try clear hcz7_4
    try clear hcz9_0
    try clear hcz9_1
    try clear hcz9_2
    try clear hcz9_3
    try clear hcz9_4
    try clear hfz11_0
    try clear hfz11_1
    try clear hfz11_2
    try clear hfz11_3
    try clear hfz11_4
    try clear hfz13_0
    try clear hfz13_1
    try clear hfz13_2
    try clear hfz13_3
    try clear hfz13_4
    try clear hfz14_0
    try clear hfz14_1
    try clear hfz14_2
    try clear hfz14_3
    try clear hfz14_4
    try clear hfz7_0
    try clear hfz7_1
    try clear hfz7_2
    try clear hfz7_3
    try clear hfz7_4
    try clear hfz9_0
    try clear hfz9_1
    try clear hfz9_2
    try clear hfz9_3
    try clear hfz9_4
    obtain ⟨kq, x7_3, rfl, HA, HJ3, BK151, HB⟩ := hcut
    cases kq with
    | zero => exact absurd HA.out (by simp [jsontext_wrong.j0])
    | succ kj3 =>
      have H := HA.out
      clear HA
      simp only [jsontext_wrong.j0] at H
      by_cases c15 : x7_3 = true
      · subst c15
        have H1 : (some true) = some r := by rw [if_pos rfl] at H; exact H
        clear H
        have H := H1
        clear H1
        obtain rfl := Option.some.inj H
        go_wp2
        go_ret
        exact ⟨by first | rfl | (simp [errW_none, errW_some] <;> rfl) | (simp [*, errW_none, errW_some] <;> rfl) | (simp [errW_none, errW_some, show ∀ l : List UInt8, (l != []) = !l.isEmpty from fun l => by cases l <;> rfl]), by repeat (first | (with_reducible first | exact HB.out | apply below_alloc | apply pw_below_drewN | apply below_drew1 | refine below_set ?_ GE151.out) | exact HB.out)⟩
      · replace c15 := Bool.eq_false_iff.mpr c15
        subst c15
        have H1 : (if a0_2 > 0 then (jsontext_wrong.j1 kj3 a1 (decide (a0_0 < 6)) a0_0 a0_1 a0_2 a0_3 a0_4) else (jsontext_wrong.j1 kj3 a1 false a0_0 a0_1 a0_2 a0_3 a0_4)) = some r := by rw [if_neg (show ¬ (false = true) by decide)] at H; exact H
        clear H
        have H := H1
        clear H1
        have HC16 := Aside0.mk H
        clear H
        go_upto_region 3 with (fail)
        go_cut [30] (fun v30 wc => ∃ (kq : Nat) (x30_15 : Bool), v30 = .bool x30_15 ∧ Aside0 (jsontext_wrong.j1 kq a1 x30_15 a0_0 a0_1 a0_2 a0_3 a0_4 = some r) ∧ Aside0 (kq ≤ kj3) ∧ Aside0 (wc.heap[gb151]? = some (.cells #[.int .i64 a0_0, .int .i64 a0_1, .int .i64 a0_2, .string a0_3, .string a0_4] 46 (0, 0))) ∧ Aside0 (Below w.heap.size w wc))
        case first =>
          have H := HC16.out
          clear HC16
          by_cases c17 : a0_2 > 0
          · rw [if_pos c17] at H
            have c17b0 : decide (0 < a0_2) = true := decide_eq_true c17
            clear c17
            (first | rw [c17b0] | (simp only [i64_w, i32_w]; rw [c17b0]) | skip)
            have H' := Aside0.mk H
            clear H
            have hcz18_0 : wc.cell? ⟨gb151, 0, none⟩ = some (.int .i64 a0_0) := (blk_cell BK151.out 0).trans rfl
            have hcz18_1 : wc.cell? ⟨gb151, 1, none⟩ = some (.int .i64 a0_1) := (blk_cell BK151.out 1).trans rfl
            have hcz18_2 : wc.cell? ⟨gb151, 2, none⟩ = some (.int .i64 a0_2) := (blk_cell BK151.out 2).trans rfl
            have hcz18_3 : wc.cell? ⟨gb151, 3, none⟩ = some (.string a0_3) := (blk_cell BK151.out 3).trans rfl
            have hcz18_4 : wc.cell? ⟨gb151, 4, none⟩ = some (.string a0_4) := (blk_cell BK151.out 4).trans rfl
            have hfz18_0 := blk_frozen BK151.out 0
            have hfz18_1 := blk_frozen BK151.out 1
            have hfz18_2 := blk_frozen BK151.out 2
            have hfz18_3 := blk_frozen BK151.out 3
            have hfz18_4 := blk_frozen BK151.out 4
            go_wp2
            go_meet
            case rel => exact ⟨_, (decide (a0_0 < 6)), (by first | rfl | (simp; done) | (simp; decide +kernel) | (simp [*]; done)), (by first | exact H' | (subst_vars; exact H')), ⟨by have := HJ3.out; first | omega | exact Nat.le_refl _⟩, ⟨by (with_reducible repeat (first | refine blk_drewN ?_ _ | refine blk_drew ?_ | refine blk_alloc ?_ _)); exact BK151.out⟩, ⟨by repeat (first | (with_reducible first | exact HB.out | apply below_alloc | apply pw_below_drewN | apply below_drew1 | refine below_set ?_ GE151.out) | exact HB.out)⟩⟩
          · rw [if_neg c17] at H
            have c17b0 : decide (0 < a0_2) = false := decide_eq_false c17
            clear c17
            (first | rw [c17b0] | (simp only [i64_w, i32_w]; rw [c17b0]) | skip)
            have H' := Aside0.mk H
            clear H
            have hcz19_0 : wc.cell? ⟨gb151, 0, none⟩ = some (.int .i64 a0_0) := (blk_cell BK151.out 0).trans rfl
            have hcz19_1 : wc.cell? ⟨gb151, 1, none⟩ = some (.int .i64 a0_1) := (blk_cell BK151.out 1).trans rfl
            have hcz19_2 : wc.cell? ⟨gb151, 2, none⟩ = some (.int .i64 a0_2) := (blk_cell BK151.out 2).trans rfl
            have hcz19_3 : wc.cell? ⟨gb151, 3, none⟩ = some (.string a0_3) := (blk_cell BK151.out 3).trans rfl
            have hcz19_4 : wc.cell? ⟨gb151, 4, none⟩ = some (.string a0_4) := (blk_cell BK151.out 4).trans rfl
            have hfz19_0 := blk_frozen BK151.out 0
            have hfz19_1 := blk_frozen BK151.out 1
            have hfz19_2 := blk_frozen BK151.out 2
            have hfz19_3 := blk_frozen BK151.out 3
            have hfz19_4 := blk_frozen BK151.out 4
            go_wp2
            go_meet
            case rel => exact ⟨_, (false), (by first | rfl | (simp; done) | (simp; decide +kernel) | (simp [*]; done)), (by first | exact H' | (subst_vars; exact H')), ⟨by have := HJ3.out; first | omega | exact Nat.le_refl _⟩, ⟨by (with_reducible repeat (first | refine blk_drewN ?_ _ | refine blk_drew ?_ | refine blk_alloc ?_ _)); exact BK151.out⟩, ⟨by repeat (first | (with_reducible first | exact HB.out | apply below_alloc | apply pw_below_drewN | apply below_drew1 | refine below_set ?_ GE151.out) | exact HB.out)⟩⟩
        case rest =>
          clear HC16
          try clear c1
          try clear p2
          try clear c6
          try clear c6b0
          try clear c8
          try clear c8b0
          try clear c10
          try clear c10b0
          try clear c12
          try clear c12b0
          try clear c15
          try clear c17
          try clear c17b0
          try clear hcz11_0
          try clear hcz11_1
          try clear hcz11_2
          try clear hcz11_3
          try clear hcz11_4
          try clear hcz13_0
          try clear hcz13_1
          try clear hcz13_2
          try clear hcz13_3
          try clear hcz13_4
          try clear hcz14_0
          try clear hcz14_1
          try clear hcz14_2
          try clear hcz14_3
          try clear hcz14_4
          try clear hcz18_0
          try clear hcz18_1
          try clear hcz18_2
          try clear hcz18_3
          try clear hcz18_4
          try clear hcz19_0
          try clear hcz19_1
          try clear hcz19_2
          try clear hcz19_3
          try clear hcz19_4
          try clear hcz7_0
          try clear hcz7_1
          try clear hcz7_2
          try clear hcz7_3
          try clear hcz7_4
          try clear hcz9_0
          try clear hcz9_1
          try clear hcz9_2
          try clear hcz9_3
          try clear hcz9_4
          try clear hfz11_0
          try clear hfz11_1
          try clear hfz11_2
          try clear hfz11_3
          try clear hfz11_4
          try clear hfz13_0
          try clear hfz13_1
          try clear hfz13_2
          try clear hfz13_3
          try clear hfz13_4
          try clear hfz14_0
          try clear hfz14_1
          try clear hfz14_2
          try clear hfz14_3
          try clear hfz14_4
          try clear hfz18_0
          try clear hfz18_1
          try clear hfz18_2
          try clear hfz18_3
          try clear hfz18_4
          try clear hfz19_0
          try clear hfz19_1
          try clear hfz19_2
          try clear hfz19_3
          try clear hfz19_4
          try clear hfz7_0
          try clear hfz7_1
          try clear hfz7_2
          try clear hfz7_3
          try clear hfz7_4
          try clear hfz9_0
          try clear hfz9_1
          try clear hfz9_2
          try clear hfz9_3
          try clear hfz9_4
          try clear p2
          obtain ⟨kq, x30_15, rfl, HA, HJ15, BK151, HB⟩ := hcut
          cases kq with
          | zero => exact absurd HA.out (by simp [jsontext_wrong.j1])
          | succ kj15 =>
            have H := HA.out
            clear HA
            simp only [jsontext_wrong.j1] at H
            have HC20 := Aside0.mk H
            clear H
            go_upto_if 30 with (fail)
            go_cut [30] (fun v30 wc => ∃ (kq : Nat) (x30_19 : Bool), v30 = .bool x30_19 ∧ Aside0 (jsontext_wrong.j2 kq x30_19 a0_0 a0_1 a0_2 a0_3 a0_4 = some r) ∧ Aside0 (kq ≤ kj15) ∧ Aside0 (wc.heap[gb151]? = some (.cells #[.int .i64 a0_0, .int .i64 a0_1, .int .i64 a0_2, .string a0_3, .string a0_4] 46 (0, 0))) ∧ Aside0 (Below w.heap.size w wc))
            case first =>
              have H := HC20.out
              clear HC20
              by_cases c21 : x30_15 = true
              · subst c21
                have H1 : (jsontext_wrong.j2 kj15 true a0_0 a0_1 a0_2 a0_3 a0_4) = some r := by rw [if_pos rfl] at H; exact H
                clear H
                have H := H1
                clear H1
                have H' := Aside0.mk H
                clear H
                go_wp2
                go_meet
                case rel => exact ⟨_, (true), (by first | rfl | (simp; done) | (simp; decide +kernel) | (simp [*]; done)), (by first | exact H' | (subst_vars; exact H')), ⟨by have := HJ3.out; have := HJ15.out; first | omega | exact Nat.le_refl _⟩, ⟨by (with_reducible repeat (first | refine blk_drewN ?_ _ | refine blk_drew ?_ | refine blk_alloc ?_ _)); exact BK151.out⟩, ⟨by repeat (first | (with_reducible first | exact HB.out | apply below_alloc | apply pw_below_drewN | apply below_drew1 | refine below_set ?_ GE151.out) | exact HB.out)⟩⟩
              · replace c21 := Bool.eq_false_iff.mpr c21
                subst c21
                have H1 : (if a0_3.toList = ([] : List UInt8) then ((utf8_ValidString.f a0_3).bind fun t152 => (jsontext_wrong.j2 kj15 (!t152) a0_0 a0_1 a0_2 a0_3 a0_4)) else (if a1 = true then ((utf8_ValidString.f a0_3).bind fun t153 => (jsontext_wrong.j2 kj15 (!t153) a0_0 a0_1 a0_2 a0_3 a0_4)) else (jsontext_wrong.j2 kj15 (!a1) a0_0 a0_1 a0_2 a0_3 a0_4))) = some r := by rw [if_neg (show ¬ (false = true) by decide)] at H; exact H
                clear H
                have H := H1
                clear H1
                by_cases c22 : a0_3.toList = ([] : List UInt8)
                · rw [if_pos c22] at H
                  have c22b0 : (a0_3.toList == ([] : List UInt8)) = true := beq_iff_eq.mpr c22
                  have c22b1 : (a0_3.toList != ([] : List UInt8)) = false := bne_eq_false_iff_eq.mpr c22
                  clear c22
                  (first | rw [c22b0] | (simp only [i64_w, i32_w]; rw [c22b0]) | skip)
                  replace H := Option.bind_eq_some_iff.mp H
                  obtain ⟨t152, A230, H⟩ := H
                  replace H : (jsontext_wrong.j2 kj15 (!t152) a0_0 a0_1 a0_2 a0_3 a0_4) = some r := H
                  have A23 := Aside0.mk A230
                  clear A230
                  have H' := Aside0.mk H
                  clear H
                  have hcz24_0 : wc.cell? ⟨gb151, 0, none⟩ = some (.int .i64 a0_0) := (blk_cell BK151.out 0).trans rfl
                  have hcz24_1 : wc.cell? ⟨gb151, 1, none⟩ = some (.int .i64 a0_1) := (blk_cell BK151.out 1).trans rfl
                  have hcz24_2 : wc.cell? ⟨gb151, 2, none⟩ = some (.int .i64 a0_2) := (blk_cell BK151.out 2).trans rfl
                  have hcz24_3 : wc.cell? ⟨gb151, 3, none⟩ = some (.string a0_3) := (blk_cell BK151.out 3).trans rfl
                  have hcz24_4 : wc.cell? ⟨gb151, 4, none⟩ = some (.string a0_4) := (blk_cell BK151.out 4).trans rfl
                  have hfz24_0 := blk_frozen BK151.out 0
                  have hfz24_1 := blk_frozen BK151.out 1
                  have hfz24_2 := blk_frozen BK151.out 2
                  have hfz24_3 := blk_frozen BK151.out 3
                  have hfz24_4 := blk_frozen BK151.out 4
                  go_wp2_with (first | ((with_reducible refine gate_callee (f := 64) rfl ?_); refine goesL_ (some 48) rfl rfl Tryd.func64 (by kernel_rfl) rfl #[.string a0_3] rfl (by (try simp only [List.map_toArray, List.map_cons, List.map_nil]); first | done | rfl | (simp only [List.length_drop, List.length_take]; rfl)) ?_; (with_reducible refine (utf8_ValidString.calls a0_3 t152 _ ?side1 A23.out).mono ?_); (case side1 => first | exact HGU8.out | exact GlobU8.below HGU8.out (by repeat (first | (with_reducible first | exact HB.out | apply below_alloc | apply pw_below_drewN | apply below_drew1 | refine below_set ?_ GE151.out) | exact HB.out)) | exact GlobU8.drawn HGU8.out (by repeat (first | exact Drawn0.refl _ | apply Drawn0.step))); rintro e w25 ⟨rfl, hb⟩; refine ⟨_, rfl, ?_⟩; have n0_ := Aside0.mk (blk_below (g := gb151) (o := .cells #[.int .i64 a0_0, .int .i64 a0_1, .int .i64 a0_2, .string a0_3, .string a0_4] 46 (0, 0)) (by (with_reducible repeat (first | refine blk_drewN ?_ _ | refine blk_drew ?_ | refine blk_alloc ?_ _)); exact BK151.out) hb); have n1_ := Aside0.mk (below_step (by repeat (first | (with_reducible first | exact HB.out | apply below_alloc | apply pw_below_drewN | apply below_drew1 | refine below_set ?_ GE151.out) | exact HB.out)) hb); clear BK151; clear HB; have BK151 := n0_; have HB := n1_; clear n0_ n1_; (try clear hb); (try clear hb2); (try clear hk); (try clear hi)))
                  go_meet
                  case rel => exact ⟨_, (!t152), (by first | rfl | (simp; done) | (simp; decide +kernel) | (simp [*]; done)), (by first | exact H' | (subst_vars; exact H')), ⟨by have := HJ3.out; have := HJ15.out; first | omega | exact Nat.le_refl _⟩, ⟨by (with_reducible repeat (first | refine blk_drewN ?_ _ | refine blk_drew ?_ | refine blk_alloc ?_ _)); exact BK151.out⟩, ⟨by repeat (first | (with_reducible first | exact HB.out | apply below_alloc | apply pw_below_drewN | apply below_drew1 | refine below_set ?_ GE151.out) | exact HB.out)⟩⟩
                · rw [if_neg c22] at H
                  have c22b0 : (a0_3.toList == ([] : List UInt8)) = false := beq_eq_false_iff_ne.mpr c22
                  have c22b1 : (a0_3.toList != ([] : List UInt8)) = true := bne_iff_ne.mpr c22
                  (first | rw [c22b0] | (simp only [i64_w, i32_w]; rw [c22b0]) | skip)
                  by_cases c26 : a1 = true
                  · subst c26
                    have H1 : ((utf8_ValidString.f a0_3).bind fun t153 => (jsontext_wrong.j2 kj15 (!t153) a0_0 a0_1 a0_2 a0_3 a0_4)) = some r := by rw [if_pos rfl] at H; exact H
                    clear H
                    have H := H1
                    clear H1
                    replace H := Option.bind_eq_some_iff.mp H
                    obtain ⟨t153, A270, H⟩ := H
                    replace H : (jsontext_wrong.j2 kj15 (!t153) a0_0 a0_1 a0_2 a0_3 a0_4) = some r := H
                    have A27 := Aside0.mk A270
                    clear A270
                    have H' := Aside0.mk H
                    clear H
                    have hcz28_0 : wc.cell? ⟨gb151, 0, none⟩ = some (.int .i64 a0_0) := (blk_cell BK151.out 0).trans rfl
                    have hcz28_1 : wc.cell? ⟨gb151, 1, none⟩ = some (.int .i64 a0_1) := (blk_cell BK151.out 1).trans rfl
                    have hcz28_2 : wc.cell? ⟨gb151, 2, none⟩ = some (.int .i64 a0_2) := (blk_cell BK151.out 2).trans rfl
                    have hcz28_3 : wc.cell? ⟨gb151, 3, none⟩ = some (.string a0_3) := (blk_cell BK151.out 3).trans rfl
                    have hcz28_4 : wc.cell? ⟨gb151, 4, none⟩ = some (.string a0_4) := (blk_cell BK151.out 4).trans rfl
                    have hfz28_0 := blk_frozen BK151.out 0
                    have hfz28_1 := blk_frozen BK151.out 1
                    have hfz28_2 := blk_frozen BK151.out 2
                    have hfz28_3 := blk_frozen BK151.out 3
                    have hfz28_4 := blk_frozen BK151.out 4
                    go_wp2_with (first | ((with_reducible refine gate_callee (f := 64) rfl ?_); refine goesL_ (some 48) rfl rfl Tryd.func64 (by kernel_rfl) rfl #[.string a0_3] rfl (by (try simp only [List.map_toArray, List.map_cons, List.map_nil]); first | done | rfl | (simp only [List.length_drop, List.length_take]; rfl)) ?_; (with_reducible refine (utf8_ValidString.calls a0_3 t153 _ ?side1 A27.out).mono ?_); (case side1 => first | exact HGU8.out | exact GlobU8.below HGU8.out (by repeat (first | (with_reducible first | exact HB.out | apply below_alloc | apply pw_below_drewN | apply below_drew1 | refine below_set ?_ GE151.out) | exact HB.out)) | exact GlobU8.drawn HGU8.out (by repeat (first | exact Drawn0.refl _ | apply Drawn0.step))); rintro e w29 ⟨rfl, hb⟩; refine ⟨_, rfl, ?_⟩; have n0_ := Aside0.mk (blk_below (g := gb151) (o := .cells #[.int .i64 a0_0, .int .i64 a0_1, .int .i64 a0_2, .string a0_3, .string a0_4] 46 (0, 0)) (by (with_reducible repeat (first | refine blk_drewN ?_ _ | refine blk_drew ?_ | refine blk_alloc ?_ _)); exact BK151.out) hb); have n1_ := Aside0.mk (below_step (by repeat (first | (with_reducible first | exact HB.out | apply below_alloc | apply pw_below_drewN | apply below_drew1 | refine below_set ?_ GE151.out) | exact HB.out)) hb); clear BK151; clear HB; have BK151 := n0_; have HB := n1_; clear n0_ n1_; (try clear hb); (try clear hb2); (try clear hk); (try clear hi)))
                    go_meet
                    case rel => exact ⟨_, (!t153), (by first | rfl | (simp; done) | (simp; decide +kernel) | (simp [*]; done)), (by first | exact H' | (subst_vars; exact H')), ⟨by have := HJ3.out; have := HJ15.out; first | omega | exact Nat.le_refl _⟩, ⟨by (with_reducible repeat (first | refine blk_drewN ?_ _ | refine blk_drew ?_ | refine blk_alloc ?_ _)); exact BK151.out⟩, ⟨by repeat (first | (with_reducible first | exact HB.out | apply below_alloc | apply pw_below_drewN | apply below_drew1 | refine below_set ?_ GE151.out) | exact HB.out)⟩⟩
                  · replace c26 := Bool.eq_false_iff.mpr c26
                    subst c26
                    have H1 : (jsontext_wrong.j2 kj15 (!false) a0_0 a0_1 a0_2 a0_3 a0_4) = some r := by rw [if_neg (show ¬ (false = true) by decide)] at H; exact H
                    clear H
                    have H := H1
                    clear H1
                    have H' := Aside0.mk H
                    clear H
                    have hcz30_0 : wc.cell? ⟨gb151, 0, none⟩ = some (.int .i64 a0_0) := (blk_cell BK151.out 0).trans rfl
                    have hcz30_1 : wc.cell? ⟨gb151, 1, none⟩ = some (.int .i64 a0_1) := (blk_cell BK151.out 1).trans rfl
                    have hcz30_2 : wc.cell? ⟨gb151, 2, none⟩ = some (.int .i64 a0_2) := (blk_cell BK151.out 2).trans rfl
                    have hcz30_3 : wc.cell? ⟨gb151, 3, none⟩ = some (.string a0_3) := (blk_cell BK151.out 3).trans rfl
                    have hcz30_4 : wc.cell? ⟨gb151, 4, none⟩ = some (.string a0_4) := (blk_cell BK151.out 4).trans rfl
                    have hfz30_0 := blk_frozen BK151.out 0
                    have hfz30_1 := blk_frozen BK151.out 1
                    have hfz30_2 := blk_frozen BK151.out 2
                    have hfz30_3 := blk_frozen BK151.out 3
                    have hfz30_4 := blk_frozen BK151.out 4
                    go_wp2
                    go_meet
                    case rel => exact ⟨_, (!false), (by first | rfl | (simp; done) | (simp; decide +kernel) | (simp [*]; done)), (by first | exact H' | (subst_vars; exact H')), ⟨by have := HJ3.out; have := HJ15.out; first | omega | exact Nat.le_refl _⟩, ⟨by (with_reducible repeat (first | refine blk_drewN ?_ _ | refine blk_drew ?_ | refine blk_alloc ?_ _)); exact BK151.out⟩, ⟨by repeat (first | (with_reducible first | exact HB.out | apply below_alloc | apply pw_below_drewN | apply below_drew1 | refine below_set ?_ GE151.out) | exact HB.out)⟩⟩
            case rest =>
              clear HC20
              try clear c1
              try clear c2
              try clear p2
              try clear c6
              try clear c6b0
              try clear c8
              try clear c8b0
              try clear c10
              try clear c10b0
              try clear c12
              try clear c12b0
              try clear c15
              try clear c17
              try clear c17b0
              try clear c21
              try clear c22
              try clear c22b0
              try clear c22b1
              try clear c26
              try clear hcz11_0
              try clear hcz11_1
              try clear hcz11_2
              try clear hcz11_3
              try clear hcz11_4
              try clear hcz13_0
              try clear hcz13_1
              try clear hcz13_2
              try clear hcz13_3
              try clear hcz13_4
              try clear hcz14_0
              try clear hcz14_1
              try clear hcz14_2
              try clear hcz14_3
              try clear hcz14_4
              try clear hcz18_0
              try clear hcz18_1
              try clear hcz18_2
              try clear hcz18_3
              try clear hcz18_4
              try clear hcz19_0
              try clear hcz19_1
              try clear hcz19_2
              try clear hcz19_3
              try clear hcz19_4
              try clear hcz24_0
              try clear hcz24_1
              try clear hcz24_2
              try clear hcz24_3
              try clear hcz24_4
              try clear hcz28_0
              try clear hcz28_1
              try clear hcz28_2
              try clear hcz28_3
              try clear hcz28_4
              try clear hcz30_0
              try clear hcz30_1
              try clear hcz30_2
              try clear hcz30_3
              try clear hcz30_4
              try clear hcz7_0
              try clear hcz7_1
              try clear hcz7_2
              try clear hcz7_3
              try clear hcz7_4
              try clear hcz9_0
              try clear hcz9_1
              try clear hcz9_2
              try clear hcz9_3
              try clear hcz9_4
              try clear hfz11_0
              try clear hfz11_1
              try clear hfz11_2
              try clear hfz11_3
              try clear hfz11_4
              try clear hfz13_0
              try clear hfz13_1
              try clear hfz13_2
              try clear hfz13_3
              try clear hfz13_4
              try clear hfz14_0
              try clear hfz14_1
              try clear hfz14_2
              try clear hfz14_3
              try clear hfz14_4
              try clear hfz18_0
              try clear hfz18_1
              try clear hfz18_2
              try clear hfz18_3
              try clear hfz18_4
              try clear hfz19_0
              try clear hfz19_1
              try clear hfz19_2
              try clear hfz19_3
              try clear hfz19_4
              try clear hfz24_0
              try clear hfz24_1
              try clear hfz24_2
              try clear hfz24_3
              try clear hfz24_4
              try clear hfz28_0
              try clear hfz28_1
              try clear hfz28_2
              try clear hfz28_3
              try clear hfz28_4
              try clear hfz30_0
              try clear hfz30_1
              try clear hfz30_2
              try clear hfz30_3
              try clear hfz30_4
              try clear hfz7_0
              try clear hfz7_1
              try clear hfz7_2
              try clear hfz7_3
              try clear hfz7_4
              try clear hfz9_0
              try clear hfz9_1
              try clear hfz9_2
              try clear hfz9_3
              try clear hfz9_4
              try clear p2
              obtain ⟨kq, x30_19, rfl, HA, HJ19, BK151, HB⟩ := hcut
              cases kq with
              | zero => exact absurd HA.out (by simp [jsontext_wrong.j2])
              | succ kj19 =>
                have H := HA.out
                clear HA
                simp only [jsontext_wrong.j2] at H
                by_cases c31 : x30_19 = true
                · subst c31
                  have H1 : (some true) = some r := by rw [if_pos rfl] at H; exact H
                  clear H
                  have H := H1
                  clear H1
                  obtain rfl := Option.some.inj H
                  go_wp2
                  go_ret
                  exact ⟨by first | rfl | (simp [errW_none, errW_some] <;> rfl) | (simp [*, errW_none, errW_some] <;> rfl) | (simp [errW_none, errW_some, show ∀ l : List UInt8, (l != []) = !l.isEmpty from fun l => by cases l <;> rfl]), by repeat (first | (with_reducible first | exact HB.out | apply below_alloc | apply pw_below_drewN | apply below_drew1 | refine below_set ?_ GE151.out) | exact HB.out)⟩
                · replace c31 := Bool.eq_false_iff.mpr c31
                  subst c31
                  have H1 : (if a0_0 = 4 then (if (a0_4.size : Int) > 65536 then (some true) else ((jsontext_number.f a0_4).bind fun t154 => (some (!t154)))) else (if a0_0 = 5 then ((utf8_ValidString.f a0_4).bind fun t155 => (some (!t155))) else (some (a0_4.toList != ([] : List UInt8))))) = some r := by rw [if_neg (show ¬ (false = true) by decide)] at H; exact H
                  clear H
                  have H := H1
                  clear H1
                  by_cases c32 : a0_0 = 4
                  · rw [if_pos c32] at H
                    have c32b0 : (a0_0 == 4) = true := beq_iff_eq.mpr c32
                    have c32b1 : (a0_0 != 4) = false := bne_eq_false_iff_eq.mpr c32
                    clear c32
                    by_cases c33 : (a0_4.size : Int) > 65536
                    · rw [if_pos c33] at H
                      have c33b0 : decide (65536 < (a0_4.size : Int)) = true := decide_eq_true c33
                      have c33b1 : decide (65536 < a0_4.size) = true := decide_eq_true (by omega)
                      clear c33
                      obtain rfl := Option.some.inj H
                      have hcz34_0 : wc.cell? ⟨gb151, 0, none⟩ = some (.int .i64 a0_0) := (blk_cell BK151.out 0).trans rfl
                      have hcz34_1 : wc.cell? ⟨gb151, 1, none⟩ = some (.int .i64 a0_1) := (blk_cell BK151.out 1).trans rfl
                      have hcz34_2 : wc.cell? ⟨gb151, 2, none⟩ = some (.int .i64 a0_2) := (blk_cell BK151.out 2).trans rfl
                      have hcz34_3 : wc.cell? ⟨gb151, 3, none⟩ = some (.string a0_3) := (blk_cell BK151.out 3).trans rfl
                      have hcz34_4 : wc.cell? ⟨gb151, 4, none⟩ = some (.string a0_4) := (blk_cell BK151.out 4).trans rfl
                      have hfz34_0 := blk_frozen BK151.out 0
                      have hfz34_1 := blk_frozen BK151.out 1
                      have hfz34_2 := blk_frozen BK151.out 2
                      have hfz34_3 := blk_frozen BK151.out 3
                      have hfz34_4 := blk_frozen BK151.out 4
                      go_wp2
                      go_ret
                      exact ⟨by first | rfl | (simp [errW_none, errW_some] <;> rfl) | (simp [*, errW_none, errW_some] <;> rfl) | (simp [errW_none, errW_some, show ∀ l : List UInt8, (l != []) = !l.isEmpty from fun l => by cases l <;> rfl]), by repeat (first | (with_reducible first | exact HB.out | apply below_alloc | apply pw_below_drewN | apply below_drew1 | refine below_set ?_ GE151.out) | exact HB.out)⟩
                    · rw [if_neg c33] at H
                      have c33b0 : decide (65536 < (a0_4.size : Int)) = false := decide_eq_false c33
                      have c33b1 : decide (65536 < a0_4.size) = false := decide_eq_false (by omega)
                      clear c33
                      replace H := Option.bind_eq_some_iff.mp H
                      obtain ⟨t154, A350, H⟩ := H
                      replace H : (some (!t154)) = some r := H
                      have A35 := Aside0.mk A350
                      clear A350
                      obtain rfl := Option.some.inj H
                      have hcz36_0 : wc.cell? ⟨gb151, 0, none⟩ = some (.int .i64 a0_0) := (blk_cell BK151.out 0).trans rfl
                      have hcz36_1 : wc.cell? ⟨gb151, 1, none⟩ = some (.int .i64 a0_1) := (blk_cell BK151.out 1).trans rfl
                      have hcz36_2 : wc.cell? ⟨gb151, 2, none⟩ = some (.int .i64 a0_2) := (blk_cell BK151.out 2).trans rfl
                      have hcz36_3 : wc.cell? ⟨gb151, 3, none⟩ = some (.string a0_3) := (blk_cell BK151.out 3).trans rfl
                      have hcz36_4 : wc.cell? ⟨gb151, 4, none⟩ = some (.string a0_4) := (blk_cell BK151.out 4).trans rfl
                      have hfz36_0 := blk_frozen BK151.out 0
                      have hfz36_1 := blk_frozen BK151.out 1
                      have hfz36_2 := blk_frozen BK151.out 2
                      have hfz36_3 := blk_frozen BK151.out 3
                      have hfz36_4 := blk_frozen BK151.out 4
                      go_wp2_with (first | (go_at_call 74; (with_reducible refine (jsontext_number.calls a0_4 t154 _ ?side1 A35.out).mono ?_); (case side1 => first | exact HGU8.out | exact GlobU8.below HGU8.out (by repeat (first | (with_reducible first | exact HB.out | apply below_alloc | apply pw_below_drewN | apply below_drew1 | refine below_set ?_ GE151.out) | exact HB.out)) | exact GlobU8.drawn HGU8.out (by repeat (first | exact Drawn0.refl _ | apply Drawn0.step))); rintro e w37 ⟨rfl, hb⟩; have n0_ := Aside0.mk (blk_below (g := gb151) (o := .cells #[.int .i64 a0_0, .int .i64 a0_1, .int .i64 a0_2, .string a0_3, .string a0_4] 46 (0, 0)) (by (with_reducible repeat (first | refine blk_drewN ?_ _ | refine blk_drew ?_ | refine blk_alloc ?_ _)); exact BK151.out) hb); have n1_ := Aside0.mk (below_step (by repeat (first | (with_reducible first | exact HB.out | apply below_alloc | apply pw_below_drewN | apply below_drew1 | refine below_set ?_ GE151.out) | exact HB.out)) hb); clear BK151; clear HB; have BK151 := n0_; have HB := n1_; clear n0_ n1_; (try clear hb); (try clear hb2); (try clear hk); (try clear hi)))
                      go_ret
                      exact ⟨by first | rfl | (simp [errW_none, errW_some] <;> rfl) | (simp [*, errW_none, errW_some] <;> rfl) | (simp [errW_none, errW_some, show ∀ l : List UInt8, (l != []) = !l.isEmpty from fun l => by cases l <;> rfl]), by repeat (first | (with_reducible first | exact HB.out | apply below_alloc | apply pw_below_drewN | apply below_drew1 | refine below_set ?_ GE151.out) | exact HB.out)⟩
                  · rw [if_neg c32] at H
                    have c32b0 : (a0_0 == 4) = false := beq_eq_false_iff_ne.mpr c32
                    have c32b1 : (a0_0 != 4) = true := bne_iff_ne.mpr c32
                    by_cases c38 : a0_0 = 5
                    · rw [if_pos c38] at H
                      have c38b0 : (a0_0 == 5) = true := beq_iff_eq.mpr c38
                      have c38b1 : (a0_0 != 5) = false := bne_eq_false_iff_eq.mpr c38
                      clear c38
                      replace H := Option.bind_eq_some_iff.mp H
                      obtain ⟨t155, A390, H⟩ := H
                      replace H : (some (!t155)) = some r := H
                      have A39 := Aside0.mk A390
                      clear A390
                      obtain rfl := Option.some.inj H
                      have hcz40_0 : wc.cell? ⟨gb151, 0, none⟩ = some (.int .i64 a0_0) := (blk_cell BK151.out 0).trans rfl
                      have hcz40_1 : wc.cell? ⟨gb151, 1, none⟩ = some (.int .i64 a0_1) := (blk_cell BK151.out 1).trans rfl
                      have hcz40_2 : wc.cell? ⟨gb151, 2, none⟩ = some (.int .i64 a0_2) := (blk_cell BK151.out 2).trans rfl
                      have hcz40_3 : wc.cell? ⟨gb151, 3, none⟩ = some (.string a0_3) := (blk_cell BK151.out 3).trans rfl
                      have hcz40_4 : wc.cell? ⟨gb151, 4, none⟩ = some (.string a0_4) := (blk_cell BK151.out 4).trans rfl
                      have hfz40_0 := blk_frozen BK151.out 0
                      have hfz40_1 := blk_frozen BK151.out 1
                      have hfz40_2 := blk_frozen BK151.out 2
                      have hfz40_3 := blk_frozen BK151.out 3
                      have hfz40_4 := blk_frozen BK151.out 4
                      go_wp2_with (first | ((with_reducible refine gate_callee (f := 64) rfl ?_); refine goesL_ (some 70) rfl rfl Tryd.func64 (by kernel_rfl) rfl #[.string a0_4] rfl (by (try simp only [List.map_toArray, List.map_cons, List.map_nil]); first | done | rfl | (simp only [List.length_drop, List.length_take]; rfl)) ?_; (with_reducible refine (utf8_ValidString.calls a0_4 t155 _ ?side1 A39.out).mono ?_); (case side1 => first | exact HGU8.out | exact GlobU8.below HGU8.out (by repeat (first | (with_reducible first | exact HB.out | apply below_alloc | apply pw_below_drewN | apply below_drew1 | refine below_set ?_ GE151.out) | exact HB.out)) | exact GlobU8.drawn HGU8.out (by repeat (first | exact Drawn0.refl _ | apply Drawn0.step))); rintro e w41 ⟨rfl, hb⟩; refine ⟨_, rfl, ?_⟩; have n0_ := Aside0.mk (blk_below (g := gb151) (o := .cells #[.int .i64 a0_0, .int .i64 a0_1, .int .i64 a0_2, .string a0_3, .string a0_4] 46 (0, 0)) (by (with_reducible repeat (first | refine blk_drewN ?_ _ | refine blk_drew ?_ | refine blk_alloc ?_ _)); exact BK151.out) hb); have n1_ := Aside0.mk (below_step (by repeat (first | (with_reducible first | exact HB.out | apply below_alloc | apply pw_below_drewN | apply below_drew1 | refine below_set ?_ GE151.out) | exact HB.out)) hb); clear BK151; clear HB; have BK151 := n0_; have HB := n1_; clear n0_ n1_; (try clear hb); (try clear hb2); (try clear hk); (try clear hi)))
                      go_ret
                      exact ⟨by first | rfl | (simp [errW_none, errW_some] <;> rfl) | (simp [*, errW_none, errW_some] <;> rfl) | (simp [errW_none, errW_some, show ∀ l : List UInt8, (l != []) = !l.isEmpty from fun l => by cases l <;> rfl]), by repeat (first | (with_reducible first | exact HB.out | apply below_alloc | apply pw_below_drewN | apply below_drew1 | refine below_set ?_ GE151.out) | exact HB.out)⟩
                    · rw [if_neg c38] at H
                      have c38b0 : (a0_0 == 5) = false := beq_eq_false_iff_ne.mpr c38
                      have c38b1 : (a0_0 != 5) = true := bne_iff_ne.mpr c38
                      obtain rfl := Option.some.inj H
                      have hcz42_0 : wc.cell? ⟨gb151, 0, none⟩ = some (.int .i64 a0_0) := (blk_cell BK151.out 0).trans rfl
                      have hcz42_1 : wc.cell? ⟨gb151, 1, none⟩ = some (.int .i64 a0_1) := (blk_cell BK151.out 1).trans rfl
                      have hcz42_2 : wc.cell? ⟨gb151, 2, none⟩ = some (.int .i64 a0_2) := (blk_cell BK151.out 2).trans rfl
                      have hcz42_3 : wc.cell? ⟨gb151, 3, none⟩ = some (.string a0_3) := (blk_cell BK151.out 3).trans rfl
                      have hcz42_4 : wc.cell? ⟨gb151, 4, none⟩ = some (.string a0_4) := (blk_cell BK151.out 4).trans rfl
                      have hfz42_0 := blk_frozen BK151.out 0
                      have hfz42_1 := blk_frozen BK151.out 1
                      have hfz42_2 := blk_frozen BK151.out 2
                      have hfz42_3 := blk_frozen BK151.out 3
                      have hfz42_4 := blk_frozen BK151.out 4
                      go_wp2
                      go_ret
                      exact ⟨by first | rfl | (simp [errW_none, errW_some] <;> rfl) | (simp [*, errW_none, errW_some] <;> rfl) | (simp [errW_none, errW_some, show ∀ l : List UInt8, (l != []) = !l.isEmpty from fun l => by cases l <;> rfl]), by repeat (first | (with_reducible first | exact HB.out | apply below_alloc | apply pw_below_drewN | apply below_drew1 | refine below_set ?_ GE151.out) | exact HB.out)⟩

end Go.Proofs.YtadfkeipcebmfaaDoor.X

namespace Go.Proofs.YtadfkeipcebmfaaDoor.X
open Go.RowKit Go.Proofs.YtadfkeipcebmfaaDoorW.PrintWords Go.Proofs.YtadfkeipcebmfaaDoorW.PrintLast Go.Proofs.YtadfkeipcebmfaaDoorW.PrintMore
attribute [local go_sem] max2_int min2_int max_two min_two max_three min_three max_four min_four   -- for this text's walks alone
set_option linter.unusedVariables false
set_option linter.unusedSimpArgs false

mutual
def jsontext_check.j0 : Nat → List (S46) → Int → Int → Bool → Int → Int → Int → ByteArray → ByteArray → Option (Bool)
  | 0, _, _, _, _, _, _, _, _, _ => none
  | k + 1, x0, x1, x4, x28, x158000, x158001, x158002, x158003, x158004 => if x28 = true then (some false) else (jsontext_check.l0 k x0 x1 x4 (wrap64 (x1 + 1)) x158002 0 x158000 x158001 x158002 x158003 x158004)
def jsontext_check.l0 : Nat → List (S46) → Int → Int → Int → Int → Int → Int → Int → Int → ByteArray → ByteArray → Option (Bool)
  | 0, _, _, _, _, _, _, _, _, _, _, _ => none
  | k + 1, x0, x1, x4, x12, x32, x33, x158000, x158001, x158002, x158003, x158004 => if x33 < x32 then (if x12 ≥ (wrap64 (x1 + x158001)) then (some false) else ((jsontext_check.f k x0 x12 (wrap64 (x1 + x158001)) (x158000 == 7) (wrap64 (x4 + 1))).bind fun t159 => (if t159 = true then (if 0 ≤ x12 then (if x12 < (x0.length : Int) then (jsontext_check.l0 k x0 x1 x4 (wrap64 (x12 + ((rd_T46 x0 x12).f1))) x32 (wrap64 (x33 + 1)) x158000 x158001 x158002 x158003 x158004) else (none)) else (none)) else (some false)))) else (some (x12 == (wrap64 (x1 + x158001))))
def jsontext_check.f : Nat → List (S46) → Int → Int → Bool → Int → Option (Bool)
  | 0, _, _, _, _, _ => none
  | k + 1, l0, a1, a2, a3, a4 => if 0 ≤ a1 then (if a1 < (l0.length : Int) then ((jsontext_wrong.f k ((rd_T46 l0 a1).f0) ((rd_T46 l0 a1).f1) ((rd_T46 l0 a1).f2) ((rd_T46 l0 a1).f3) ((rd_T46 l0 a1).f4) a3 a4).bind fun t158 => (if t158 = true then (jsontext_check.j0 k l0 a1 a4 true ((rd_T46 l0 a1).f0) ((rd_T46 l0 a1).f1) ((rd_T46 l0 a1).f2) ((rd_T46 l0 a1).f3) ((rd_T46 l0 a1).f4)) else (jsontext_check.j0 k l0 a1 a4 (decide (((rd_T46 l0 a1).f1) > (wrap64 (a2 - a1)))) ((rd_T46 l0 a1).f0) ((rd_T46 l0 a1).f1) ((rd_T46 l0 a1).f2) ((rd_T46 l0 a1).f3) ((rd_T46 l0 a1).f4)))) else (none)) else (none)
end
set_option maxHeartbeats 8000000 in
set_option maxRecDepth 100000 in
theorem jsontext_check.calls (k : Nat) : ∀ (A0 : Option Addr) (c0 : Nat) (l0 : List (S46)) (a1 : Int) (a2 : Int) (a3 : Bool) (a4 : Int) (r : Bool) (w : World) (hGU8 : GlobU8 w) (hr0 : Kd.C k46 w A0 l0.length l0) (hc0 : l0.length ≤ c0) (h : jsontext_check.f k l0 a1 a2 a3 a4 = some r),
    Calls Tryd.prog 39 #[.slice A0 l0.length c0, .int .i64 a1, .int .i64 a2, .bool a3, .int .i64 a4] w fun e w' => e = .returned (.bool r) ∧ Below w.heap.size w w' := by
  induction k using Nat.strongRecOn with
  | _ k ih =>
  intro A0 c0 l0 a1 a2 a3 a4 r w hGU8 hr0 hc0 h
  cases k with
  | zero => exact absurd h (by simp [jsontext_check.f])
  | succ k =>
  simp only [jsontext_check.f] at h
  have hu46 := Tryd.underlying46
  have HGU8 := Aside0.mk hGU8
  clear hGU8
  have HR0 := Aside0.mk hr0
  have HC0 := Aside0.mk hc0
  clear hr0 hc0
  have HB := Aside0.mk (Below.refl w.heap.size w)
  have H : (if 0 ≤ a1 then (if a1 < (l0.length : Int) then ((jsontext_wrong.f k ((rd_T46 l0 a1).f0) ((rd_T46 l0 a1).f1) ((rd_T46 l0 a1).f2) ((rd_T46 l0 a1).f3) ((rd_T46 l0 a1).f4) a3 a4).bind fun t158 => (if t158 = true then (jsontext_check.j0 k l0 a1 a4 true ((rd_T46 l0 a1).f0) ((rd_T46 l0 a1).f1) ((rd_T46 l0 a1).f2) ((rd_T46 l0 a1).f3) ((rd_T46 l0 a1).f4)) else (jsontext_check.j0 k l0 a1 a4 (decide (((rd_T46 l0 a1).f1) > (wrap64 (a2 - a1)))) ((rd_T46 l0 a1).f0) ((rd_T46 l0 a1).f1) ((rd_T46 l0 a1).f2) ((rd_T46 l0 a1).f3) ((rd_T46 l0 a1).f4)))) else (none)) else (none)) = some r := h
  clear h
  by_cases c6 : 0 ≤ a1
  · rw [if_pos c6] at H
    have c6b0 : decide (0 ≤ a1) = true := decide_eq_true c6
    clear c6
    by_cases c7 : a1 < (l0.length : Int)
    · rw [if_pos c7] at H
      have c7b0 : decide (a1 < (l0.length : Int)) = true := decide_eq_true c7
      clear c7
      have HC8 := Aside0.mk H
      clear H
      have p156 : 0 ≤ (a1 : Int) := of_decide_eq_true (by first | (with_reducible assumption) | assumption)
      have q156 : a1 < (l0.length : Int) := of_decide_eq_true (by first | (with_reducible assumption) | assumption)
      obtain ⟨ad156, e156, hx156_0, hx156_1, hx156_2, hx156_3, hx156_4⟩ := at_T46 HR0.out a1 p156 q156
      cases e156
      replace p156 := eq_true p156
      replace q156 := eq_true q156
      go_enter Tryd.func39, Tryd.ntmps39
      go_upto_region 2 with (first | ((with_reducible refine gate_dst (N := 11) rfl ?_); refine box_event ?hg (N := 11) ?hd (cs := #[.int .i64 0, .int .i64 0, .int .i64 0, .string (⟨#[]⟩ : ByteArray), .string (⟨#[]⟩ : ByteArray)]) (t := 46) ?hr ?_; (case hd => rfl); (case hg => rfl); (case hr => first | (go_simp; done) | (go_simp; rfl)); intro gb157 hg w9 hbox hb; have n0_ := Aside0.mk (below_step (by repeat (first | (with_reducible first | exact HB.out | apply below_alloc | apply pw_below_drewN | apply below_drew1) | exact HB.out)) hb); have n1_ := Aside0.mk (hbox); have n2_ := Aside0.mk ((by rw [hg]; exact (below_size (by repeat (first | (with_reducible first | exact HB.out | apply below_alloc | apply pw_below_drewN | apply below_drew1) | exact HB.out))) : w.heap.size ≤ gb157)); have n3_ := Aside0.mk ((by rw [hg]; exact (below_size (by repeat (first | (with_reducible first | exact HB.out | apply below_alloc | apply pw_below_drewN | apply below_drew1) | exact HB.out))) : w.heap.size ≤ gb157)); clear HB; have HB := n0_; have BK157 := n1_; have GW157 := n2_; have GE157 := n3_; clear n0_ n1_ n2_ n3_; clear hb hbox hg; have hcz10_0 : w9.cell? ⟨gb157, 0, none⟩ = some (.int .i64 0) := (blk_cell BK157.out 0).trans rfl; have hcz10_1 : w9.cell? ⟨gb157, 1, none⟩ = some (.int .i64 0) := (blk_cell BK157.out 1).trans rfl; have hcz10_2 : w9.cell? ⟨gb157, 2, none⟩ = some (.int .i64 0) := (blk_cell BK157.out 2).trans rfl; have hcz10_3 : w9.cell? ⟨gb157, 3, none⟩ = some (.string (⟨#[]⟩ : ByteArray)) := (blk_cell BK157.out 3).trans rfl; have hcz10_4 : w9.cell? ⟨gb157, 4, none⟩ = some (.string (⟨#[]⟩ : ByteArray)) := (blk_cell BK157.out 4).trans rfl; have hfz10_0 := blk_frozen BK157.out 0; have hfz10_1 := blk_frozen BK157.out 1; have hfz10_2 := blk_frozen BK157.out 2; have hfz10_3 := blk_frozen BK157.out 3; have hfz10_4 := blk_frozen BK157.out 4))
      (try simp only [Act.put, List.setIfInBounds_toArray, List.set_cons_zero, List.set_cons_succ])
      go_cut [28] (fun v28 wc => ∃ (kq : Nat) (x28_7 : Bool), v28 = .bool x28_7 ∧ Aside0 (jsontext_check.j0 kq l0 a1 a4 x28_7 ((rd_T46 l0 a1).f0) ((rd_T46 l0 a1).f1) ((rd_T46 l0 a1).f2) ((rd_T46 l0 a1).f3) ((rd_T46 l0 a1).f4) = some r) ∧ Aside0 (kq ≤ k) ∧ Aside0 (wc.heap[gb157]? = some (.cells #[.int .i64 ((rd_T46 l0 a1).f0), .int .i64 ((rd_T46 l0 a1).f1), .int .i64 ((rd_T46 l0 a1).f2), .string ((rd_T46 l0 a1).f3), .string ((rd_T46 l0 a1).f4)] 46 (0, 0))) ∧ Aside0 (Below w.heap.size w wc))
      case first =>
        have H := HC8.out
        clear HC8
        replace H := Option.bind_eq_some_iff.mp H
        obtain ⟨t158, A110, H⟩ := H
        replace H : (if t158 = true then (jsontext_check.j0 k l0 a1 a4 true ((rd_T46 l0 a1).f0) ((rd_T46 l0 a1).f1) ((rd_T46 l0 a1).f2) ((rd_T46 l0 a1).f3) ((rd_T46 l0 a1).f4)) else (jsontext_check.j0 k l0 a1 a4 (decide (((rd_T46 l0 a1).f1) > (wrap64 (a2 - a1)))) ((rd_T46 l0 a1).f0) ((rd_T46 l0 a1).f1) ((rd_T46 l0 a1).f2) ((rd_T46 l0 a1).f3) ((rd_T46 l0 a1).f4))) = some r := H
        have A11 := Aside0.mk A110
        clear A110
        by_cases c12 : t158 = true
        · subst c12
          have H1 : (jsontext_check.j0 k l0 a1 a4 true ((rd_T46 l0 a1).f0) ((rd_T46 l0 a1).f1) ((rd_T46 l0 a1).f2) ((rd_T46 l0 a1).f3) ((rd_T46 l0 a1).f4)) = some r := by rw [if_pos rfl] at H; exact H
          clear H
          have H := H1
          clear H1
          have H' := Aside0.mk H
          clear H
          have hcz13_0 : w9.cell? ⟨gb157, 0, none⟩ = some (.int .i64 0) := (blk_cell BK157.out 0).trans rfl
          have hcz13_1 : w9.cell? ⟨gb157, 1, none⟩ = some (.int .i64 0) := (blk_cell BK157.out 1).trans rfl
          have hcz13_2 : w9.cell? ⟨gb157, 2, none⟩ = some (.int .i64 0) := (blk_cell BK157.out 2).trans rfl
          have hcz13_3 : w9.cell? ⟨gb157, 3, none⟩ = some (.string (⟨#[]⟩ : ByteArray)) := (blk_cell BK157.out 3).trans rfl
          have hcz13_4 : w9.cell? ⟨gb157, 4, none⟩ = some (.string (⟨#[]⟩ : ByteArray)) := (blk_cell BK157.out 4).trans rfl
          have hfz13_0 := blk_frozen BK157.out 0
          have hfz13_1 := blk_frozen BK157.out 1
          have hfz13_2 := blk_frozen BK157.out 2
          have hfz13_3 := blk_frozen BK157.out 3
          have hfz13_4 := blk_frozen BK157.out 4
          go_wp2_with (first | ((with_reducible refine gate_callee (f := 63) rfl ?_); refine goesL_ (some 20) rfl rfl Tryd.func63 (by kernel_rfl) rfl #[.agg #[.int .i64 ((rd_T46 l0 a1).f0), .int .i64 ((rd_T46 l0 a1).f1), .int .i64 ((rd_T46 l0 a1).f2), .string ((rd_T46 l0 a1).f3), .string ((rd_T46 l0 a1).f4)], .bool a3, .int .i64 a4] rfl (by (try simp only [List.map_toArray, List.map_cons, List.map_nil]); first | done | rfl | (simp only [List.length_drop, List.length_take]; rfl)) ?_; (with_reducible refine (jsontext_wrong.calls k ((rd_T46 l0 a1).f0) ((rd_T46 l0 a1).f1) ((rd_T46 l0 a1).f2) ((rd_T46 l0 a1).f3) ((rd_T46 l0 a1).f4) a3 a4 true _ ?side1 A11.out).mono ?_); (case side1 => first | exact HGU8.out | exact GlobU8.below HGU8.out (by repeat (first | (with_reducible first | exact HB.out | apply below_alloc | apply pw_below_drewN | apply below_drew1 | refine below_set ?_ GE157.out) | exact HB.out)) | exact GlobU8.drawn HGU8.out (by repeat (first | exact Drawn0.refl _ | apply Drawn0.step))); rintro e w14 ⟨rfl, hb⟩; refine ⟨_, rfl, ?_⟩; have n0_ := Aside0.mk (blk_below (g := gb157) (o := .cells #[.int .i64 ((rd_T46 l0 a1).f0), .int .i64 ((rd_T46 l0 a1).f1), .int .i64 ((rd_T46 l0 a1).f2), .string ((rd_T46 l0 a1).f3), .string ((rd_T46 l0 a1).f4)] 46 (0, 0)) (by (with_reducible repeat (first | refine blk_drewN ?_ _ | refine blk_drew ?_ | refine blk_alloc ?_ _)); refine blk_put (cs := #[.int .i64 ((rd_T46 l0 a1).f0), .int .i64 ((rd_T46 l0 a1).f1), .int .i64 ((rd_T46 l0 a1).f2), .string ((rd_T46 l0 a1).f3), .string (⟨#[]⟩ : ByteArray)]) ?_ 4 _ rfl; (with_reducible repeat (first | refine blk_drewN ?_ _ | refine blk_drew ?_ | refine blk_alloc ?_ _)); refine blk_put (cs := #[.int .i64 ((rd_T46 l0 a1).f0), .int .i64 ((rd_T46 l0 a1).f1), .int .i64 ((rd_T46 l0 a1).f2), .string (⟨#[]⟩ : ByteArray), .string (⟨#[]⟩ : ByteArray)]) ?_ 3 _ rfl; (with_reducible repeat (first | refine blk_drewN ?_ _ | refine blk_drew ?_ | refine blk_alloc ?_ _)); refine blk_put (cs := #[.int .i64 ((rd_T46 l0 a1).f0), .int .i64 ((rd_T46 l0 a1).f1), .int .i64 0, .string (⟨#[]⟩ : ByteArray), .string (⟨#[]⟩ : ByteArray)]) ?_ 2 _ rfl; (with_reducible repeat (first | refine blk_drewN ?_ _ | refine blk_drew ?_ | refine blk_alloc ?_ _)); refine blk_put (cs := #[.int .i64 ((rd_T46 l0 a1).f0), .int .i64 0, .int .i64 0, .string (⟨#[]⟩ : ByteArray), .string (⟨#[]⟩ : ByteArray)]) ?_ 1 _ rfl; (with_reducible repeat (first | refine blk_drewN ?_ _ | refine blk_drew ?_ | refine blk_alloc ?_ _)); refine blk_put (cs := #[.int .i64 0, .int .i64 0, .int .i64 0, .string (⟨#[]⟩ : ByteArray), .string (⟨#[]⟩ : ByteArray)]) ?_ 0 _ rfl; (with_reducible repeat (first | refine blk_drewN ?_ _ | refine blk_drew ?_ | refine blk_alloc ?_ _)); exact BK157.out) hb); have n1_ := Aside0.mk (below_step (by repeat (first | (with_reducible first | exact HB.out | apply below_alloc | apply pw_below_drewN | apply below_drew1 | refine below_set ?_ GE157.out) | exact HB.out)) hb); clear BK157; clear HB; have BK157 := n0_; have HB := n1_; clear n0_ n1_; (try clear hb); (try clear hb2); (try clear hk); (try clear hi)))
          go_meet
          case rel => exact ⟨_, (true), (by first | rfl | (simp; done) | (simp; decide +kernel) | (simp [*]; done)), (by first | exact H' | (subst_vars; exact H')), ⟨by first | omega | exact Nat.le_refl _⟩, ⟨by (with_reducible repeat (first | refine blk_drewN ?_ _ | refine blk_drew ?_ | refine blk_alloc ?_ _)); exact BK157.out⟩, ⟨by repeat (first | (with_reducible first | exact HB.out | apply below_alloc | apply pw_below_drewN | apply below_drew1 | refine below_set ?_ GE157.out) | exact HB.out)⟩⟩
        · replace c12 := Bool.eq_false_iff.mpr c12
          subst c12
          have H1 : (jsontext_check.j0 k l0 a1 a4 (decide (((rd_T46 l0 a1).f1) > (wrap64 (a2 - a1)))) ((rd_T46 l0 a1).f0) ((rd_T46 l0 a1).f1) ((rd_T46 l0 a1).f2) ((rd_T46 l0 a1).f3) ((rd_T46 l0 a1).f4)) = some r := by rw [if_neg (show ¬ (false = true) by decide)] at H; exact H
          clear H
          have H := H1
          clear H1
          have H' := Aside0.mk H
          clear H
          have hcz15_0 : w9.cell? ⟨gb157, 0, none⟩ = some (.int .i64 0) := (blk_cell BK157.out 0).trans rfl
          have hcz15_1 : w9.cell? ⟨gb157, 1, none⟩ = some (.int .i64 0) := (blk_cell BK157.out 1).trans rfl
          have hcz15_2 : w9.cell? ⟨gb157, 2, none⟩ = some (.int .i64 0) := (blk_cell BK157.out 2).trans rfl
          have hcz15_3 : w9.cell? ⟨gb157, 3, none⟩ = some (.string (⟨#[]⟩ : ByteArray)) := (blk_cell BK157.out 3).trans rfl
          have hcz15_4 : w9.cell? ⟨gb157, 4, none⟩ = some (.string (⟨#[]⟩ : ByteArray)) := (blk_cell BK157.out 4).trans rfl
          have hfz15_0 := blk_frozen BK157.out 0
          have hfz15_1 := blk_frozen BK157.out 1
          have hfz15_2 := blk_frozen BK157.out 2
          have hfz15_3 := blk_frozen BK157.out 3
          have hfz15_4 := blk_frozen BK157.out 4
          go_wp2_with (first | ((with_reducible refine gate_callee (f := 63) rfl ?_); refine goesL_ (some 20) rfl rfl Tryd.func63 (by kernel_rfl) rfl #[.agg #[.int .i64 ((rd_T46 l0 a1).f0), .int .i64 ((rd_T46 l0 a1).f1), .int .i64 ((rd_T46 l0 a1).f2), .string ((rd_T46 l0 a1).f3), .string ((rd_T46 l0 a1).f4)], .bool a3, .int .i64 a4] rfl (by (try simp only [List.map_toArray, List.map_cons, List.map_nil]); first | done | rfl | (simp only [List.length_drop, List.length_take]; rfl)) ?_; (with_reducible refine (jsontext_wrong.calls k ((rd_T46 l0 a1).f0) ((rd_T46 l0 a1).f1) ((rd_T46 l0 a1).f2) ((rd_T46 l0 a1).f3) ((rd_T46 l0 a1).f4) a3 a4 false _ ?side1 A11.out).mono ?_); (case side1 => first | exact HGU8.out | exact GlobU8.below HGU8.out (by repeat (first | (with_reducible first | exact HB.out | apply below_alloc | apply pw_below_drewN | apply below_drew1 | refine below_set ?_ GE157.out) | exact HB.out)) | exact GlobU8.drawn HGU8.out (by repeat (first | exact Drawn0.refl _ | apply Drawn0.step))); rintro e w16 ⟨rfl, hb⟩; refine ⟨_, rfl, ?_⟩; have n0_ := Aside0.mk (blk_below (g := gb157) (o := .cells #[.int .i64 ((rd_T46 l0 a1).f0), .int .i64 ((rd_T46 l0 a1).f1), .int .i64 ((rd_T46 l0 a1).f2), .string ((rd_T46 l0 a1).f3), .string ((rd_T46 l0 a1).f4)] 46 (0, 0)) (by (with_reducible repeat (first | refine blk_drewN ?_ _ | refine blk_drew ?_ | refine blk_alloc ?_ _)); refine blk_put (cs := #[.int .i64 ((rd_T46 l0 a1).f0), .int .i64 ((rd_T46 l0 a1).f1), .int .i64 ((rd_T46 l0 a1).f2), .string ((rd_T46 l0 a1).f3), .string (⟨#[]⟩ : ByteArray)]) ?_ 4 _ rfl; (with_reducible repeat (first | refine blk_drewN ?_ _ | refine blk_drew ?_ | refine blk_alloc ?_ _)); refine blk_put (cs := #[.int .i64 ((rd_T46 l0 a1).f0), .int .i64 ((rd_T46 l0 a1).f1), .int .i64 ((rd_T46 l0 a1).f2), .string (⟨#[]⟩ : ByteArray), .string (⟨#[]⟩ : ByteArray)]) ?_ 3 _ rfl; (with_reducible repeat (first | refine blk_drewN ?_ _ | refine blk_drew ?_ | refine blk_alloc ?_ _)); refine blk_put (cs := #[.int .i64 ((rd_T46 l0 a1).f0), .int .i64 ((rd_T46 l0 a1).f1), .int .i64 0, .string (⟨#[]⟩ : ByteArray), .string (⟨#[]⟩ : ByteArray)]) ?_ 2 _ rfl; (with_reducible repeat (first | refine blk_drewN ?_ _ | refine blk_drew ?_ | refine blk_alloc ?_ _)); refine blk_put (cs := #[.int .i64 ((rd_T46 l0 a1).f0), .int .i64 0, .int .i64 0, .string (⟨#[]⟩ : ByteArray), .string (⟨#[]⟩ : ByteArray)]) ?_ 1 _ rfl; (with_reducible repeat (first | refine blk_drewN ?_ _ | refine blk_drew ?_ | refine blk_alloc ?_ _)); refine blk_put (cs := #[.int .i64 0, .int .i64 0, .int .i64 0, .string (⟨#[]⟩ : ByteArray), .string (⟨#[]⟩ : ByteArray)]) ?_ 0 _ rfl; (with_reducible repeat (first | refine blk_drewN ?_ _ | refine blk_drew ?_ | refine blk_alloc ?_ _)); exact BK157.out) hb); have n1_ := Aside0.mk (below_step (by repeat (first | (with_reducible first | exact HB.out | apply below_alloc | apply pw_below_drewN | apply below_drew1 | refine below_set ?_ GE157.out) | exact HB.out)) hb); clear BK157; clear HB; have BK157 := n0_; have HB := n1_; clear n0_ n1_; (try clear hb); (try clear hb2); (try clear hk); (try clear hi); have hcz17_0 : w16.cell? ⟨gb157, 0, none⟩ = some (.int .i64 ((rd_T46 l0 a1).f0)) := (blk_cell BK157.out 0).trans rfl; have hcz17_1 : w16.cell? ⟨gb157, 1, none⟩ = some (.int .i64 ((rd_T46 l0 a1).f1)) := (blk_cell BK157.out 1).trans rfl; have hcz17_2 : w16.cell? ⟨gb157, 2, none⟩ = some (.int .i64 ((rd_T46 l0 a1).f2)) := (blk_cell BK157.out 2).trans rfl; have hcz17_3 : w16.cell? ⟨gb157, 3, none⟩ = some (.string ((rd_T46 l0 a1).f3)) := (blk_cell BK157.out 3).trans rfl; have hcz17_4 : w16.cell? ⟨gb157, 4, none⟩ = some (.string ((rd_T46 l0 a1).f4)) := (blk_cell BK157.out 4).trans rfl; have hfz17_0 := blk_frozen BK157.out 0; have hfz17_1 := blk_frozen BK157.out 1; have hfz17_2 := blk_frozen BK157.out 2; have hfz17_3 := blk_frozen BK157.out 3; have hfz17_4 := blk_frozen BK157.out 4))
          go_meet
          case rel => exact ⟨_, (decide (((rd_T46 l0 a1).f1) > (wrap64 (a2 - a1)))), (by first | rfl | (simp; done) | (simp; decide +kernel) | (simp [*]; done)), (by first | exact H' | (subst_vars; exact H')), ⟨by first | omega | exact Nat.le_refl _⟩, ⟨by (with_reducible repeat (first | refine blk_drewN ?_ _ | refine blk_drew ?_ | refine blk_alloc ?_ _)); exact BK157.out⟩, ⟨by repeat (first | (with_reducible first | exact HB.out | apply below_alloc | apply pw_below_drewN | apply below_drew1 | refine below_set ?_ GE157.out) | exact HB.out)⟩⟩
      case rest =>
        clear HC8
        try clear c1
        try clear p1
        try clear q1
        try clear hx1
        try clear p2
        try clear c3
        try clear c6
        try clear c6b0
        try clear p6
        try clear c7
        try clear c7b0
        try clear c12
        try clear p15
        try clear q15
        try clear hx15
        try clear hcz10_0
        try clear hcz10_1
        try clear hcz10_2
        try clear hcz10_3
        try clear hcz10_4
        try clear hcz13_0
        try clear hcz13_1
        try clear hcz13_2
        try clear hcz13_3
        try clear hcz13_4
        try clear hcz15_0
        try clear hcz15_1
        try clear hcz15_2
        try clear hcz15_3
        try clear hcz15_4
        try clear hcz17_0
        try clear hcz17_1
        try clear hcz17_2
        try clear hcz17_3
        try clear hcz17_4
        try clear hfz10_0
        try clear hfz10_1
        try clear hfz10_2
        try clear hfz10_3
        try clear hfz10_4
        try clear hfz13_0
        try clear hfz13_1
        try clear hfz13_2
        try clear hfz13_3
        try clear hfz13_4
        try clear hfz15_0
        try clear hfz15_1
        try clear hfz15_2
        try clear hfz15_3
        try clear hfz15_4
        try clear hfz17_0
        try clear hfz17_1
        try clear hfz17_2
        try clear hfz17_3
        try clear hfz17_4
        try clear hx156_0
        try clear hx156_1
        try clear hx156_2
        try clear hx156_3
        try clear hx156_4
        try clear p156
        try clear q156
        obtain ⟨kq, x28_7, rfl, HA, HJ7, BK157, HB⟩ := hcut
        cases kq with
        | zero => exact absurd HA.out (by simp [jsontext_check.j0])
        | succ kj7 =>
          have H := HA.out
          clear HA
          simp only [jsontext_check.j0] at H
          by_cases c18 : x28_7 = true
          · subst c18
            have H1 : (some false) = some r := by rw [if_pos rfl] at H; exact H
            clear H
            have H := H1
            clear H1
            obtain rfl := Option.some.inj H
            go_wp2
            go_ret
            exact ⟨by first | rfl | (simp [errW_none, errW_some] <;> rfl) | (simp [*, errW_none, errW_some] <;> rfl), by repeat (first | (with_reducible first | exact HB.out | apply below_alloc | apply pw_below_drewN | apply below_drew1 | refine below_set ?_ GE157.out) | exact HB.out)⟩
          · replace c18 := Bool.eq_false_iff.mpr c18
            subst c18
            have H1 : (jsontext_check.l0 kj7 l0 a1 a4 (wrap64 (a1 + 1)) ((rd_T46 l0 a1).f2) 0 ((rd_T46 l0 a1).f0) ((rd_T46 l0 a1).f1) ((rd_T46 l0 a1).f2) ((rd_T46 l0 a1).f3) ((rd_T46 l0 a1).f4)) = some r := by rw [if_neg (show ¬ (false = true) by decide)] at H; exact H
            clear H
            have H := H1
            clear H1
            have H' := Aside0.mk H
            clear H
            have hcz19_0 : wc.cell? ⟨gb157, 0, none⟩ = some (.int .i64 ((rd_T46 l0 a1).f0)) := (blk_cell BK157.out 0).trans rfl
            have hcz19_1 : wc.cell? ⟨gb157, 1, none⟩ = some (.int .i64 ((rd_T46 l0 a1).f1)) := (blk_cell BK157.out 1).trans rfl
            have hcz19_2 : wc.cell? ⟨gb157, 2, none⟩ = some (.int .i64 ((rd_T46 l0 a1).f2)) := (blk_cell BK157.out 2).trans rfl
            have hcz19_3 : wc.cell? ⟨gb157, 3, none⟩ = some (.string ((rd_T46 l0 a1).f3)) := (blk_cell BK157.out 3).trans rfl
            have hcz19_4 : wc.cell? ⟨gb157, 4, none⟩ = some (.string ((rd_T46 l0 a1).f4)) := (blk_cell BK157.out 4).trans rfl
            have hfz19_0 := blk_frozen BK157.out 0
            have hfz19_1 := blk_frozen BK157.out 1
            have hfz19_2 := blk_frozen BK157.out 2
            have hfz19_3 := blk_frozen BK157.out 3
            have hfz19_4 := blk_frozen BK157.out 4
            go_wp2
            go_loopg [12, 33] kj7 (fun kq v12 v33 w' => ∃ (x12_2 : Int) (x33_2 : Int), v12 = .int .i64 x12_2 ∧ v33 = .int .i64 x33_2 ∧ Aside0 (jsontext_check.l0 kq l0 a1 a4 x12_2 ((rd_T46 l0 a1).f2) x33_2 ((rd_T46 l0 a1).f0) ((rd_T46 l0 a1).f1) ((rd_T46 l0 a1).f2) ((rd_T46 l0 a1).f3) ((rd_T46 l0 a1).f4) = some r) ∧ Aside0 (kq ≤ kj7) ∧ Aside0 (w'.heap[gb157]? = some (.cells #[.int .i64 ((rd_T46 l0 a1).f0), .int .i64 ((rd_T46 l0 a1).f1), .int .i64 ((rd_T46 l0 a1).f2), .string ((rd_T46 l0 a1).f3), .string ((rd_T46 l0 a1).f4)] 46 (0, 0))) ∧ Aside0 (Below w.heap.size w w'))
            case atStart => exact ⟨(wrap64 (a1 + 1)), (0), (by first | rfl | (simp; done) | (simp; decide +kernel) | (simp [*]; done)), (by first | rfl | (simp; done) | (simp; decide +kernel) | (simp [*]; done)), (by first | exact H' | (subst_vars; exact H')), ⟨Nat.le_refl _⟩, ⟨by (with_reducible repeat (first | refine blk_drewN ?_ _ | refine blk_drew ?_ | refine blk_alloc ?_ _)); exact BK157.out⟩, ⟨by repeat (first | (with_reducible first | exact HB.out | apply below_alloc | apply pw_below_drewN | apply below_drew1 | refine below_set ?_ GE157.out) | exact HB.out)⟩⟩
            case round =>
              clear H'
              try clear c1
              try clear p1
              try clear q1
              try clear hx1
              try clear p2
              try clear c3
              try clear c6
              try clear c6b0
              try clear p6
              try clear c7
              try clear c7b0
              try clear c12
              try clear p15
              try clear q15
              try clear hx15
              try clear c18
              try clear hcz10_0
              try clear hcz10_1
              try clear hcz10_2
              try clear hcz10_3
              try clear hcz10_4
              try clear hcz13_0
              try clear hcz13_1
              try clear hcz13_2
              try clear hcz13_3
              try clear hcz13_4
              try clear hcz15_0
              try clear hcz15_1
              try clear hcz15_2
              try clear hcz15_3
              try clear hcz15_4
              try clear hcz17_0
              try clear hcz17_1
              try clear hcz17_2
              try clear hcz17_3
              try clear hcz17_4
              try clear hcz19_0
              try clear hcz19_1
              try clear hcz19_2
              try clear hcz19_3
              try clear hcz19_4
              try clear hfz10_0
              try clear hfz10_1
              try clear hfz10_2
              try clear hfz10_3
              try clear hfz10_4
              try clear hfz13_0
              try clear hfz13_1
              try clear hfz13_2
              try clear hfz13_3
              try clear hfz13_4
              try clear hfz15_0
              try clear hfz15_1
              try clear hfz15_2
              try clear hfz15_3
              try clear hfz15_4
              try clear hfz17_0
              try clear hfz17_1
              try clear hfz17_2
              try clear hfz17_3
              try clear hfz17_4
              try clear hfz19_0
              try clear hfz19_1
              try clear hfz19_2
              try clear hfz19_3
              try clear hfz19_4
              try clear hx156_0
              try clear hx156_1
              try clear hx156_2
              try clear hx156_3
              try clear hx156_4
              try clear p1
              try clear p15
              try clear p156
              try clear p2
              try clear p6
              try clear q1
              try clear q15
              try clear q156
              obtain ⟨x12_2, x33_2, rfl, rfl, HA, HK2, BK157, HB⟩ := hrel
              cases gk with
              | zero => exact absurd HA.out (by simp [jsontext_check.l0])
              | succ k2 =>
                have H := HA.out
                clear HA
                simp only [jsontext_check.l0] at H
                by_cases c20 : x33_2 < ((rd_T46 l0 a1).f2)
                · rw [if_pos c20] at H
                  have c20b0 : decide (x33_2 < ((rd_T46 l0 a1).f2)) = true := decide_eq_true c20
                  clear c20
                  by_cases c21 : x12_2 ≥ (wrap64 (a1 + ((rd_T46 l0 a1).f1)))
                  · rw [if_pos c21] at H
                    have c21b0 : decide ((wrap64 (a1 + ((rd_T46 l0 a1).f1))) ≤ x12_2) = true := decide_eq_true c21
                    clear c21
                    obtain rfl := Option.some.inj H
                    have hcz22_0 : wr.cell? ⟨gb157, 0, none⟩ = some (.int .i64 ((rd_T46 l0 a1).f0)) := (blk_cell BK157.out 0).trans rfl
                    have hcz22_1 : wr.cell? ⟨gb157, 1, none⟩ = some (.int .i64 ((rd_T46 l0 a1).f1)) := (blk_cell BK157.out 1).trans rfl
                    have hcz22_2 : wr.cell? ⟨gb157, 2, none⟩ = some (.int .i64 ((rd_T46 l0 a1).f2)) := (blk_cell BK157.out 2).trans rfl
                    have hcz22_3 : wr.cell? ⟨gb157, 3, none⟩ = some (.string ((rd_T46 l0 a1).f3)) := (blk_cell BK157.out 3).trans rfl
                    have hcz22_4 : wr.cell? ⟨gb157, 4, none⟩ = some (.string ((rd_T46 l0 a1).f4)) := (blk_cell BK157.out 4).trans rfl
                    have hfz22_0 := blk_frozen BK157.out 0
                    have hfz22_1 := blk_frozen BK157.out 1
                    have hfz22_2 := blk_frozen BK157.out 2
                    have hfz22_3 := blk_frozen BK157.out 3
                    have hfz22_4 := blk_frozen BK157.out 4
                    go_wp2
                    go_ret
                    exact ⟨by first | rfl | (simp [errW_none, errW_some] <;> rfl) | (simp [*, errW_none, errW_some] <;> rfl), by repeat (first | (with_reducible first | exact HB.out | apply below_alloc | apply pw_below_drewN | apply below_drew1 | refine below_set ?_ GE157.out) | exact HB.out)⟩
                  · rw [if_neg c21] at H
                    have c21b0 : decide ((wrap64 (a1 + ((rd_T46 l0 a1).f1))) ≤ x12_2) = false := decide_eq_false c21
                    clear c21
                    replace H := Option.bind_eq_some_iff.mp H
                    obtain ⟨t159, A230, H⟩ := H
                    replace H : (if t159 = true then (if 0 ≤ x12_2 then (if x12_2 < (l0.length : Int) then (jsontext_check.l0 k2 l0 a1 a4 (wrap64 (x12_2 + ((rd_T46 l0 x12_2).f1))) ((rd_T46 l0 a1).f2) (wrap64 (x33_2 + 1)) ((rd_T46 l0 a1).f0) ((rd_T46 l0 a1).f1) ((rd_T46 l0 a1).f2) ((rd_T46 l0 a1).f3) ((rd_T46 l0 a1).f4)) else (none)) else (none)) else (some false)) = some r := H
                    have A23 := Aside0.mk A230
                    clear A230
                    by_cases c24 : t159 = true
                    · subst c24
                      have H1 : (if 0 ≤ x12_2 then (if x12_2 < (l0.length : Int) then (jsontext_check.l0 k2 l0 a1 a4 (wrap64 (x12_2 + ((rd_T46 l0 x12_2).f1))) ((rd_T46 l0 a1).f2) (wrap64 (x33_2 + 1)) ((rd_T46 l0 a1).f0) ((rd_T46 l0 a1).f1) ((rd_T46 l0 a1).f2) ((rd_T46 l0 a1).f3) ((rd_T46 l0 a1).f4)) else (none)) else (none)) = some r := by rw [if_pos rfl] at H; exact H
                      clear H
                      have H := H1
                      clear H1
                      by_cases c25 : 0 ≤ x12_2
                      · rw [if_pos c25] at H
                        have c25b0 : decide (0 ≤ x12_2) = true := decide_eq_true c25
                        clear c25
                        by_cases c26 : x12_2 < (l0.length : Int)
                        · rw [if_pos c26] at H
                          have c26b0 : decide (x12_2 < (l0.length : Int)) = true := decide_eq_true c26
                          clear c26
                          have H' := Aside0.mk H
                          clear H
                          have hcz27_0 : wr.cell? ⟨gb157, 0, none⟩ = some (.int .i64 ((rd_T46 l0 a1).f0)) := (blk_cell BK157.out 0).trans rfl
                          have hcz27_1 : wr.cell? ⟨gb157, 1, none⟩ = some (.int .i64 ((rd_T46 l0 a1).f1)) := (blk_cell BK157.out 1).trans rfl
                          have hcz27_2 : wr.cell? ⟨gb157, 2, none⟩ = some (.int .i64 ((rd_T46 l0 a1).f2)) := (blk_cell BK157.out 2).trans rfl
                          have hcz27_3 : wr.cell? ⟨gb157, 3, none⟩ = some (.string ((rd_T46 l0 a1).f3)) := (blk_cell BK157.out 3).trans rfl
                          have hcz27_4 : wr.cell? ⟨gb157, 4, none⟩ = some (.string ((rd_T46 l0 a1).f4)) := (blk_cell BK157.out 4).trans rfl
                          have hfz27_0 := blk_frozen BK157.out 0
                          have hfz27_1 := blk_frozen BK157.out 1
                          have hfz27_2 := blk_frozen BK157.out 2
                          have hfz27_3 := blk_frozen BK157.out 3
                          have hfz27_4 := blk_frozen BK157.out 4
                          go_wp2_with (first | (go_at_call 39; (with_reducible refine (ih k2 (by have := HJ7.out; have := HK2.out; omega) _ _ l0 x12_2 (wrap64 (a1 + ((rd_T46 l0 a1).f1))) (((rd_T46 l0 a1).f0) == 7) (wrap64 (a4 + 1)) true _ ?side3 ?side1 ?side2 A23.out).mono ?_); (case side1 => repeat (first | exact (Kd.C_below HR0.out HB.out) | (with_reducible refine Kd.C_alloc ?_ _) | (with_reducible refine Kd.C_drewN ?_ _) | (with_reducible refine Kd.C_drew ?_))); (case side2 => exact HC0.out); (case side3 => first | exact HGU8.out | exact GlobU8.below HGU8.out (by repeat (first | (with_reducible first | exact HB.out | apply below_alloc | apply pw_below_drewN | apply below_drew1 | refine below_set ?_ GE157.out) | exact HB.out)) | exact GlobU8.drawn HGU8.out (by repeat (first | exact Drawn0.refl _ | apply Drawn0.step))); rintro e w28 ⟨rfl, hb⟩; have n0_ := Aside0.mk (blk_below (g := gb157) (o := .cells #[.int .i64 ((rd_T46 l0 a1).f0), .int .i64 ((rd_T46 l0 a1).f1), .int .i64 ((rd_T46 l0 a1).f2), .string ((rd_T46 l0 a1).f3), .string ((rd_T46 l0 a1).f4)] 46 (0, 0)) (by (with_reducible repeat (first | refine blk_drewN ?_ _ | refine blk_drew ?_ | refine blk_alloc ?_ _)); exact BK157.out) hb); have n1_ := Aside0.mk (below_step (by repeat (first | (with_reducible first | exact HB.out | apply below_alloc | apply pw_below_drewN | apply below_drew1 | refine below_set ?_ GE157.out) | exact HB.out)) hb); clear BK157; clear HB; have BK157 := n0_; have HB := n1_; clear n0_ n1_; (try clear hb); (try clear hb2); (try clear hk); (try clear hi); have p160 : 0 ≤ (x12_2 : Int) := of_decide_eq_true (by first | (with_reducible assumption) | assumption); have q160 : x12_2 < (l0.length : Int) := of_decide_eq_true (by first | (with_reducible assumption) | assumption); obtain ⟨ad160, e160, hx160_0, hx160_1, hx160_2, hx160_3, hx160_4⟩ := at_T46 HR0.out x12_2 p160 q160; obtain rfl : ad156 = ad160 := (by injection e160); replace hx160_0 := (HB.out.cell (World.block_lt_of_cell? w _ hx160_0)).trans hx160_0; replace hx160_1 := (HB.out.cell (World.block_lt_of_cell? w _ hx160_1)).trans hx160_1; replace hx160_2 := (HB.out.cell (World.block_lt_of_cell? w _ hx160_2)).trans hx160_2; replace hx160_3 := (HB.out.cell (World.block_lt_of_cell? w _ hx160_3)).trans hx160_3; replace hx160_4 := (HB.out.cell (World.block_lt_of_cell? w _ hx160_4)).trans hx160_4; replace p160 := eq_true p160; replace q160 := eq_true q160))
                          go_roundg k2
                          case measure => have := HJ7.out; have := HK2.out; omega
                          case rel => exact ⟨(wrap64 (x12_2 + ((rd_T46 l0 x12_2).f1))), (wrap64 (x33_2 + 1)), (by first | rfl | (simp; done) | (simp; decide +kernel) | (simp [*]; done)), (by first | rfl | (simp; done) | (simp; decide +kernel) | (simp [*]; done)), (by first | exact H' | (subst_vars; exact H')), ⟨by have := HJ7.out; have := HK2.out; omega⟩, ⟨by (with_reducible repeat (first | refine blk_drewN ?_ _ | refine blk_drew ?_ | refine blk_alloc ?_ _)); exact BK157.out⟩, ⟨by repeat (first | (with_reducible first | exact HB.out | apply below_alloc | apply pw_below_drewN | apply below_drew1 | refine below_set ?_ GE157.out) | exact HB.out)⟩⟩
                        · rw [if_neg c26] at H
                          exact absurd H (by simp)
                      · rw [if_neg c25] at H
                        exact absurd H (by simp)
                    · replace c24 := Bool.eq_false_iff.mpr c24
                      subst c24
                      have H1 : (some false) = some r := by rw [if_neg (show ¬ (false = true) by decide)] at H; exact H
                      clear H
                      have H := H1
                      clear H1
                      obtain rfl := Option.some.inj H
                      have hcz29_0 : wr.cell? ⟨gb157, 0, none⟩ = some (.int .i64 ((rd_T46 l0 a1).f0)) := (blk_cell BK157.out 0).trans rfl
                      have hcz29_1 : wr.cell? ⟨gb157, 1, none⟩ = some (.int .i64 ((rd_T46 l0 a1).f1)) := (blk_cell BK157.out 1).trans rfl
                      have hcz29_2 : wr.cell? ⟨gb157, 2, none⟩ = some (.int .i64 ((rd_T46 l0 a1).f2)) := (blk_cell BK157.out 2).trans rfl
                      have hcz29_3 : wr.cell? ⟨gb157, 3, none⟩ = some (.string ((rd_T46 l0 a1).f3)) := (blk_cell BK157.out 3).trans rfl
                      have hcz29_4 : wr.cell? ⟨gb157, 4, none⟩ = some (.string ((rd_T46 l0 a1).f4)) := (blk_cell BK157.out 4).trans rfl
                      have hfz29_0 := blk_frozen BK157.out 0
                      have hfz29_1 := blk_frozen BK157.out 1
                      have hfz29_2 := blk_frozen BK157.out 2
                      have hfz29_3 := blk_frozen BK157.out 3
                      have hfz29_4 := blk_frozen BK157.out 4
                      go_wp2_with (first | (go_at_call 39; (with_reducible refine (ih k2 (by have := HJ7.out; have := HK2.out; omega) _ _ l0 x12_2 (wrap64 (a1 + ((rd_T46 l0 a1).f1))) (((rd_T46 l0 a1).f0) == 7) (wrap64 (a4 + 1)) false _ ?side3 ?side1 ?side2 A23.out).mono ?_); (case side1 => repeat (first | exact (Kd.C_below HR0.out HB.out) | (with_reducible refine Kd.C_alloc ?_ _) | (with_reducible refine Kd.C_drewN ?_ _) | (with_reducible refine Kd.C_drew ?_))); (case side2 => exact HC0.out); (case side3 => first | exact HGU8.out | exact GlobU8.below HGU8.out (by repeat (first | (with_reducible first | exact HB.out | apply below_alloc | apply pw_below_drewN | apply below_drew1 | refine below_set ?_ GE157.out) | exact HB.out)) | exact GlobU8.drawn HGU8.out (by repeat (first | exact Drawn0.refl _ | apply Drawn0.step))); rintro e w30 ⟨rfl, hb⟩; have n0_ := Aside0.mk (blk_below (g := gb157) (o := .cells #[.int .i64 ((rd_T46 l0 a1).f0), .int .i64 ((rd_T46 l0 a1).f1), .int .i64 ((rd_T46 l0 a1).f2), .string ((rd_T46 l0 a1).f3), .string ((rd_T46 l0 a1).f4)] 46 (0, 0)) (by (with_reducible repeat (first | refine blk_drewN ?_ _ | refine blk_drew ?_ | refine blk_alloc ?_ _)); exact BK157.out) hb); have n1_ := Aside0.mk (below_step (by repeat (first | (with_reducible first | exact HB.out | apply below_alloc | apply pw_below_drewN | apply below_drew1 | refine below_set ?_ GE157.out) | exact HB.out)) hb); clear BK157; clear HB; have BK157 := n0_; have HB := n1_; clear n0_ n1_; (try clear hb); (try clear hb2); (try clear hk); (try clear hi)))
                      go_ret
                      exact ⟨by first | rfl | (simp [errW_none, errW_some] <;> rfl) | (simp [*, errW_none, errW_some] <;> rfl), by repeat (first | (with_reducible first | exact HB.out | apply below_alloc | apply pw_below_drewN | apply below_drew1 | refine below_set ?_ GE157.out) | exact HB.out)⟩
                · rw [if_neg c20] at H
                  have c20b0 : decide (x33_2 < ((rd_T46 l0 a1).f2)) = false := decide_eq_false c20
                  clear c20
                  obtain rfl := Option.some.inj H
                  have hcz31_0 : wr.cell? ⟨gb157, 0, none⟩ = some (.int .i64 ((rd_T46 l0 a1).f0)) := (blk_cell BK157.out 0).trans rfl
                  have hcz31_1 : wr.cell? ⟨gb157, 1, none⟩ = some (.int .i64 ((rd_T46 l0 a1).f1)) := (blk_cell BK157.out 1).trans rfl
                  have hcz31_2 : wr.cell? ⟨gb157, 2, none⟩ = some (.int .i64 ((rd_T46 l0 a1).f2)) := (blk_cell BK157.out 2).trans rfl
                  have hcz31_3 : wr.cell? ⟨gb157, 3, none⟩ = some (.string ((rd_T46 l0 a1).f3)) := (blk_cell BK157.out 3).trans rfl
                  have hcz31_4 : wr.cell? ⟨gb157, 4, none⟩ = some (.string ((rd_T46 l0 a1).f4)) := (blk_cell BK157.out 4).trans rfl
                  have hfz31_0 := blk_frozen BK157.out 0
                  have hfz31_1 := blk_frozen BK157.out 1
                  have hfz31_2 := blk_frozen BK157.out 2
                  have hfz31_3 := blk_frozen BK157.out 3
                  have hfz31_4 := blk_frozen BK157.out 4
                  go_wp2
                  go_ret
                  exact ⟨by first | rfl | (simp [errW_none, errW_some] <;> rfl) | (simp [*, errW_none, errW_some] <;> rfl), by repeat (first | (with_reducible first | exact HB.out | apply below_alloc | apply pw_below_drewN | apply below_drew1 | refine below_set ?_ GE157.out) | exact HB.out)⟩
    · rw [if_neg c7] at H
      exact absurd H (by simp)
  · rw [if_neg c6] at H
    exact absurd H (by simp)

end Go.Proofs.YtadfkeipcebmfaaDoor.X

namespace Go.Proofs.YtadfkeipcebmfaaDoor.X
open Go.RowKit Go.Proofs.YtadfkeipcebmfaaDoorW.PrintWords Go.Proofs.YtadfkeipcebmfaaDoorW.PrintLast Go.Proofs.YtadfkeipcebmfaaDoorW.PrintMore
attribute [local go_sem] max2_int min2_int max_two min_two max_three min_three max_four min_four   -- for this text's walks alone
set_option linter.unusedVariables false
set_option linter.unusedSimpArgs false

def jsontext_Check.f (k : Nat) (l0 : List (S46)) : Option (Int) := if (l0.length : Int) = 0 then (some 2) else (if 0 < (l0.length : Int) then (if ((rd_T46 l0 0).f1) = (l0.length : Int) then ((jsontext_check.f k l0 0 (l0.length : Int) false 0).bind fun t162 => (if t162 = true then (some 0) else (some 2))) else (some 2)) else (none))
set_option maxHeartbeats 8000000 in
set_option maxRecDepth 100000 in
theorem jsontext_Check.calls (k : Nat) (A0 : Option Addr) (c0 : Nat) (l0 : List (S46)) (r : Int) (w : World) (hGU8 : GlobU8 w) (hr0 : Kd.C k46 w A0 l0.length l0) (hc0 : l0.length ≤ c0) (h : jsontext_Check.f k l0 = some r) :
    Calls Tryd.prog 16 #[.slice A0 l0.length c0] w fun e w' => e = .returned (.int .i64 r) ∧ Below w.heap.size w w' := by
  have HGU8 := Aside0.mk hGU8
  clear hGU8
  have HR0 := Aside0.mk hr0
  have HC0 := Aside0.mk hc0
  clear hr0 hc0
  have HB := Aside0.mk (Below.refl w.heap.size w)
  have H : (if (l0.length : Int) = 0 then (some 2) else (if 0 < (l0.length : Int) then (if ((rd_T46 l0 0).f1) = (l0.length : Int) then ((jsontext_check.f k l0 0 (l0.length : Int) false 0).bind fun t162 => (if t162 = true then (some 0) else (some 2))) else (some 2)) else (none))) = some r := h
  clear h
  by_cases c2 : (l0.length : Int) = 0
  · rw [if_pos c2] at H
    have c2b0 : ((l0.length : Int) == 0) = true := beq_iff_eq.mpr c2
    have c2b1 : ((l0.length : Int) != 0) = false := bne_eq_false_iff_eq.mpr c2
    clear c2
    obtain rfl := Option.some.inj H
    go_enter Tryd.func16, Tryd.ntmps16
    go_wp2
    go_ret
    exact ⟨by first | rfl | (simp [errW_none, errW_some] <;> rfl) | (simp [*, errW_none, errW_some] <;> rfl), by repeat (first | (with_reducible first | exact HB.out | apply below_alloc | apply pw_below_drewN | apply below_drew1) | exact HB.out)⟩
  · rw [if_neg c2] at H
    have c2b0 : ((l0.length : Int) == 0) = false := beq_eq_false_iff_ne.mpr c2
    have c2b1 : ((l0.length : Int) != 0) = true := bne_iff_ne.mpr c2
    have c2b2 : ¬ (l0 = []) := fun h_ => c2 (by rw [h_]; rfl)
    by_cases c3 : 0 < (l0.length : Int)
    · rw [if_pos c3] at H
      have c3b0 : decide (0 < (l0.length : Int)) = true := decide_eq_true c3
      have c3b1 : decide (0 < l0.length) = true := decide_eq_true (by omega)
      clear c3
      by_cases c4 : ((rd_T46 l0 0).f1) = (l0.length : Int)
      · rw [if_pos c4] at H
        have c4b0 : (((rd_T46 l0 0).f1) == (l0.length : Int)) = true := beq_iff_eq.mpr c4
        have c4b1 : (((rd_T46 l0 0).f1) != (l0.length : Int)) = false := bne_eq_false_iff_eq.mpr c4
        clear c4
        replace H := Option.bind_eq_some_iff.mp H
        obtain ⟨t162, A50, H⟩ := H
        replace H : (if t162 = true then (some 0) else (some 2)) = some r := H
        have A5 := Aside0.mk A50
        clear A50
        by_cases c6 : t162 = true
        · subst c6
          have H1 : (some 0) = some r := by rw [if_pos rfl] at H; exact H
          clear H
          have H := H1
          clear H1
          obtain rfl := Option.some.inj H
          have p161 : 0 ≤ (0 : Int) := (by omega)
          have q161 : 0 < (l0.length : Int) := of_decide_eq_true (by first | (with_reducible assumption) | assumption)
          obtain ⟨ad161, e161, hx161_0, hx161_1, hx161_2, hx161_3, hx161_4⟩ := at_T46 HR0.out 0 p161 q161
          cases e161
          have qi161 : (0 < l0.length) = True := eq_true (by omega)
          (try rw [show ((0 : Int)).toNat = 0 from rfl] at hx161_0)
          (try rw [show 0 * 5 = 0 from rfl] at hx161_0)
          (try rw [Addr.add_zero'] at hx161_0)
          (try rw [show ((0 : Int)).toNat = 0 from rfl] at hx161_1)
          (try rw [show 0 * 5 = 0 from rfl] at hx161_1)
          (try rw [Addr.add_zero'] at hx161_1)
          (try rw [show ((0 : Int)).toNat = 0 from rfl] at hx161_2)
          (try rw [show 0 * 5 = 0 from rfl] at hx161_2)
          (try rw [Addr.add_zero'] at hx161_2)
          (try rw [show ((0 : Int)).toNat = 0 from rfl] at hx161_3)
          (try rw [show 0 * 5 = 0 from rfl] at hx161_3)
          (try rw [Addr.add_zero'] at hx161_3)
          (try rw [show ((0 : Int)).toNat = 0 from rfl] at hx161_4)
          (try rw [show 0 * 5 = 0 from rfl] at hx161_4)
          (try rw [Addr.add_zero'] at hx161_4)
          replace p161 := eq_true p161
          replace q161 := eq_true q161
          go_enter Tryd.func16, Tryd.ntmps16
          go_wp2_with (first | (go_at_call 39; (with_reducible refine (jsontext_check.calls k _ _ l0 0 (l0.length : Int) false 0 true _ ?side3 ?side1 ?side2 A5.out).mono ?_); (case side1 => repeat (first | exact HR0.out | (with_reducible refine Kd.C_alloc ?_ _) | (with_reducible refine Kd.C_drewN ?_ _) | (with_reducible refine Kd.C_drew ?_))); (case side2 => exact HC0.out); (case side3 => first | exact HGU8.out | exact GlobU8.below HGU8.out (by repeat (first | (with_reducible first | exact HB.out | apply below_alloc | apply pw_below_drewN | apply below_drew1) | exact HB.out)) | exact GlobU8.drawn HGU8.out (by repeat (first | exact Drawn0.refl _ | apply Drawn0.step))); rintro e w7 ⟨rfl, hb⟩; have n0_ := Aside0.mk (below_step (by repeat (first | (with_reducible first | exact HB.out | apply below_alloc | apply pw_below_drewN | apply below_drew1) | exact HB.out)) hb); clear HB; have HB := n0_; clear n0_; (try clear hb); (try clear hb2); (try clear hk); (try clear hi)))
          go_ret
          exact ⟨by first | rfl | (simp [errW_none, errW_some] <;> rfl) | (simp [*, errW_none, errW_some] <;> rfl), by repeat (first | (with_reducible first | exact HB.out | apply below_alloc | apply pw_below_drewN | apply below_drew1) | exact HB.out)⟩
        · replace c6 := Bool.eq_false_iff.mpr c6
          subst c6
          have H1 : (some 2) = some r := by rw [if_neg (show ¬ (false = true) by decide)] at H; exact H
          clear H
          have H := H1
          clear H1
          obtain rfl := Option.some.inj H
          have p161 : 0 ≤ (0 : Int) := (by omega)
          have q161 : 0 < (l0.length : Int) := of_decide_eq_true (by first | (with_reducible assumption) | assumption)
          obtain ⟨ad161, e161, hx161_0, hx161_1, hx161_2, hx161_3, hx161_4⟩ := at_T46 HR0.out 0 p161 q161
          cases e161
          have qi161 : (0 < l0.length) = True := eq_true (by omega)
          (try rw [show ((0 : Int)).toNat = 0 from rfl] at hx161_0)
          (try rw [show 0 * 5 = 0 from rfl] at hx161_0)
          (try rw [Addr.add_zero'] at hx161_0)
          (try rw [show ((0 : Int)).toNat = 0 from rfl] at hx161_1)
          (try rw [show 0 * 5 = 0 from rfl] at hx161_1)
          (try rw [Addr.add_zero'] at hx161_1)
          (try rw [show ((0 : Int)).toNat = 0 from rfl] at hx161_2)
          (try rw [show 0 * 5 = 0 from rfl] at hx161_2)
          (try rw [Addr.add_zero'] at hx161_2)
          (try rw [show ((0 : Int)).toNat = 0 from rfl] at hx161_3)
          (try rw [show 0 * 5 = 0 from rfl] at hx161_3)
          (try rw [Addr.add_zero'] at hx161_3)
          (try rw [show ((0 : Int)).toNat = 0 from rfl] at hx161_4)
          (try rw [show 0 * 5 = 0 from rfl] at hx161_4)
          (try rw [Addr.add_zero'] at hx161_4)
          replace p161 := eq_true p161
          replace q161 := eq_true q161
          go_enter Tryd.func16, Tryd.ntmps16
          go_wp2_with (first | (go_at_call 39; (with_reducible refine (jsontext_check.calls k _ _ l0 0 (l0.length : Int) false 0 false _ ?side3 ?side1 ?side2 A5.out).mono ?_); (case side1 => repeat (first | exact HR0.out | (with_reducible refine Kd.C_alloc ?_ _) | (with_reducible refine Kd.C_drewN ?_ _) | (with_reducible refine Kd.C_drew ?_))); (case side2 => exact HC0.out); (case side3 => first | exact HGU8.out | exact GlobU8.below HGU8.out (by repeat (first | (with_reducible first | exact HB.out | apply below_alloc | apply pw_below_drewN | apply below_drew1) | exact HB.out)) | exact GlobU8.drawn HGU8.out (by repeat (first | exact Drawn0.refl _ | apply Drawn0.step))); rintro e w8 ⟨rfl, hb⟩; have n0_ := Aside0.mk (below_step (by repeat (first | (with_reducible first | exact HB.out | apply below_alloc | apply pw_below_drewN | apply below_drew1) | exact HB.out)) hb); clear HB; have HB := n0_; clear n0_; (try clear hb); (try clear hb2); (try clear hk); (try clear hi)))
          go_ret
          exact ⟨by first | rfl | (simp [errW_none, errW_some] <;> rfl) | (simp [*, errW_none, errW_some] <;> rfl), by repeat (first | (with_reducible first | exact HB.out | apply below_alloc | apply pw_below_drewN | apply below_drew1) | exact HB.out)⟩
      · rw [if_neg c4] at H
        have c4b0 : (((rd_T46 l0 0).f1) == (l0.length : Int)) = false := beq_eq_false_iff_ne.mpr c4
        have c4b1 : (((rd_T46 l0 0).f1) != (l0.length : Int)) = true := bne_iff_ne.mpr c4
        obtain rfl := Option.some.inj H
        have p161 : 0 ≤ (0 : Int) := (by omega)
        have q161 : 0 < (l0.length : Int) := of_decide_eq_true (by first | (with_reducible assumption) | assumption)
        obtain ⟨ad161, e161, hx161_0, hx161_1, hx161_2, hx161_3, hx161_4⟩ := at_T46 HR0.out 0 p161 q161
        cases e161
        have qi161 : (0 < l0.length) = True := eq_true (by omega)
        (try rw [show ((0 : Int)).toNat = 0 from rfl] at hx161_0)
        (try rw [show 0 * 5 = 0 from rfl] at hx161_0)
        (try rw [Addr.add_zero'] at hx161_0)
        (try rw [show ((0 : Int)).toNat = 0 from rfl] at hx161_1)
        (try rw [show 0 * 5 = 0 from rfl] at hx161_1)
        (try rw [Addr.add_zero'] at hx161_1)
        (try rw [show ((0 : Int)).toNat = 0 from rfl] at hx161_2)
        (try rw [show 0 * 5 = 0 from rfl] at hx161_2)
        (try rw [Addr.add_zero'] at hx161_2)
        (try rw [show ((0 : Int)).toNat = 0 from rfl] at hx161_3)
        (try rw [show 0 * 5 = 0 from rfl] at hx161_3)
        (try rw [Addr.add_zero'] at hx161_3)
        (try rw [show ((0 : Int)).toNat = 0 from rfl] at hx161_4)
        (try rw [show 0 * 5 = 0 from rfl] at hx161_4)
        (try rw [Addr.add_zero'] at hx161_4)
        replace p161 := eq_true p161
        replace q161 := eq_true q161
        go_enter Tryd.func16, Tryd.ntmps16
        go_wp2
        go_ret
        exact ⟨by first | rfl | (simp [errW_none, errW_some] <;> rfl) | (simp [*, errW_none, errW_some] <;> rfl), by repeat (first | (with_reducible first | exact HB.out | apply below_alloc | apply pw_below_drewN | apply below_drew1) | exact HB.out)⟩
    · rw [if_neg c3] at H
      exact absurd H (by simp)

end Go.Proofs.YtadfkeipcebmfaaDoor.X

namespace Go.Proofs.YtadfkeipcebmfaaDoor.X
open Go.RowKit Go.Proofs.YtadfkeipcebmfaaDoorW.PrintWords
set_option linter.unusedVariables false
set_option linter.unusedSimpArgs false
theorem tl (a : ByteArray) : a.toList = a.data.toList := ByteArray.toList_eq a
theorem w64' {x : Int} (h0 : -9223372036854775808 ≤ x) (h1 : x ≤ 9223372036854775807) : wrap64 x = x := by unfold wrap64; omega
theorem idx_num (c : UInt8) : (Lib.indexByte [45, 48, 49, 50, 51, 52, 53, 54, 55, 56, 57] c < 0) = (¬ (c = 45 ∨ isDig c = true)) := by
  have := all_bytes (p := fun c => decide (Lib.indexByte [45, 48, 49, 50, 51, 52, 53, 54, 55, 56, 57] c < 0) == !(decide (c = 45) || isDig c)) (by decide +kernel) c
  simp only [beq_iff_eq] at this
  by_cases h1 : c = 45 <;> by_cases h2 : isDig c = true <;> simp_all
theorem dig_begins (c : UInt8) (h : c = 45 ∨ isDig c = true) : begins c = true ∧ isBlank c = false ∧ c ≠ 123 ∧ c ≠ 91 ∧ c ≠ 34 ∧ c ≠ 116 ∧ c ≠ 102 ∧ c ≠ 110 := by
  have := all_bytes (p := fun c => !(decide (c = 45) || isDig c) || (begins c && !isBlank c && decide (c ≠ 123) && decide (c ≠ 91) && decide (c ≠ 34) && decide (c ≠ 116) && decide (c ≠ 102) && decide (c ≠ 110))) (by decide +kernel) c
  rcases h with h | h
  · subst h
    decide
  · simp only [h, Bool.or_true, Bool.not_true, Bool.false_or, Bool.and_eq_true, decide_eq_true_eq, Bool.not_eq_true'] at this
    obtain ⟨⟨⟨⟨⟨⟨⟨a, b⟩, c⟩, d⟩, e⟩, f⟩, g⟩, i⟩ := this
    exact ⟨a, b, c, d, e, f, g, i⟩
theorem num_no (c : UInt8) (r : Bs) (h : ¬ (c = 45 ∨ isDig c = true)) : ∃ l e, num (c :: r) = .bad l e := by
  have h1 : c ≠ 45 := fun e => h (.inl e)
  have h2 : isDig c = false := by
    cases hh : isDig c with
    | false => rfl
    | true => exact absurd (.inr hh) h
  have h3 : (c == 48) = false := by
    simp only [beq_eq_false_iff_ne, ne_eq]
    rintro rfl
    exact absurd h2 (by decide)
  refine ⟨c :: r, 5, ?_⟩
  have e1 : isC 45 (c :: r) = false := by simpa [isC] using h1
  have e2 : isC 48 (c :: r) = false := h3
  rw [num, e1]
  simp only [Bool.false_eq_true, if_false]
  rw [num1, e2]
  simp [digits, h2]
theorem digits_five (l r : Bs) (e : Int) (h : digits l = .bad r e) : e = 5 := by
  cases l with
  | nil => injection h with _ h; exact h.symm
  | cons c l =>
    simp only [digits] at h
    split at h
    · cases h
    · injection h with _ h; exact h.symm
theorem num_five (l r : Bs) (e : Int) (h : num l = .bad r e) : e = 5 := by
  unfold num at h
  have h1 : ∀ l r e, num1 l = .bad r e → e = 5 := by
    intro l r e h
    unfold num1 at h
    split at h
    · cases h
    · exact digits_five _ _ _ h
  have h2 : ∀ l r e, num2 l = .bad r e → e = 5 := by
    intro l r e h
    unfold num2 at h
    split at h
    · exact digits_five _ _ _ h
    · cases h
  have h3 : ∀ l r e, num3 l = .bad r e → e = 5 := by
    intro l r e h
    unfold num3 at h
    split at h
    · split at h <;> exact digits_five _ _ _ h
    · cases h
  split at h
  · rename_i r1 e1 hh
    injection h with _ h
    subst h
    exact h1 _ _ _ hh
  · split at h
    · rename_i r1 e1 hh
      injection h with _ h
      subst h
      exact h2 _ _ _ hh
    · exact h3 _ _ _ h
theorem number_law (a : ByteArray) (h : a.size ≤ 65536) : jsontext_number.f a = some (isNum a.data.toList) := by
  unfold jsontext_number.f
  rw [tl]
  have hs : a.data.toList.length = a.size := by simp
  have hbk : str a.data.toList = a := str_back a
  generalize hl : a.data.toList = l at hs hbk
  cases l with
  | nil => rw [if_pos rfl]; rfl
  | cons c r =>
    rw [if_neg (by simp), if_pos (by simp at hs; omega)]
    have hb : bt a 0 = (c.toNat : Int) := by
      have h0 : 0 < a.size := by simp at hs; omega
      unfold bt
      rw [dif_pos (by simpa using h0)]
      have : a[(0 : Int).toNat]'(by simpa using h0) = a.data.toList[0]'(by simp [hl]) := rfl
      rw [this]
      congr 2
      simp [hl]
    rw [strings_IndexByte.f, hb]
    have hc : ((c.toNat : Int)).toNat.toUInt8 = c := by simp
    rw [hc]
    simp only [Option.bind_some]
    have hx := idx_num c
    by_cases hd : c = 45 ∨ isDig c = true
    · rw [if_neg (by rw [hx]; exact fun hn => hn hd)]
      obtain ⟨b1, b2, b3, b4, b5, b6, b7, b8⟩ := dig_begins c hd
      have hp : parse (c :: r) = match num (c :: r) with
          | .bad r5 e => (.nil, (((c :: r).length - r5.length : Nat) : Int), e)
          | .ok r5 _ => match blanks r5 with
            | [] => (.leaf [] 4 ((c :: r).take ((c :: r).length - r5.length)) .nil, 0, 0)
            | c' :: r' => (.nil, (((c :: r).length - (r'.length + 1) : Nat) : Int), 5) := by
        unfold parse
        rw [if_neg (by omega)]
        have e1 : blanks (c :: r) = c :: r := by rw [blanks, b2]; rfl
        rw [e1, value]
        rw [if_neg (by rw [b1]; simp), if_neg b3, if_neg b4, if_neg b5, if_neg b6, if_neg b7, if_neg b8, number]
        cases num (c :: r) with
        | bad r5 e => rfl
        | ok r5 u => rfl
      have hpf : ∀ (f : F) (p e : Int), parse (c :: r) = (f, p, e) → jsontext_Parse.f a = some (f.flat, p, e) := by
        intro f p e h
        rw [jsontext_Parse.f, hl, h]
      cases hn : num (c :: r) with
      | bad r5 e =>
        obtain rfl := num_five _ _ _ hn
        rw [hpf .nil _ 5 (by rw [hp, hn]), Option.bind_some, if_neg (show ¬ ((5 : Int) = 0) by decide), isNum, hn]
      | ok r5 u =>
        have hlt := num_len _ _ _ hn
        cases hb5 : blanks r5 with
        | cons c' r' =>
          rw [hpf .nil (((c :: r).length - (r'.length + 1) : Nat) : Int) 5 (by rw [hp, hn]; simp only; rw [hb5]), Option.bind_some, if_neg (show ¬ ((5 : Int) = 0) by decide)]
          have : r5 ≠ [] := by rintro rfl; simp [blanks] at hb5
          rw [isNum, hn]
          cases r5 with
          | nil => exact absurd rfl this
          | cons _ _ => rfl
        | nil =>
          rw [hpf (.leaf [] 4 ((c :: r).take ((c :: r).length - r5.length)) .nil) 0 0 (by rw [hp, hn]; simp only; rw [hb5]), Option.bind_some, if_pos rfl]
          show (if (0 : Int) < ((1 : Nat) : Int) then (if (rd_T46 [(⟨4, 1, 0, str [], str (List.take ((c :: r).length - r5.length) (c :: r))⟩ : Nd)] 0).f0 = 4 then some ((rd_T46 [(⟨4, 1, 0, str [], str (List.take ((c :: r).length - r5.length) (c :: r))⟩ : Nd)] 0).f4.toList == c :: r) else some false) else none) = _
          rw [if_pos (by decide)]
          have e4 : ∀ t : Bs, (rd_T46 [(⟨4, 1, 0, str [], str t⟩ : Nd)] 0) = ⟨4, 1, 0, str [], str t⟩ := fun _ => rfl
          rw [e4, if_pos rfl, tl]
          congr 1
          rw [isNum, hn]
          show (List.take ((c :: r).length - r5.length) (c :: r) == c :: r) = _
          cases r5 with
          | nil => simp
          | cons c5 r6 =>
            simp only [beq_eq_false_iff_ne, ne_eq]
            intro he
            have := congrArg List.length he
            rw [List.length_take] at this
            simp at this hlt
            omega
    · rw [if_pos (by rw [hx]; exact hd)]
      obtain ⟨l5, e5, h5⟩ := num_no c r hd
      rw [isNum, h5]
/-- wrong, the plain law. -/
theorem wrong_law (k : Nat) (x : Nd) (keyed : Bool) (deep : Int) (hk : 3 ≤ k) (h3 : x.f3.size ≤ 9223372036854775807) (h4 : x.f4.size ≤ 9223372036854775807) :
    jsontext_wrong.f k x.f0 x.f1 x.f2 x.f3 x.f4 keyed deep = some (!(okN x keyed && decide (1 ≤ x.f1) && decide (deep < 32))) := by
  obtain ⟨k, rfl⟩ : ∃ k', k = k' + 3 := ⟨k - 3, by omega⟩
  obtain ⟨f0, f1, f2, f3, f4⟩ := x
  simp only at h3 h4 ⊢
  have hv3 : utf8_ValidString.f f3 = some (Lib.validD f3.data.toList) := by rw [utf8_ValidString.f, if_pos h3]
  have hv4 : utf8_ValidString.f f4 = some (Lib.validD f4.data.toList) := by rw [utf8_ValidString.f, if_pos h4]
  have hj2 : ∀ (k : Nat) (b : Bool), jsontext_wrong.j2 (k + 1) b f0 f1 f2 f3 f4 = some (b || !(if f0 = 4 then decide (f4.size ≤ 65536) && isNum f4.data.toList else if f0 = 5 then Lib.validD f4.data.toList else f4.data.toList.isEmpty)) := by
    intro k b
    rw [jsontext_wrong.j2, hv4, tl]
    cases b with
    | true => rfl
    | false =>
      rw [if_neg (by decide)]
      by_cases c4 : f0 = 4
      · rw [if_pos c4, if_pos c4]
        by_cases c5 : (f4.size : Int) > 65536
        · rw [if_pos c5]
          have : ¬ f4.size ≤ 65536 := by omega
          simp [this]
        · rw [if_neg c5, number_law f4 (by omega)]
          have : f4.size ≤ 65536 := by omega
          simp [this]
      · rw [if_neg c4, if_neg c4]
        by_cases c5 : f0 = 5
        · rw [if_pos c5, if_pos c5]
          rfl
        · rw [if_neg c5, if_neg c5]
          cases f4.data.toList <;> rfl
  have hj1 : ∀ (k : Nat) (b : Bool), jsontext_wrong.j1 (k + 2) keyed b f0 f1 f2 f3 f4 = some (b || !(f3.data.toList.isEmpty || keyed) || !Lib.validD f3.data.toList || !(if f0 = 4 then decide (f4.size ≤ 65536) && isNum f4.data.toList else if f0 = 5 then Lib.validD f4.data.toList else f4.data.toList.isEmpty)) := by
    intro k b
    rw [jsontext_wrong.j1, hv3, tl]
    simp only [Option.bind_some, hj2]
    cases b <;> cases keyed <;> cases hl : f3.data.toList <;> simp
  have hj0 : ∀ (k : Nat) (b : Bool), jsontext_wrong.j0 (k + 3) keyed b f0 f1 f2 f3 f4 = some (b || (decide (0 < f2) && decide (f0 < 6)) || !(f3.data.toList.isEmpty || keyed) || !Lib.validD f3.data.toList || !(if f0 = 4 then decide (f4.size ≤ 65536) && isNum f4.data.toList else if f0 = 5 then Lib.validD f4.data.toList else f4.data.toList.isEmpty)) := by
    intro k b
    rw [jsontext_wrong.j0, hj1, hj1]
    cases b with
    | true => simp
    | false =>
      by_cases c : f2 > 0
      · rw [if_neg (by decide), if_pos c]
        simp [c]
      · rw [if_neg (by decide), if_neg c]
        have : ¬ 0 < f2 := by omega
        simp [this]
  rw [jsontext_wrong.f, hj0, hj0, okN]
  generalize (if f0 = 4 then decide (f4.size ≤ 65536) && isNum f4.data.toList else if f0 = 5 then Lib.validD f4.data.toList else f4.data.toList.isEmpty) = T
  generalize (f3.data.toList.isEmpty || keyed) = K
  generalize Lib.validD f3.data.toList = V
  by_cases a1 : f0 < 1
  · have : ¬ 1 ≤ f0 := by omega
    simp [a1, this]
  · by_cases a2 : f0 > 7
    · have : ¬ f0 ≤ 7 := by omega
      simp [a2, this]
    · by_cases a3 : f1 < 1
      · have : ¬ 1 ≤ f1 := by omega
        simp [a3, this]
      · by_cases a4 : f2 < 0
        · have : ¬ 0 ≤ f2 := by omega
          simp [a4, this]
        · rw [if_neg a1, if_neg a2, if_neg a3, if_neg a4]
          have b1 : 1 ≤ f0 := by omega
          have b2 : f0 ≤ 7 := by omega
          have b3 : 1 ≤ f1 := by omega
          have b4 : 0 ≤ f2 := by omega
          by_cases a5 : deep ≥ 32
          · have : ¬ deep < 32 := by omega
            simp [a5, this]
          · have c5 : deep < 32 := by omega
            by_cases a6 : 0 < f2 <;> by_cases a7 : f0 < 6
            · have : ¬ f2 ≤ 0 := by omega
              have : ¬ 6 ≤ f0 := by omega
              simp [*]
            · have : 6 ≤ f0 := by omega
              simp [*]
            · have : f2 ≤ 0 := by omega
              simp [*]
            · have : f2 ≤ 0 := by omega
              simp [*]
end Go.Proofs.YtadfkeipcebmfaaDoor.X

namespace Go.Proofs.YtadfkeipcebmfaaDoor.X
open Go.RowKit Go.Proofs.YtadfkeipcebmfaaDoorW.PrintWords
set_option linter.unusedVariables false
set_option linter.unusedSimpArgs false
def fit (l : List Nd) : Bool := decide (l.length ≤ 1099511627776) && l.all fun x => decide (x.f3.size ≤ 1000000) && decide (x.f4.size ≤ 1000000) && decide (x.f2 ≤ 9223372036854775807) && decide (-9223372036854775808 ≤ x.f1) && decide (x.f1 ≤ 9223372036854775807)
theorem fit_len {l : List Nd} (h : fit l = true) : l.length ≤ 1099511627776 := by
  unfold fit at h
  simp only [Bool.and_eq_true, decide_eq_true_eq] at h
  exact h.1
theorem fit_at {l : List Nd} (h : fit l = true) {x : Nd} (hx : x ∈ l) : x.f3.size ≤ 1000000 ∧ x.f4.size ≤ 1000000 ∧ x.f2 ≤ 9223372036854775807 ∧ -9223372036854775808 ≤ x.f1 ∧ x.f1 ≤ 9223372036854775807 := by
  unfold fit at h
  simp only [Bool.and_eq_true, decide_eq_true_eq, List.all_eq_true] at h
  obtain ⟨⟨⟨⟨a, b⟩, c⟩, d⟩, e⟩ := h.2 x hx
  exact ⟨a, b, c, d, e⟩
theorem rd_cast (l : List Nd) (p : Nat) (x : Nd) (r : List Nd) (h : l.drop p = x :: r) : rd_T46 l (p : Int) = x ∧ p < l.length ∧ l.drop (p + 1) = r ∧ x ∈ l := by
  have hp : p < l.length := by
    have := congrArg List.length h
    simp at this
    omega
  have e := List.drop_eq_getElem_cons hp
  rw [h] at e
  injection e with e1 e2
  refine ⟨?_, hp, e2.symm, ?_⟩
  · unfold rd_T46
    rw [Int.toNat_natCast, List.getD_eq_getElem?_getD, List.getElem?_eq_getElem hp]
    exact e1.symm
  · rw [e1]
    exact List.getElem_mem hp
/-- What check answers. -/
def chk (o : Option (F × List Nd)) (p en : Nat) : Bool := match o with
  | some (t, _) => decide (p + t.flat.length ≤ en)
  | none => false
def chks (o : Option (F × List Nd)) (p en : Nat) : Bool := match o with
  | some (t, _) => decide (p + t.flat.length = en)
  | none => false
/-- check, d deep at most. -/
def ChkOk (l : List Nd) (d : Nat) : Prop := ∀ (deep : Nat) (keyed : Bool) (p en k : Nat), d + deep = 32 → p < en → en ≤ l.length → 3 * (l.length - p) + 4 ≤ k → jsontext_check.f k l (p : Int) (en : Int) keyed (deep : Int) = some (chk (dec d keyed (l.drop p)) p en)
theorem loop_law (l : List Nd) (hl : l.length ≤ 1099511627776) (d : Nat) (hd : ChkOk l d) (deep : Nat) (hdd : d + 1 + deep = 32) (f0 f1 f2 : Int) (f3 f4 : ByteArray) (at_ en : Nat) (hen : en ≤ l.length) (he1 : (en : Int) = (at_ : Int) + f1) (hN : f2 ≤ 9223372036854775807) :
    ∀ (n p : Nat) (i : Int) (k : Nat), 0 ≤ i → i + n = f2 → p ≤ l.length → 3 * (l.length - p) + 5 ≤ k →
      jsontext_check.l0 k l (at_ : Int) (deep : Int) (p : Int) f2 i f0 f1 f2 f3 f4 = some (chks (kids (dec d (f0 == 7)) n (l.drop p)) p en)
  | 0, p, i, k, h0, hi, hp, hk => by
    obtain ⟨k, rfl⟩ : ∃ k', k = k' + 1 := ⟨k - 1, by omega⟩
    rw [jsontext_check.l0, if_neg (by omega)]
    simp only [kids, chks, F.flat, List.length_nil, Nat.add_zero]
    rw [w64' (by omega) (by omega), ← he1]
    congr 1
    by_cases h : p = en
    · subst h
      simp
    · refine (beq_false_of_ne (show (p : Int) ≠ (en : Int) by omega)).trans (Eq.symm ?_)
      exact decide_eq_false h
  | n + 1, p, i, k, h0, hi, hp, hk => by
    obtain ⟨k, rfl⟩ : ∃ k', k = k' + 1 := ⟨k - 1, by omega⟩
    rw [jsontext_check.l0, if_pos (by omega), w64' (x := (at_ : Int) + f1) (by omega) (by omega), ← he1]
    by_cases hpe : (p : Int) ≥ (en : Int)
    · rw [if_pos hpe]
      congr 1
      simp only [kids, chks]
      cases h1 : dec d (f0 == 7) (l.drop p) with
      | none => rfl
      | some x =>
        obtain ⟨t, r⟩ := x
        obtain ⟨a1, a2, a3⟩ := dec_ok _ _ _ _ _ h1
        have := one_pos a2
        simp only
        cases h2 : kids (dec d (f0 == 7)) n r with
        | none => rfl
        | some y =>
          simp only [F.flat_app, List.length_append]
          exact (decide_eq_false (by omega)).symm
    · rw [if_neg hpe, w64' (x := (deep : Int) + 1) (by omega) (by omega)]
      have hc := hd (deep + 1) (f0 == 7) p en k (by omega) (by omega) hen (by omega)
      rw [show ((deep : Int) + 1) = ((deep + 1 : Nat) : Int) by omega, hc]
      simp only [Option.bind_some, kids, chks, chk]
      cases h1 : dec d (f0 == 7) (l.drop p) with
      | none => simp
      | some x =>
        obtain ⟨t, r⟩ := x
        obtain ⟨a1, a2, a3⟩ := dec_ok _ _ _ _ _ h1
        have hpos := one_pos a2
        obtain ⟨x0, tl0, hx0⟩ : ∃ x0 tl0, t.flat = x0 :: tl0 := by
          cases hf : t.flat with
          | nil => rw [hf] at hpos; simp at hpos
          | cons a b => exact ⟨a, b, rfl⟩
        obtain ⟨e1, e2, e3, e4⟩ := rd_cast l p x0 (tl0 ++ r) (by rw [a1, hx0]; rfl)
        have hsz : x0.f1 = (t.flat.length : Nat) := by
          match t, a2, hx0 with
          | .leaf k1 d1 t1 .nil, _, hx0 =>
            simp only [F.flat, List.cons.injEq] at hx0
            rw [← hx0.1]
            rfl
          | .node k1 d1 ks1 .nil, _, hx0 =>
            simp only [F.flat, List.cons.injEq] at hx0
            rw [← hx0.1]
            simp [F.flat]
        simp only
        by_cases hle : p + t.flat.length ≤ en
        · rw [if_pos (decide_eq_true hle), if_pos (by omega), if_pos (by omega), e1, hsz]
          have hlen : p + t.flat.length ≤ l.length := by omega
          rw [w64' (by omega) (by omega), w64' (x := i + 1) (by omega) (by omega)]
          have hr : r = l.drop (p + t.flat.length) := by
            rw [← List.drop_drop, a1]
            simp
          have := loop_law l hl d hd deep hdd f0 f1 f2 f3 f4 at_ en hen he1 hN n (p + t.flat.length) (i + 1) k (by omega) (by omega) hlen (by omega)
          rw [show ((p : Int) + (t.flat.length : Nat)) = ((p + t.flat.length : Nat) : Int) by omega, this, ← hr]
          simp only [chks]
          cases h2 : kids (dec d (f0 == 7)) n r with
          | none => rfl
          | some y =>
            simp only [F.flat_app, List.length_append, Nat.add_assoc]
        · rw [if_neg (by simp; omega)]
          congr 1
          cases h2 : kids (dec d (f0 == 7)) n r with
          | none => rfl
          | some y =>
            simp only [F.flat_app, List.length_append]
            exact (decide_eq_false (by omega)).symm
theorem check_law (l : List Nd) (hl : fit l = true) : ∀ d, ChkOk l d
  | d, deep, keyed, p, en, k, hdd, hp, hen, hk => by
    have hlen := fit_len hl
    obtain ⟨k, rfl⟩ : ∃ k', k = k' + 1 := ⟨k - 1, by omega⟩
    obtain ⟨x, r, hx⟩ : ∃ x r, l.drop p = x :: r := ⟨_, _, List.drop_eq_getElem_cons (show p < l.length by omega)⟩
    obtain ⟨e1, e2, e3, e4⟩ := rd_cast l p x r hx
    obtain ⟨s3, s4, hn2, hs0, hs1⟩ := fit_at hl e4
    rw [jsontext_check.f, if_pos (by omega), if_pos (by omega), e1, wrong_law k x keyed deep (by omega) (by omega) (by omega)]
    simp only [Option.bind_some]
    match d, hdd with
    | 0, hdd =>
      obtain ⟨k, rfl⟩ : ∃ k', k = k' + 1 := ⟨k - 1, by omega⟩
      rw [if_pos (by rw [decide_eq_false (by omega : ¬ (deep : Int) < 32)]; simp), jsontext_check.j0, if_pos rfl]
      rfl
    | d + 1, hdd =>
      obtain ⟨k, rfl⟩ : ∃ k', k = k' + 1 := ⟨k - 1, by omega⟩
      have hdec : dec (d + 1) keyed (x :: r) = if okN x keyed then match kids (dec d (x.f0 == 7)) x.f2.toNat r with
        | none => none
        | some (ks, r') => if x.f1 = ((r.length - r'.length + 1 : Nat) : Int) then some (if x.f0 < 6 then .leaf x.f3.data.toList x.f0 x.f4.data.toList .nil else .node x.f3.data.toList x.f0 ks .nil, r') else none
        else none := rfl
      rw [hx, decide_eq_true (by omega : (deep : Int) < 32), Bool.and_true]
      by_cases hok : okN x keyed = true
      · by_cases hs : 1 ≤ x.f1
        · rw [hok, decide_eq_true hs, if_neg (by simp), jsontext_check.j0, w64' (x := (en : Int) - (p : Int)) (by omega) (by omega)]
          by_cases hov : x.f1 > (en : Int) - (p : Int)
          · rw [if_pos (decide_eq_true hov), hdec, if_pos hok]
            congr 1
            cases hk2 : kids (dec d (x.f0 == 7)) x.f2.toNat r with
            | none => rfl
            | some y =>
              obtain ⟨ks, r'⟩ := y
              simp only
              split
              · rename_i hsz
                have hfl := (dec_ok (d + 1) keyed (x :: r) _ r' (by rw [hdec, if_pos hok, hk2]; simp only; rw [if_pos hsz])).1
                simp only [chk]
                have := congrArg List.length hfl
                simp at this
                have h6 := (kids_ok (dec_ok d (x.f0 == 7)) _ _ _ _ hk2).1
                have h7 := congrArg List.length h6
                simp at h7
                exact (decide_eq_false (by omega)).symm
              · rfl
          · rw [if_neg (by simp; omega), w64' (x := (p : Int) + 1) (by omega) (by omega)]
            obtain ⟨S, hS⟩ : ∃ S : Nat, x.f1 = (S : Int) := ⟨x.f1.toNat, by omega⟩
            have h0 : 0 ≤ x.f2 := by
              simp only [okN, Bool.and_eq_true, decide_eq_true_eq] at hok
              omega
            have hll := loop_law l hlen d (check_law l hl d) deep (by omega) x.f0 x.f1 x.f2 x.f3 x.f4 p (p + S) (by omega) (by omega) hn2 x.f2.toNat (p + 1) 0 k (by omega) (by omega) (by omega) (by omega)
            rw [show ((p : Int) + 1) = ((p + 1 : Nat) : Int) by omega, hll, e3, hdec, if_pos hok]
            congr 1
            cases hk2 : kids (dec d (x.f0 == 7)) x.f2.toNat r with
            | none => rfl
            | some y =>
              obtain ⟨ks, r'⟩ := y
              have h6 := (kids_ok (dec_ok d (x.f0 == 7)) _ _ _ _ hk2).1
              have h7 := congrArg List.length h6
              simp at h7
              simp only [chks]
              by_cases hsz : x.f1 = ((r.length - r'.length + 1 : Nat) : Int)
              · rw [if_pos hsz]
                have hfl := (dec_ok (d + 1) keyed (x :: r) _ r' (by rw [hdec, if_pos hok, hk2]; simp only; rw [if_pos hsz])).1
                simp only [chk]
                have h8 := congrArg List.length hfl
                simp at h8
                rw [decide_eq_true (by omega), decide_eq_true (by omega)]
              · rw [if_neg hsz]
                exact decide_eq_false (by omega)
        · have hs2 : decide (1 ≤ x.f1) = false := decide_eq_false hs
          rw [hs2, if_pos (by simp), jsontext_check.j0, if_pos rfl, hdec, if_pos hok]
          congr 1
          cases hk2 : kids (dec d (x.f0 == 7)) x.f2.toNat r with
          | none => rfl
          | some y =>
            simp only
            rw [if_neg (by omega)]
            rfl
      · have hf : okN x keyed = false := by simpa using hok
        rw [hf, if_pos (by simp), jsontext_check.j0, if_pos rfl, hdec, if_neg hok]
        rfl
theorem dec_size (d : Nat) (keyed : Bool) (x : Nd) (r : List Nd) (t : F) (r' : List Nd) (h : dec d keyed (x :: r) = some (t, r')) : x.f1 = (t.flat.length : Nat) := by
  obtain ⟨a1, a2, a3⟩ := dec_ok _ _ _ _ _ h
  match t, a2, a1 with
  | .leaf k1 d1 t1 .nil, _, hx0 =>
    simp only [F.flat, List.cons_append, List.cons.injEq] at hx0
    rw [hx0.1]
    rfl
  | .node k1 d1 ks1 .nil, _, hx0 =>
    simp only [F.flat, List.cons_append, List.cons.injEq] at hx0
    rw [hx0.1]
    simp [F.flat]
theorem Check_law (l : List Nd) (hl : fit l = true) (k : Nat) (hk : 3 * l.length + 4 ≤ k) : jsontext_Check.f k l = some (if (tree? l).isSome then 0 else 2) := by
  rw [jsontext_Check.f]
  cases l with
  | nil => rfl
  | cons x r =>
    have hl2 := fit_len hl
    rw [if_neg (by simp; omega), if_pos (by simp)]
    have e0 : rd_T46 (x :: r) 0 = x := rfl
    rw [e0]
    have hc := check_law (x :: r) hl 32 0 false 0 (x :: r).length k rfl (by simp) (Nat.le_refl _) (by omega)
    rw [show jsontext_check.f k (x :: r) 0 ((x :: r).length : Int) false 0 = _ from hc]
    simp only [List.drop_zero, Option.bind_some]
    cases hd : dec 32 false (x :: r) with
    | none =>
      have ht : tree? (x :: r) = none := by unfold tree?; rw [hd]
      rw [ht]
      simp [chk]
    | some y =>
      obtain ⟨t, r'⟩ := y
      have hs := dec_size _ _ _ _ _ _ hd
      have hf := congrArg List.length (dec_ok _ _ _ _ _ hd).1
      simp only [List.length_append] at hf
      have hch : chk (some (t, r')) 0 (x :: r).length = true := decide_eq_true (by omega)
      rw [hch]
      cases r' with
      | nil =>
        have ht : tree? (x :: r) = some t := by unfold tree?; rw [hd]
        rw [if_pos (by simp at hf ⊢; omega), if_pos rfl, ht]
        rfl
      | cons a b =>
        have ht : tree? (x :: r) = none := by unfold tree?; rw [hd]
        rw [if_neg (by simp at hf ⊢; omega), ht]
        rfl
end Go.Proofs.YtadfkeipcebmfaaDoor.X

namespace Go.Proofs.YtadfkeipcebmfaaDoor.X
open Go.RowKit Go.Proofs.YtadfkeipcebmfaaDoorW.PrintWords
set_option linter.unusedVariables false
set_option linter.unusedSimpArgs false
/-- jsontext.Print. -/
def jsontext_Print.f (l : List (S46)) : Option (ByteArray × Int) :=
  if fit l then match tree? l with
    | some t => if t.txt.length ≤ 17592186044416 then some (str t.txt, 0) else none
    | none => some (⟨#[]⟩, 2)
  else none
theorem write_root {t : F} (h : WriteOk t) (B b : Nat) (ad : Addr) (cp N : Nat) (l : List Nd) (w0 w : World) (hN : N = l.length) (hl : l = t.flat) (hcp : N ≤ cp) (hlen : N ≤ 1099511627776) (hbig : t.txt.length ≤ 17592186044416)
    (hC : Kd.C kN w0 (some ad) N l) (hB : w0.heap.size ≤ B) (hbel : Below w0.heap.size w0 w) (hbld : Bld B b [] w) :
    Calls Tryd.prog 37 #[.pointer (some ⟨b, 0, none⟩), .slice (some ad) N cp, .int .i64 0] w fun e w' => (∃ x, e = .returned x) ∧ Bld B b t.txt w' ∧ Below B w w' := by
  have := h.use B b ad cp N l [] [] [] w0 w hN (by rw [hl]; simp) hcp hlen (by simpa [F.txt] using hbig) hC hB hbel hbld
  refine Calls.mono this ?_
  rintro e w' ⟨rfl, h2, h3, _⟩
  exact ⟨⟨_, rfl⟩, by simpa [F.txt] using h2, h3⟩
set_option maxHeartbeats 1000000 in
set_option maxRecDepth 100000 in
theorem jsontext_Print.calls (A0 : Option Addr) (c0 : Nat) (l0 : List (S46)) (r1 : ByteArray) (r2 : Int) (w : World) (hGU8 : GlobU8 w) (hr0 : Kd.C k46 w A0 l0.length l0) (hc0 : l0.length ≤ c0) (h : jsontext_Print.f l0 = some (r1, r2)) :
    Calls Tryd.prog 15 #[.slice A0 l0.length c0] w fun e w' => e = .returned (.tuple #[.string r1, .int .i64 r2]) ∧ Below w.heap.size w w' := by
  unfold jsontext_Print.f at h
  split at h
  · rename_i hfit
    have hck := Check_law l0 hfit (3 * l0.length + 4) (Nat.le_refl _)
    have HG := Lib.hid hGU8
    have HR := Lib.hid hr0
    have HC := Lib.hid hc0
    cases ht : tree? l0 with
    | none =>
      rw [ht] at h hck
      simp only [Option.some.injEq, Prod.mk.injEq] at h
      obtain ⟨rfl, rfl⟩ := h
      have HCK : Hid (jsontext_Check.f (3 * l0.length + 4) l0 = some 2) := Lib.hid hck
      clear hck hfit ht hGU8 hr0 hc0
      go_enter Tryd.func15, Tryd.ntmps15
      go_wp2_with (go_at_call 16; refine (jsontext_Check.calls _ A0 c0 l0 2 _ HG.out HR.out HC.out HCK.out).mono ?_; rintro e w1 ⟨rfl, hb1⟩; have HB1 := Lib.hid hb1; clear hb1)
      go_ret2
      exact ⟨rfl, HB1.out⟩
    | some t =>
      rw [ht] at h hck
      simp only at h
      split at h
      · rename_i hbig
        simp only [Option.some.injEq, Prod.mk.injEq] at h
        obtain ⟨rfl, rfl⟩ := h
        obtain ⟨e1, e2, e3⟩ := tree_flat ht
        have hlen := fit_len hfit
        have hw := write_all t e3 t (by
          match t, e2 with
          | .leaf _ _ _ .nil, _ => simp [F.trees]
          | .node _ _ _ .nil, _ => simp [F.trees])
        have HCK : Hid (jsontext_Check.f (3 * l0.length + 4) l0 = some 0) := Lib.hid hck
        have HW := Lib.hid hw
        have HE := Lib.hid e1
        have HLEN := Lib.hid hlen
        have HBIG := Lib.hid hbig
        obtain ⟨ad, rfl⟩ : ∃ ad, A0 = some ad := by
          have hp := one_pos e2
          obtain ⟨ad, e, _⟩ := at_T46 hr0 0 (Int.le_refl _) (by rw [e1]; omega)
          exact ⟨ad, e⟩
        clear hck hfit ht hGU8 hr0 hc0 hw e1 e2 e3 hlen hbig
        generalize hN : l0.length = N
        have HN := Lib.hid hN.symm
        have HR2 : Hid (Kd.C kN w (some ad) N l0) := Lib.hid (hN ▸ HR.out)
        have HC2 : Hid (N ≤ c0) := Lib.hid (hN ▸ HC.out)
        clear hN
        have hcall := jsontext_Check.calls _ (some ad) c0 l0 0 w HG.out HR.out HC.out HCK.out
        rw [← HN.out] at hcall
        have HCALL := Lib.hid hcall
        clear hcall
        go_enter Tryd.func15, Tryd.ntmps15
        go_upto_region 5 with (go_at_call 16; refine HCALL.out.mono ?_; rintro e w1 ⟨rfl, hb1⟩; have HB1 := Lib.hid hb1; clear hb1)
        have HBN : Hid (Bld w1.heap.size w1.heap.size [] (w1.alloc (.cells #[.pointer none, .slice none 0 0] 72 (0, 0)))) := Lib.hid (bld_new w1 _ rfl)
        have HBA : Hid (Below w1.heap.size w1 (w1.alloc (.cells #[.pointer none, .slice none 0 0] 72 (0, 0)))) := Lib.hid ((Below.refl _ _).alloc (Nat.le_refl _) _)
        have HLN : Hid (N ≤ 1099511627776) := Lib.hid (by rw [HN.out]; exact HLEN.out)
        have HBW : Hid (Below w.heap.size w (w1.alloc (.cells #[.pointer none, .slice none 0 0] 72 (0, 0)))) := Lib.hid (HB1.out.trans (HBA.out.mono HB1.out.size))
        go_wp2_with (first
          | (go_at_call 37; refine (write_root HW.out w1.heap.size w1.heap.size ad c0 N l0 w _ HN.out HE.out HC2.out HLN.out HBIG.out HR2.out HB1.out.size HBW.out HBN.out).mono ?_; rintro e w2 ⟨⟨x, rfl⟩, hb2, hbel2⟩; have HB2 : Hid (Bld w1.heap.size w1.heap.size t.txt w2) := Lib.hid hb2; have HBEL2 := Lib.hid hbel2; clear hb2 hbel2)
          | (go_at_call 38; refine (Tryd.Builder_String_any w1.heap.size w1.heap.size t.txt _ HB2.out HB2.out.lt).mono ?_; rintro e w4 ⟨rfl, hb4⟩; have HB4 := Lib.hid hb4; clear hb4))
        go_ret2
        exact ⟨rfl, HB1.out.trans ((HBA.out.trans (HBEL2.out.trans HB4.out)).mono HB1.out.size)⟩
      · cases h
  · cases h
end Go.Proofs.YtadfkeipcebmfaaDoor.X

