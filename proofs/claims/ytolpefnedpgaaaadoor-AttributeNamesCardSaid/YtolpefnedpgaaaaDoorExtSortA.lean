/-
  attribute.Sort: attributes in the order of their names.
-/
import Derived.Test.YtolpefnedpgaaaaDoorExtIns
import Derived.Test.YtolpefnedpgaaaaDoorExtClone
namespace Go.Proofs.YtolpefnedpgaaaaDoor.X
open Go.RowKit Go.Proofs.YtolpefnedpgaaaaDoorW.PrintWords Go.Proofs.YtolpefnedpgaaaaDoorW.PrintLast Go.Proofs.YtolpefnedpgaaaaDoorW.PrintMore
set_option linter.unusedVariables false
set_option linter.unusedSimpArgs false
set_option maxHeartbeats 2000000 in
set_option maxRecDepth 100000 in
theorem stable_calls (g n cap : Nat) (xs : List S33) (t : List Value) (w : World) (hn : n = xs.length) (h1 : n < 20) (hg : w.heap[g]? = some (.cells (cellsA xs ++ t).toArray 33 (0, 0))) :
    Calls Tryd.prog 74 #[.slice (some ⟨g, 0, none⟩) n cap, .int .i64 n, .func (.func 44) #[] #[]] w fun e w' => e = .returned (.tuple #[]) ∧ w'.heap[g]? = some (.cells (cellsA (sortA xs) ++ t).toArray 33 (0, 0)) ∧ Upd g w w' := by
  have HI := Lib.hid (ins_calls g n cap xs t w hn (by omega) hg)
  have hd : decide (20 ≤ (n : Int)) = false := by simp; omega
  have hd2 : decide (20 < (n : Int)) = false := by simp; omega
  clear hg hn
  go_enter Tryd.func74, Tryd.ntmps74
  go_wp2
  refine wp_loop_rounds 1 ?_
  rw [rounds_succ]
  go_wp2_with (go_at_call 97; refine HI.out.mono ?_; rintro e w1 ⟨rfl, hG, hu⟩)
  refine wp_loop_rounds 1 ?_
  rw [rounds_succ]
  have HG := Lib.hid hG
  clear hG
  go_wp2
  go_end0
  exact ⟨rfl, HG.out, hu⟩
theorem cellsA_of : ∀ (xs : List S33) (inner : List Value) (R : S33 → List Value → Prop), (∀ x cs, R x cs → cs = vA x) → Reps R 3 xs inner → inner = cellsA xs
  | [], inner, R, h, hr => by
    have := hr.1
    simp at this
    rw [this]
    rfl
  | x :: l, inner, R, h, hr => by
    have h0 := h _ _ (hr.2 0 x rfl)
    have := cellsA_of l (inner.drop 3) R h ⟨by have := hr.1; simp at this ⊢; omega, fun j y hy => by
      have := hr.2 (j + 1) y hy
      rw [List.drop_drop, show 3 + j * 3 = (j + 1) * 3 by omega]
      exact this⟩
    rw [show inner = inner.take 3 ++ inner.drop 3 by simp, this]
    simp only [Nat.zero_mul, List.drop_zero] at h0
    rw [h0]
    rfl
theorem reps_of (R : S33 → List Value → Prop) (h : ∀ x, R x (vA x)) : ∀ (xs : List S33), Reps R 3 xs (cellsA xs)
  | [] => Reps.none _ _
  | x :: l => ⟨by rw [cellsA_len]; simp; omega, fun j y hy => by
    rcases j with _ | j
    · simp at hy
      subst hy
      have := h x
      simpa [cellsA, vA] using this
    · have := (reps_of R h l).2 j y (by simpa using hy)
      simp only [cellsA, List.flatMap_cons]
      rw [show (j + 1) * 3 = j * 3 + 1 + 1 + 1 by omega]
      simpa [vA, cellsA] using this⟩
set_option maxHeartbeats 2000000 in
set_option maxRecDepth 100000 in
theorem sortStable_calls (g n cap : Nat) (xs : List S33) (t : List Value) (w : World) (hn : n = xs.length) (h1 : n < 20) (hg : w.heap[g]? = some (.cells (cellsA xs ++ t).toArray 33 (0, 0))) :
    Calls Tryd.prog 43 #[.slice (some ⟨g, 0, none⟩) n cap, .func (.func 44) #[] #[]] w fun e w' => e = .returned (.tuple #[]) ∧ w'.heap[g]? = some (.cells (cellsA (sortA xs) ++ t).toArray 33 (0, 0)) ∧ Upd g w w' := by
  have HI := Lib.hid (stable_calls g n cap xs t w hn h1 hg)
  clear hg hn
  go_enter Tryd.func43, Tryd.ntmps43
  go_wp2_with (go_at_call 74; refine HI.out.mono ?_; rintro e w1 ⟨rfl, hG, hu⟩)
  go_end0
  exact ⟨rfl, hG, hu⟩
/-- Nothing to sort. -/
theorem ins_none (w : World) : Calls Tryd.prog 97 #[.slice none 0 0, .int .i64 0, .int .i64 0, .func (.func 44) #[] #[]] w fun e w' => e = .returned (.tuple #[]) ∧ w' = w := by
  go_enter Tryd.func97, Tryd.ntmps97
  go_wp2
  refine wp_loop_rounds 1 ?_
  rw [rounds_succ]
  go_wp2
  go_end0
  exact ⟨rfl, rfl⟩
theorem sortStable_none (w : World) : Calls Tryd.prog 43 #[.slice none 0 0, .func (.func 44) #[] #[]] w fun e w' => e = .returned (.tuple #[]) ∧ w' = w := by
  have key : Calls Tryd.prog 74 #[.slice none 0 0, .int .i64 0, .func (.func 44) #[] #[]] w fun e w' => e = .returned (.tuple #[]) ∧ w' = w := by
    go_enter Tryd.func74, Tryd.ntmps74
    go_wp2
    refine wp_loop_rounds 1 ?_
    rw [rounds_succ]
    go_wp2_with (go_at_call 97; refine (ins_none _).mono ?_; rintro e w1 ⟨rfl, rfl⟩)
    refine wp_loop_rounds 1 ?_
    rw [rounds_succ]
    go_wp2
    go_end0
    exact ⟨rfl, rfl⟩
  go_enter Tryd.func43, Tryd.ntmps43
  go_wp2_with (go_at_call 74; refine key.mono ?_; rintro e w1 ⟨rfl, rfl⟩)
  go_end0
  exact ⟨rfl, rfl⟩
/-- attribute.Sort, at fewer than 20. -/
def attribute_Sort.f (l : List S33) : Option (List S33) := if l.length < 20 then some (sortA l) else none
set_option maxHeartbeats 2000000 in
set_option maxRecDepth 100000 in
theorem attribute_Sort.calls (A0 : Option Addr) (c0 : Nat) (l0 : List S33) (r : List S33) (w : World) (hr0 : Kd.C k33 w A0 l0.length l0) (hc0 : l0.length ≤ c0) (h : attribute_Sort.f l0 = some r) :
    Calls Tryd.prog 19 #[.slice A0 l0.length c0] w fun e w' => ∃ v0_ : Value, e = .returned v0_ ∧ Kd.R k33 33 w' w.heap.size (fun _ => True) v0_ r ∧ Below w.heap.size w w' := by
  unfold attribute_Sort.f at h
  split at h
  · rename_i hl
    obtain rfl := Option.some.inj h
    have HC := Lib.hid (clone_calls A0 c0 l0 w hr0 hc0 (by omega))
    clear hr0 h
    go_enter Tryd.func19, Tryd.ntmps19
    go_wp2_with (go_at_call 42; refine HC.out.mono ?_; rintro e w1 ⟨v, rfl, hR, hb⟩)
    obtain ⟨hok, inner, hown, hrep⟩ := hR
    have hin := cellsA_of l0 inner _ (fun x cs h => k33_openM h) hrep
    subst hin
    have hsl : (sortA l0).length = l0.length := sortedTo_len _ _
    rcases hown.2 with ⟨rfl, h0⟩ | ⟨g, cap, cur, rfl, hbg, hgc, hcap, hmax, hsz, htk⟩
    · have hl0 : l0 = [] := List.eq_nil_of_length_eq_zero h0
      subst hl0
      refine (sortStable_none w1).mono ?_
      rintro e w2 ⟨rfl, rfl⟩
      go_wp2
      go_ret
      exact ⟨_, rfl, Kd.R_nil _ _ _ _ _, hb⟩
    · have hcur : cur = (cellsA l0 ++ cur.toList.drop (l0.length * 3)).toArray := by
        apply Array.ext'
        rw [show cellsA l0 = cur.toList.take (l0.length * 3) from htk.symm]
        simp
      rw [hcur] at hgc
      have hT : (cellsA (sortA l0) ++ cur.toList.drop (l0.length * 3)).length = cap * 3 := by
        rw [List.length_append, cellsA_len, hsl, List.length_drop]
        have : cur.toList.length = cap * 3 := hsz
        omega
      refine (sortStable_calls g l0.length cap l0 _ w1 rfl hl hgc).mono ?_
      rintro e w2 ⟨rfl, hG, hu⟩
      have HG := Lib.hid hG
      have HT := Lib.hid hT
      have HSL := Lib.hid hsl
      clear hG hT hsl hcur hgc htk hsz hrep hown
      go_wp2
      go_ret
      refine ⟨_, rfl, ⟨fun _ _ => trivial, cellsA (sortA l0), ⟨?_, .inr ⟨g, cap, _, by rw [HSL.out]; rfl, hbg, HG.out, by rw [HSL.out]; exact hcap, hmax, ?_, ?_⟩⟩, reps_of _ (fun x => k33_mkM _ _ _ x) _⟩, hb.trans (hu.below hbg hb.size)⟩
      · show (cellsA (sortA l0)).length = _
        rw [cellsA_len]
        show _ = (sortA l0).length * 3
        omega
      · rw [List.size_toArray, HT.out]
        rfl
      · show List.take ((sortA l0).length * 3) _ = _
        rw [List.take_left' (by rw [cellsA_len]; omega)]
  · exact absurd h (by simp)
end Go.Proofs.YtolpefnedpgaaaaDoor.X
