/-
  slices.Clone of attributes.
-/
import Derived.Test.YtolpefnedpgaaaaDoorX0
import Derived.Lib.SliceRun
namespace Go.Proofs.YtolpefnedpgaaaaDoor.X
open Go.RowKit Go.Proofs.YtolpefnedpgaaaaDoorW.PrintWords Go.Proofs.YtolpefnedpgaaaaDoorW.PrintLast Go.Proofs.YtolpefnedpgaaaaDoorW.PrintMore
set_option linter.unusedVariables false
set_option linter.unusedSimpArgs false
set_option maxHeartbeats 2000000 in
set_option maxRecDepth 100000 in
theorem clone_calls (A0 : Option Addr) (c0 : Nat) (l : List S33) (w : World) (hr : Kd.C k33 w A0 l.length l) (hc : l.length ≤ c0) (hl : l.length ≤ 1000) :
    Calls Tryd.prog 42 #[.slice A0 l.length c0] w fun e w' => ∃ v0_ : Value, e = .returned v0_ ∧ Kd.R k33 33 w' w.heap.size (fun _ => True) v0_ l ∧ Below w.heap.size w w' := by
  go_enter Tryd.func42, Tryd.ntmps42
  have he := fun W => Lib.run_eql_slice_nil (P := Tryd.prog) W 26 33 A0 l.length c0 0 0 Tryd.underlying26
  rcases A0 with _ | ad
  · have h0 : l = [] := by
      rcases l with _ | ⟨x, l⟩
      · rfl
      · obtain ⟨ad, h, _⟩ := hr.2.2 (by simp)
        cases h
    subst h0
    simp only [List.length_nil] at he
    go_wp2
    go_ret
    exact ⟨_, rfl, Kd.R_nil _ _ _ _ _, Below.refl _ _⟩
  · go_upto_region 3 with (fail)
    have hnew := heap_alloc_new w (.cells #[] 33 (0, 0))
    have hbel : Below w.heap.size w (w.alloc (.cells #[] 33 (0, 0))) := (Below.refl _ _).alloc (Nat.le_refl _) _
    have hown : Kd.R k33 33 (w.alloc (.cells #[] 33 (0, 0))) w.heap.size (fun _ => True) (.slice (some ⟨w.heap.size, 0, none⟩) 0 0) [] := by
      refine ⟨fun _ _ => trivial, [], ⟨rfl, .inr ⟨w.heap.size, 0, _, rfl, Nat.le_refl _, hnew, Nat.le_refl _, by unfold maxLen; omega, rfl, rfl⟩⟩, Reps.none _ _⟩
    refine wp_region_lit ?_
    refine wpList_step (fun K hK => ?_)
    go_simp
    refine hK _ _ ?_
    clear hK K
    refine wpList_step (fun K hK => ?_)
    go_simp
    refine hK _ _ ?_
    clear hK K
    refine Kd.R_append_rows k33 (Rr := k33.K w) (w0 := w) w.heap.size rfl _ _ _ 33 _ 48 rfl Tryd.underlying26 info33 rfl (by decide) (by decide) (.slice (some ⟨w.heap.size, 0, none⟩) 0 0) [] l (some ad) l.length c0 (fun _ => True) (fun _ => False) rfl rfl hown (Kd.C_below hr hbel) (fun x cs h => by rw [k33_open h]; exact k33_mkM _ _ _ _) (fun _ h => h.elim) (fun _ _ => trivial) hbel (by rw [World.size_alloc]; omega) (by simp; omega) ?_
    intro v1 w1 h1 hb1 hg1 hat
    refine wpList_step (fun K hK => ?_)
    go_simp
    refine hK _ _ ?_
    clear hK K
    refine wpList_nil ?_
    go_wp2
    go_ret
    exact ⟨_, rfl, h1, hb1⟩
end Go.Proofs.YtolpefnedpgaaaaDoor.X
