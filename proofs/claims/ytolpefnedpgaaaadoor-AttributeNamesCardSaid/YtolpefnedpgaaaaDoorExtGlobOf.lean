/-
  The fingerprint's tables out of what a row lays and of the world's shape.
-/
import Derived.Test.YtolpefnedpgaaaaDoorExtGlob
import Derived.Lib.LaidTab
import Derived.LaidSub
import Derived.ShapedOpen
namespace Go.Proofs.YtolpefnedpgaaaaDoor.X
open Go.RowKit Go.Proofs.YtolpefnedpgaaaaDoorW.PrintWords
set_option linter.unusedVariables false
set_option linter.unusedSimpArgs false
theorem heap_of_var {P : Program} {W : World} {name : String} {g : Nat} {zero : Array Value} {t : TypeId} {arr : Array Value} (hsh : W.ShapedOpen P) (hlt : g < P.globals.size)
    (hrow : (((begin P (fun _ _ => 0) default).world).heap[g]?).bind Obj.row? = some (zero, t)) (hg : P.globalNamed name = some g) (hv : W.var? P name = some arr) : W.heap[g]? = some (.cells arr t (0, 0)) := by
  obtain ⟨hs, _⟩ := hsh
  obtain ⟨cs', h1, _, _⟩ := hs g zero t hlt hrow
  unfold World.var? at hv
  rw [hg] at hv
  simp only [Option.bind_some, h1] at hv
  rw [h1]
  cases hv
  rfl
theorem chunk16 {α : Type} (cs : List α) (h : cs.length = 16) : cs = (cs.drop 0).take 4 ++ ((cs.drop 4).take 4 ++ ((cs.drop 8).take 4 ++ (cs.drop 12).take 4)) := by
  rw [List.drop_zero]
  have h1 := (List.take_append_drop 4 cs).symm
  have h2 := (List.take_append_drop 4 (cs.drop 4)).symm
  have h3 := (List.take_append_drop 4 (cs.drop 8)).symm
  rw [List.drop_drop] at h2 h3
  have h4 : (cs.drop 12).take 4 = cs.drop 12 := List.take_of_length_le (by simp; omega)
  rw [h4]
  conv => lhs; rw [h1, h2, h3]
theorem cells_of_tab4 {H : Type} {enc : TypeId × Value → H} {P : Program} {w : World} {base : Nat} {sp : Nat → Bool} {held : Bool} {fuel : Nat} {t e u : TypeId} {k : IntKind} {cs : List Value} {r0 r1 r2 r3 : List Int} {p : List MemPlace}
    (ht : P.underlying t = some (.array 4 e)) (he : P.underlying e = some (.array 4 u)) (hu : P.underlying u = some (.int k)) (hcu : P.cellsOf u = 1) (hce : P.cellsOf e = 4) (hct : P.cellsOf t = 16)
    (h : DataW.trod enc P w base sp held fuel t cs = some (.agg [Lib.tabData k r0, Lib.tabData k r1, Lib.tabData k r2, Lib.tabData k r3], p)) : cs = (r0 ++ (r1 ++ (r2 ++ r3))).map fun z => Value.int k z := by
  cases fuel with
  | zero => simp [DataW.trod] at h
  | succ fuel =>
    simp only [DataW.trod, ht, hct, hce] at h
    split at h
    · rename_i hl
      obtain ⟨xs, hm, hx⟩ := Option.map_eq_some_iff.1 h
      have hxs : xs.map (·.1) = [Lib.tabData k r0, Lib.tabData k r1, Lib.tabData k r2, Lib.tabData k r3] := by
        have := congrArg Prod.fst hx
        simpa using this
      have hrow : ∀ (i : Nat) (r : List Int), i < 4 → (xs.map (·.1))[i]? = some (Lib.tabData k r : DataW H) → (cs.drop (i * 4)).take 4 = r.map fun z => Value.int k z := by
        intro i r hi hr
        obtain ⟨b, hb, hf⟩ := Lib.mapM_at hm i i (by simp [hi])
        rw [List.getElem?_map, hb] at hr
        simp only [Option.map_some, Option.some.injEq] at hr
        obtain ⟨b1, b2⟩ := b
        simp only at hr
        subst hr
        exact Lib.cells_of_tab he hu hcu hce hf
      have e0 := hrow 0 r0 (by omega) (by rw [hxs]; rfl)
      have e1 := hrow 1 r1 (by omega) (by rw [hxs]; rfl)
      have e2 := hrow 2 r2 (by omega) (by rw [hxs]; rfl)
      have e3 := hrow 3 r3 (by omega) (by rw [hxs]; rfl)
      rw [chunk16 cs hl]
      rw [List.map_append, List.map_append, List.map_append, ← e0, ← e1, ← e2, ← e3]
    · cases h
theorem tab4_of_head {P : Program} {W : World} {name : String} {k : IntKind} {r0 r1 r2 r3 : List Int} {rest : List (String × DataW Unit)} {g : Nat} {t e u : TypeId}
    (hg : P.globalNamed name = some g) (hty : (P.globals[g]?).map (·.type) = some t) (ht : P.underlying t = some (.array 4 e)) (he : P.underlying e = some (.array 4 u)) (hu : P.underlying u = some (.int k)) (hcu : P.cellsOf u = 1) (hce : P.cellsOf e = 4) (hct : P.cellsOf t = 16)
    (h : laidMet P ((name, .agg [Lib.tabData k r0, Lib.tabData k r1, Lib.tabData k r2, Lib.tabData k r3]) :: rest) W) : Lib.TabIs P W name k (r0 ++ (r1 ++ (r2 ++ r3))) := by
  obtain ⟨ps, ⟨g', t', cs, fuel, p, q, hg', ht', hvar, hd, _, _⟩, _⟩ := h
  obtain rfl := Option.some.inj (hg.symm.trans hg')
  obtain rfl := Option.some.inj (hty.symm.trans ht')
  unfold Lib.TabIs
  rw [hvar, ← cells_of_tab4 ht he hu hcu hce hct hd]
def turnsR : List (List Int) := [[7, 12, 17, 22], [5, 9, 14, 20], [4, 11, 16, 23], [6, 10, 15, 21]]
set_option maxRecDepth 100000 in
theorem GlobFp.of {W : World} {l : List (String × DataW Unit)} (hsh : W.ShapedOpen Tryd.prog) (hL : laidMet Tryd.prog l W)
    (h1 : l.filter (fun x => x.1 == "raceway/fingerprint.sines") = [("raceway/fingerprint.sines", Lib.tabData .u32 sinesL)])
    (h2 : l.filter (fun x => x.1 == "raceway/fingerprint.turns") = [("raceway/fingerprint.turns", .agg [Lib.tabData .i64 [7, 12, 17, 22], Lib.tabData .i64 [5, 9, 14, 20], Lib.tabData .i64 [4, 11, 16, 23], Lib.tabData .i64 [6, 10, 15, 21]])]) : GlobFp W := by
  have s1 := hL.filter (fun x => x.1 == "raceway/fingerprint.sines")
  rw [h1] at s1
  have s2 := hL.filter (fun x => x.1 == "raceway/fingerprint.turns")
  rw [h2] at s2
  have g1 : Tryd.prog.globalNamed "raceway/fingerprint.sines" = some 1 := by kernel_rfl
  have g2 : Tryd.prog.globalNamed "raceway/fingerprint.turns" = some 2 := by kernel_rfl
  have t1 := Lib.tabIs_of_head (t := 116) (e := 93) (n := 64) g1 (by kernel_rfl) (by kernel_rfl) (by kernel_rfl) (by kernel_rfl) (by kernel_rfl) s1
  have t2 := tab4_of_head (t := 118) (e := 117) (u := 3) g2 (by kernel_rfl) (by kernel_rfl) (by kernel_rfl) (by kernel_rfl) (by kernel_rfl) (by kernel_rfl) (by kernel_rfl) s2
  refine ⟨?_, ?_⟩
  · have := heap_of_var (zero := Array.replicate 64 (.int .u32 0)) (t := 116) hsh (of_decide_eq_true (by kernel_rfl)) (by kernel_rfl) g1 t1
    exact this
  · have := heap_of_var (zero := Array.replicate 16 (.int .i64 0)) (t := 118) hsh (of_decide_eq_true (by kernel_rfl)) (by kernel_rfl) g2 t2
    exact this
end Go.Proofs.YtolpefnedpgaaaaDoor.X
