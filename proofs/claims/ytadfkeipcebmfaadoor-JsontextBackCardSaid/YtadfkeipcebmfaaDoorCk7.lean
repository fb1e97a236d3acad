/-
  What the claim's law rests on, part 7 of 7: printed walks, externals, plain lemmas; conditions: none of its own.
-/
import Derived.ChangeSame
import Derived.Deep.Slices
import Derived.SliceStrings
import Derived.Test.YtadfkeipcebmfaaDoorCk6
namespace Go.Proofs.YtadfkeipcebmfaaDoor.Pure
open Go.RowKit Go.Proofs.YtadfkeipcebmfaaDoor.X Go.Proofs.YtadfkeipcebmfaaDoorW.PrintWords Go.Proofs.YtadfkeipcebmfaaDoorW.PrintMore
set_option linter.unusedVariables false
set_option linter.unusedSimpArgs false
theorem w64q {x : Int} (h0 : -9223372036854775808 ≤ x) (h1 : x ≤ 9223372036854775807) : wrap64 x = x := by unfold wrap64; omega
theorem mn_lim (a b : Int) (ha : 0 ≤ a) (hb : 0 ≤ b) : 0 ≤ mn a b ∧ mn a b ≤ a ∧ mn a b ≤ b := by
  unfold mn
  split <;> omega
/-- Nodes that the law looks at. -/
def Few (l : List (S46)) : Prop := l.length ≤ 120 ∧ ∀ x ∈ l, (x.f3.size ≤ 200 ∧ x.f4.size ≤ 200) ∧ x.f2 ≤ 9223372036854775807 ∧ -9223372036854775808 ≤ x.f1 ∧ x.f1 ≤ 9223372036854775807
theorem few_is (l : List (S46)) (hl : ∀ x ∈ l, (Lit.int .i64 x.f0).wf = true ∧ (Lit.int .i64 x.f1).wf = true ∧ (Lit.int .i64 x.f2).wf = true) (k : Nat) (hk : 200 ≤ k) : ∃ l', racewaylaw25_few.f k l = some l' ∧ Few l' := by
  have hr : ∀ n : Int, (Lit.int .i64 n).wf = true → -9223372036854775808 ≤ n ∧ n ≤ 9223372036854775807 := by
    intro n h
    simp [Lit.wf] at h
    simp [IntKind.min, IntKind.max, IntKind.signed, IntKind.bits] at h
    omega
  have : ∀ (d i k : Nat) (acc : List (S46)), i + d = 121 → d + 1 ≤ k → acc.length = i → Few acc → ∃ l', racewaylaw25_few.l0 k l acc (i : Int) = some l' ∧ Few l' := by
    intro d
    induction d with
    | zero =>
      intro i k acc hi hk ha hf
      have := hf.1
      omega
    | succ d ih =>
      intro i k acc hi hk ha hf
      obtain ⟨k, rfl⟩ : ∃ k', k = k' + 1 := ⟨k - 1, by omega⟩
      rw [racewaylaw25_few.l0]
      by_cases h1 : (i : Int) < (l.length : Int)
      · rw [if_pos h1]
        by_cases h2 : (i : Int) < 120
        · rw [if_pos h2, if_pos (by omega)]
          obtain ⟨x, r, hx⟩ : ∃ x r, l.drop i = x :: r := ⟨_, _, List.drop_eq_getElem_cons (show i < l.length by omega)⟩
          obtain ⟨e1, e2, e3, e4⟩ := rd_cast l i x r hx
          obtain ⟨w0, w1, w2⟩ := hl x e4
          obtain ⟨a1, a2, a3⟩ := mn_lim (x.f3.size : Int) 200 (by omega) (by omega)
          obtain ⟨b1, b2, b3⟩ := mn_lim (x.f4.size : Int) 200 (by omega) (by omega)
          rw [e1, if_pos a1, if_pos a2, if_pos b1, if_pos b2, if_pos (by omega), w64q (by omega) (by omega), show ((i : Int) + 1) = ((i + 1 : Nat) : Int) by omega]
          refine ih (i + 1) k _ (by omega) (by omega) (by simp [ha]) ⟨by simp; omega, fun y hy => ?_⟩
          simp only [List.mem_append, List.mem_singleton] at hy
          rcases hy with hy | rfl
          · exact hf.2 y hy
          · have := hr _ w1
            have := hr _ w2
            refine ⟨⟨?_, ?_⟩, by simp only; omega, by simp only; omega, by simp only; omega⟩
            · show (x.f3.extract 0 _).size ≤ 200
              rw [ByteArray.size_extract]
              omega
            · show (x.f4.extract 0 _).size ≤ 200
              rw [ByteArray.size_extract]
              omega
        · rw [if_neg h2]
          exact ⟨_, rfl, hf⟩
      · rw [if_neg h1]
        exact ⟨_, rfl, hf⟩
  exact this 121 0 k [] (by omega) (by omega) rfl ⟨by simp, by simp⟩
theorem few_fit {l : List (S46)} (h : Few l) : fit l = true := by
  unfold fit
  simp only [Bool.and_eq_true, decide_eq_true_eq, List.all_eq_true]
  refine ⟨by have := h.1; omega, fun x hx => ?_⟩
  obtain ⟨⟨a, b⟩, c, d, e⟩ := h.2 x hx
  exact ⟨⟨⟨⟨by omega, by omega⟩, c⟩, d⟩, e⟩
theorem flat_ints : ∀ f : F, ∀ x ∈ f.flat, (0 ≤ x.f1 ∧ x.f1 ≤ f.flat.length) ∧ x.f2 ≤ f.flat.length
  | .nil, x, hx => by simp [F.flat] at hx
  | .leaf k kd t r, x, hx => by
    simp only [F.flat, List.mem_cons] at hx
    simp only [F.flat, List.length_cons]
    rcases hx with rfl | hx
    · simp only
      omega
    · have := flat_ints r x hx
      omega
  | .node k kd ks r, x, hx => by
    simp only [F.flat, List.mem_cons, List.mem_append] at hx
    simp only [F.flat, List.length_cons, List.length_append]
    rcases hx with rfl | hx | hx
    · have := F.cnt_le ks
      simp only
      omega
    · have := flat_ints ks x hx
      omega
    · have := flat_ints r x hx
      omega
theorem ltx_ge (kd : Int) (t : Bs) (h : leafB kd t = true) : t.length ≤ (ltx kd t).length := by
  unfold leafB at h
  unfold ltx
  by_cases h4 : kd = 4
  · subst h4
    exact Nat.le_refl _
  · rw [if_neg h4] at h
    by_cases h5 : kd = 5
    · subst h5
      exact quote_ge t
    · rw [if_neg h5] at h
      simp only [Bool.and_eq_true, List.isEmpty_iff] at h
      rw [h.2]
      simp
theorem flat_texts : ∀ (f : F) (d : Nat) (keyed first : Bool), good f d keyed = true → ∀ x ∈ f.flat, x.f3.size ≤ (f.out keyed first).length ∧ x.f4.size ≤ (f.out keyed first).length
  | .nil, d, keyed, first, h, x, hx => by simp [F.flat] at hx
  | .leaf k kd t r, d, keyed, first, h, x, hx => by
    simp only [good, Bool.and_eq_true, Bool.or_eq_true, List.isEmpty_iff] at h
    obtain ⟨⟨⟨⟨_, h2⟩, h3⟩, h4⟩, h5⟩ := h
    simp only [F.flat, List.mem_cons] at hx
    simp only [F.out, List.length_append]
    rcases hx with rfl | hx
    · have hl := ltx_ge kd t h4
      have hq := quote_ge k
      simp only [str_size]
      refine ⟨?_, by omega⟩
      rcases h2 with rfl | rfl
      · simp
      · simp only [if_true, List.length_append]
        omega
    · have := flat_texts r d keyed false h5 x hx
      omega
  | .node k kd ks r, d, keyed, first, h, x, hx => by
    simp only [good, Bool.and_eq_true, Bool.or_eq_true, List.isEmpty_iff, beq_iff_eq] at h
    obtain ⟨⟨⟨⟨⟨_, h2⟩, h3⟩, h4⟩, h5⟩, h6⟩ := h
    simp only [F.flat, List.mem_cons, List.mem_append] at hx
    simp only [F.out, List.length_append]
    rcases hx with rfl | hx | hx
    · have hq := quote_ge k
      simp only [str_size, List.length_nil]
      refine ⟨?_, by omega⟩
      rcases h2 with rfl | rfl
      · simp
      · simp only [if_true, List.length_append]
        omega
    · have := flat_texts ks (d - 1) (kd == 7) true h5 x hx
      have e : (ks.out (kd == 7) true).length ≤ (if kd = 7 then 123 :: (ks.out true true ++ [125]) else 91 :: (ks.out false true ++ [93])).length := by
        rcases h4 with rfl | rfl
        · simp
          omega
        · simp
          omega
      omega
    · have := flat_texts r d keyed false h6 x hx
      omega
theorem out_bound : ∀ (f : F) (ob first : Bool), (∀ x ∈ f.flat, x.f3.size ≤ 200 ∧ x.f4.size ≤ 200) → (f.out ob first).length ≤ 3000 * f.flat.length
  | .nil, ob, first, h => by simp [F.out]
  | .leaf k kd t r, ob, first, h => by
    have ih := out_bound r ob false (fun x hx => h x (by simp [F.flat, hx]))
    have h1 := h ⟨kd, 1, 0, str k, str t⟩ (by simp [F.flat])
    simp only [str_size] at h1
    have hk := quote_len k
    have ht := quote_len t
    have hlt : (ltx kd t).length ≤ 6 * t.length + 7 := by
      unfold ltx
      repeat' split
      all_goals try simp only [List.length_cons, List.length_nil]
      all_goals omega
    have hc : (if first then ([] : Bs) else [44]).length ≤ 1 := by split <;> simp
    have hq : (if ob then quote k ++ [58] else ([] : Bs)).length ≤ 6 * k.length + 3 := by
      split
      · simp only [List.length_append, List.length_cons, List.length_nil]
        omega
      · simp
    simp only [F.out, F.flat, List.length_append, List.length_cons]
    omega
  | .node k kd ks r, ob, first, h => by
    have ih := out_bound r ob false (fun x hx => h x (by simp [F.flat, hx]))
    have ihk : ∀ b, (ks.out b true).length ≤ 3000 * ks.flat.length := fun b => out_bound ks b true (fun x hx => h x (by simp [F.flat, hx]))
    have h1 := h ⟨kd, (ks.flat.length + 1 : Nat), (ks.count : Nat), str k, str []⟩ (by simp [F.flat])
    simp only [str_size] at h1
    have hk := quote_len k
    have hc : (if first then ([] : Bs) else [44]).length ≤ 1 := by split <;> simp
    have hq : (if ob then quote k ++ [58] else ([] : Bs)).length ≤ 6 * k.length + 3 := by
      split
      · simp only [List.length_append, List.length_cons, List.length_nil]
        omega
      · simp
    have hn : (if kd = 7 then 123 :: (ks.out true true ++ [125]) else 91 :: (ks.out false true ++ [93])).length ≤ 3000 * ks.flat.length + 2 := by
      have a := ihk true
      have b := ihk false
      split
      · simp only [List.length_append, List.length_cons, List.length_nil]
        omega
      · simp only [List.length_append, List.length_cons, List.length_nil]
        omega
    simp only [F.out, F.flat, List.length_append, List.length_cons]
    omega
theorem Pf' (a : ByteArray) : jsontext_Parse.f a = some ((parse a.data.toList).1.flat, (parse a.data.toList).2.1, (parse a.data.toList).2.2) := rfl
theorem parse_place {s : Bs} {f : F} {p : Int} (h : parse s = (f, p, 0)) : p = 0 := by
  unfold parse at h
  split at h
  · cases h
  · split at h
    · rename_i r e hv
      have := value_e 32 [] (blanks s) r e hv
      simp only [Prod.mk.injEq] at h
      omega
    · split at h
      · simp only [Prod.mk.injEq] at h
        exact h.2.1.symm
      · simp only [Prod.mk.injEq] at h
        omega
theorem flat_short {s : Bs} {f : F} (h : parse s = (f, 0, 0)) : f.flat.length ≤ 65536 := by
  unfold parse at h
  split at h
  · cases h
  · rename_i hl
    split at h
    · rename_i r e hv
      have := value_e 32 [] (blanks s) r e hv
      simp only [Prod.mk.injEq] at h
      omega
    · rename_i r g hv
      split at h
      · simp only [Prod.mk.injEq] at h
        obtain ⟨rfl, _⟩ := h
        have := (value_owes 32 _ _ _ _ hv).2
        have := blanks_len s
        omega
      · simp only [Prod.mk.injEq] at h
        omega
theorem print_tree {t : F} (h1 : t.one) (h2 : good t 32 false = true) (hf : fit t.flat = true) (hl : t.txt.length ≤ 17592186044416) : jsontext_Print.f t.flat = some (str t.txt, 0) := by
  unfold jsontext_Print.f
  rw [if_pos hf, tree_is h1 h2]
  simp only
  rw [if_pos hl]
theorem j0_true (l : List (S46)) (hf : Few l) (k : Nat) (hk : 1000 ≤ k) : racewaylaw25_JsontextBack.j0 k l = some true := by
  obtain ⟨k, rfl⟩ : ∃ k', k = k' + 2 := ⟨k - 2, by omega⟩
  rw [racewaylaw25_JsontextBack.j0]
  have hfit := few_fit hf
  have hP : jsontext_Print.f l = match tree? l with
    | some t => if t.txt.length ≤ 17592186044416 then some (str t.txt, 0) else none
    | none => some (⟨#[]⟩, 2) := by
    unfold jsontext_Print.f
    rw [if_pos hfit]
    cases tree? l <;> rfl
  cases ht : tree? l with
  | none =>
    rw [ht] at hP
    simp only at hP
    rw [hP, Option.bind_some, if_neg (show ¬ ((2 : Int) = 0) by decide), racewaylaw25_JsontextBack.j1, if_neg (by decide), works_true]
    rfl
  | some t =>
    rw [ht] at hP
    simp only at hP
    obtain ⟨e1, e2, e3⟩ := tree_flat ht
    have hg := tree_good ht
    have hb := out_bound t false true (fun x hx => (hf.2 x (e1 ▸ hx)).1)
    have hlen := hf.1
    rw [e1] at hlen
    have hb2 : t.txt.length ≤ 3000 * t.flat.length := hb
    rw [if_pos (by omega)] at hP
    rw [hP, Option.bind_some, if_pos (show ((str t.txt, (0 : Int)).2 = 0) from rfl)]
    by_cases hs : ((str t.txt).size : Int) ≤ 65536
    · have hs2 : t.txt.length ≤ 65536 := by rw [str_size] at hs; omega
      rw [racewaylaw25_JsontextBack.j1, if_pos (decide_eq_true hs), Pf', str_list, parse_txt e2 hg hs2, Option.bind_some, if_pos (show ((t.flat, (0 : Int), (0 : Int)).2.2 = 0) from rfl)]
      show ((racewayref25_Same.f k l t.flat).bind fun t189 => _) = _
      rw [e1, same_self t.flat (by omega) k (by omega), Option.bind_some, if_pos rfl, works_true]
      rfl
    · rw [racewaylaw25_JsontextBack.j1, if_neg (by rw [decide_eq_false hs]; decide), works_true]
      rfl
theorem JsontextBack (a0 : ByteArray) (l1 : List (S46)) (hm : l1.length ≤ maxLen ∧ ∀ x ∈ l1, (Lit.int .i64 x.f0).wf = true ∧ (Lit.int .i64 x.f1).wf = true ∧ (Lit.int .i64 x.f2).wf = true) : ∃ k, racewaylaw25_JsontextBack.f k a0 l1 = some true := by
  refine ⟨300000, ?_⟩
  obtain ⟨m0, m1, m2⟩ := mn_lim (a0.size : Int) 2000 (by omega) (by omega)
  obtain ⟨l', hl', hfew⟩ := few_is l1 hm.2 300000 (by omega)
  generalize hX : a0.extract 0 ((mn (a0.size : Int) 2000) : Int).toNat = X
  have hXs : X.size ≤ 2000 := by rw [← hX, ByteArray.size_extract]; omega
  have hXl : X.data.toList.length = X.size := by simp
  have hj := j0_true l' hfew 300000 (by omega)
  unfold racewaylaw25_JsontextBack.f
  rw [if_pos m0, if_pos m1, hl', Option.bind_some, hX, Pf', Option.bind_some]
  cases hp : parse X.data.toList with
  | mk u pe =>
    obtain ⟨p, e⟩ := pe
    by_cases he : e = 0
    · subst he
      obtain rfl := parse_place hp
      obtain ⟨g1, g2, g3⟩ := parse_good hp
      have g4 := flat_short hp
      have htx := flat_texts u 32 false true g1
      have hin := flat_ints u
      have hfit : fit u.flat = true := by
        unfold fit
        simp only [Bool.and_eq_true, decide_eq_true_eq, List.all_eq_true]
        refine ⟨by omega, fun x hx => ?_⟩
        have a := htx x hx
        have b := hin x hx
        have c : (u.out false true).length ≤ 12000 := by
          have : u.txt.length ≤ 6 * X.data.toList.length := g3
          unfold F.txt at this
          omega
        exact ⟨⟨⟨⟨by omega, by omega⟩, by omega⟩, by omega⟩, by omega⟩
      have hpr := print_tree g2 g1 hfit (by omega)
      have hpt := parse_txt g2 g1 (by omega)
      have hck := Check_law u.flat hfit 300000 (by omega)
      rw [tree_is g2 g1] at hck
      have hck2 : jsontext_Check.f 300000 u.flat = some 0 := hck
      have hq : jsontext_Parse.f (str u.txt) = some (u.flat, 0, 0) := by rw [Pf', str_list, hpt]
      have hsame := same_self u.flat (by omega) 300000 (by omega)
      show (if (0 : Int) = 0 then ((jsontext_Print.f u.flat).bind fun bt171 => _) else _) = _
      rw [if_pos rfl, hpr, Option.bind_some]
      show ((jsontext_Parse.f (str u.txt)).bind fun bt173 => _) = _
      rw [hq, Option.bind_some]
      show ((jsontext_Print.f u.flat).bind fun bt178 => _) = _
      rw [hpr, Option.bind_some, hck2, Option.bind_some, if_pos rfl, if_pos rfl, if_pos rfl, if_pos rfl, hsame, Option.bind_some, if_pos rfl, if_pos rfl]
      exact hj
    · rw [if_neg (show ¬ ((u, p, e).2.2 = 0) from he)]
      exact hj
end Go.Proofs.YtadfkeipcebmfaaDoor.Pure

namespace Go.Proofs.YtadfkeipcebmfaaDoor.X
open Go.RowKit Go.Proofs.YtadfkeipcebmfaaDoorW.PrintWords Go.Proofs.YtadfkeipcebmfaaDoorW.PrintLast Go.Proofs.YtadfkeipcebmfaaDoorW.PrintMore
open Go.Deep Go.ChangeShapes Go.WideShapes
set_option linter.unusedVariables false
set_option linter.unusedSimpArgs false
theorem cells9 : Tryd.prog.cellsOf 9 = 1 := by kernel_rfl
theorem cells46 : Tryd.prog.cellsOf 46 = 5 := by kernel_rfl
theorem cells3 : Tryd.prog.cellsOf 3 = 1 := by kernel_rfl
instance : Inhabited (S46) := ⟨z46⟩
set_option maxRecDepth 100000 in
theorem open_nodes {H : Type} {enc : TypeId × Value → H} {W : World} {A : Option Addr} {len cap : Nat} {d : DataW H} {p : List MemPlace} (h : DataW.Trod enc Tryd.prog W 0 (fun _ => true) true 22 (.slice A len cap) d p) :
    ∃ l : List (S46), l.length = len ∧ Kd.C k46 W A l.length l ∧ l.length ≤ cap ∧ (l.length ≤ maxLen ∧ ∀ x ∈ l, (Lit.int .i64 x.f0).wf = true ∧ (Lit.int .i64 x.f1).wf = true ∧ (Lit.int .i64 x.f2).wf = true) := by
  obtain ⟨fuel, hf⟩ := h
  rcases open_slice Tryd.underlying22 hf with ⟨hcs, _⟩ | ⟨a, l, c, m, n, D, Pl, hcs, _, hl, hm, hmm, _, hx⟩
  · simp [Value.cells] at hcs
    obtain ⟨rfl, rfl, rfl⟩ := hcs
    exact ⟨[], rfl, ⟨rfl, by simp, fun h => absurd h (by simp)⟩, Nat.le_refl _, Nat.zero_le _, by simp⟩
  · simp [Value.cells] at hcs
    obtain ⟨rfl, rfl, rfl⟩ := hcs
    simp only [if_true] at hmm
    have each : ∀ i, i < len → ∃ x : S46, (W.cell? (a.add (i * 5)) = some (.int .i64 x.f0) ∧ W.cell? (a.add (i * 5 + 1)) = some (.int .i64 x.f1) ∧ W.cell? (a.add (i * 5 + 2)) = some (.int .i64 x.f2) ∧ W.cell? (a.add (i * 5 + 3)) = some (.string x.f3) ∧ W.cell? (a.add (i * 5 + 4)) = some (.string x.f4)) ∧ ((Lit.int .i64 x.f0).wf = true ∧ (Lit.int .i64 x.f1).wf = true ∧ (Lit.int .i64 x.f2).wf = true) := by
      intro i hi
      obtain ⟨cs', h1, h2⟩ := hx i (by omega)
      rw [cells46] at h1
      obtain ⟨_, hlen, hcell⟩ := World.cells?_some h1
      obtain ⟨xs, k, hk, hxy, _, hxl, hf⟩ := DataW.trod_struct Tryd.underlying46 h2
      match xs, hxl, cs', hlen with
      | [y0, y1, y2, y3, y4], _, [v0, v1, v2, v3, v4], _ =>
        have g0 := hf 0 _ rfl
        have g1 := hf 1 _ rfl
        have g2 := hf 2 _ rfl
        have g3 := hf 3 _ rfl
        have g4 := hf 4 _ rfl
        simp [cells9, cells3] at g0 g1 g2 g3 g4
        obtain ⟨n0, e0, _, w0⟩ := DataW.trod_int Tryd.underlying3 g0
        obtain ⟨n1, e1, _, w1⟩ := DataW.trod_int Tryd.underlying3 g1
        obtain ⟨n2, e2, _, w2⟩ := DataW.trod_int Tryd.underlying3 g2
        obtain ⟨s3, e3, _, _⟩ := DataW.trod_string Tryd.underlying9 g3
        obtain ⟨s4, e4, _, _⟩ := DataW.trod_string Tryd.underlying9 g4
        have c0 := hcell 0 (by omega)
        have c1 := hcell 1 (by omega)
        have c2 := hcell 2 (by omega)
        have c3 := hcell 3 (by omega)
        have c4 := hcell 4 (by omega)
        rw [Go.Deep.add_add] at c0 c1 c2 c3 c4
        simp at e0 e1 e2 e3 e4 c0 c1 c2 c3 c4
        subst e0 e1 e2 e3 e4
        exact ⟨⟨n0, n1, n2, s3, s4⟩, ⟨c0, c1, c2, c3, c4⟩, w0, w1, w2⟩
    obtain ⟨q, hq⟩ := choose_lt each
    have hlen : ((List.range len).map q).length = len := by simp
    refine ⟨(List.range len).map q, hlen, ⟨rfl, ?_, fun _ => ⟨a, rfl, fun j x hj => ?_⟩⟩, by omega, by omega, fun x hx2 => ?_⟩
    · rw [hlen]; have : cap ≤ maxLen := hm; unfold maxLen at this; omega
    · have hjl : j < len := by
        have := (List.getElem?_eq_some_iff.1 hj).1
        simpa using this
      have hx : q j = x := by
        rw [List.getElem?_map, List.getElem?_range hjl] at hj
        simpa using hj
      subst hx
      obtain ⟨⟨c0, c1, c2, c3, c4⟩, _⟩ := hq j hjl
      refine ⟨[.int .i64 (q j).f0, .int .i64 (q j).f1, .int .i64 (q j).f2, .string (q j).f3, .string (q j).f4], rfl, k46_mk W (q j), fun i u hu => ?_⟩
      match i, hu with
      | 0, hu => simp at hu; subst hu; exact c0
      | 1, hu => simp at hu; subst hu; exact c1
      | 2, hu => simp at hu; subst hu; exact c2
      | 3, hu => simp at hu; subst hu; exact c3
      | 4, hu => simp at hu; subst hu; exact c4
    · simp only [List.mem_map, List.mem_range] at hx2
      obtain ⟨j, hj, rfl⟩ := hx2
      exact (hq j hj).2
end Go.Proofs.YtadfkeipcebmfaaDoor.X

