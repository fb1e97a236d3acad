/-
  What the claim's law rests on, part 8 of 8: printed walks, externals, plain lemmas; conditions: none of its own.
-/
import Derived.Handed
import Derived.HandedShaped
import Derived.Lib.LaidU8T
import Derived.Lib.TrimUEq
import Derived.Lib.ValidLaws
import Derived.Test.YtadfkeipcebmfaaDoorCg7
namespace Go.Proofs.YtadfkeipcebmfaaDoor.Pure
open Go.Proofs.YtadfkeipcebmfaaDoor.X
set_option linter.unusedVariables false
set_option linter.unusedSimpArgs false
theorem decN_ext (n n' b0 b1 b2 b3 c1 c2 c3 : Nat) (hn : n ≤ n') (h1 : 1 < n → b1 = c1) (h2 : 2 < n → b2 = c2) (h3 : 3 < n → b3 = c3) (h : (Lib.decodeN n b0 b1 b2 b3).2 ≠ 1) : Lib.decodeN n' b0 c1 c2 c3 = Lib.decodeN n b0 b1 b2 b3 := by
  unfold Lib.decodeN at *
  by_cases a0 : b0 < 128
  · rw [if_pos a0, if_pos a0]
  · rw [if_neg a0] at h ⊢
    rw [if_neg a0]
    by_cases a1 : b0 / 32 = 6 ∧ (1 < n ∧ b1 / 64 = 2)
    · obtain rfl := h1 a1.2.1
      rw [if_pos a1, if_pos ⟨a1.1, by omega, a1.2.2⟩]
    · rw [if_neg a1] at h ⊢
      by_cases a2 : b0 / 16 = 14 ∧ (1 < n ∧ b1 / 64 = 2) ∧ (2 < n ∧ b2 / 64 = 2)
      · obtain rfl := h1 a2.2.1.1
        obtain rfl := h2 a2.2.2.1
        rw [if_neg (by omega), if_pos a2, if_pos ⟨a2.1, ⟨by omega, a2.2.1.2⟩, by omega, a2.2.2.2⟩]
      · rw [if_neg a2] at h ⊢
        by_cases a3 : b0 / 8 = 30 ∧ (1 < n ∧ b1 / 64 = 2) ∧ (2 < n ∧ b2 / 64 = 2) ∧ (3 < n ∧ b3 / 64 = 2)
        · obtain rfl := h1 a3.2.1.1
          obtain rfl := h2 a3.2.2.1.1
          obtain rfl := h3 a3.2.2.2.1
          rw [if_neg (by omega), if_neg (by omega), if_pos a3, if_pos ⟨a3.1, ⟨by omega, a3.2.1.2⟩, ⟨by omega, a3.2.2.1.2⟩, by omega, a3.2.2.2.2⟩]
        · rw [if_neg a3] at h
          exact absurd rfl h
theorem getD_app (l x : Bs) (i : Nat) (h : i < l.length) : l.getD i 0 = (l ++ x).getD i 0 := by
  simp [List.getD_eq_getElem?_getD, List.getElem?_append_left h]
theorem sgn_ext (l x : Bs) (h : sgn l ≠ 0) : sgn (l ++ x) = sgn l := by
  cases l with
  | nil => exact absurd rfl h
  | cons c r =>
    simp only [sgn, List.cons_append] at h ⊢
    by_cases hc : c.toNat < 128
    · rw [if_pos hc, if_pos hc]
    · rw [if_neg hc] at h ⊢
      rw [if_neg hc]
      have h1 : (Lib.decodeL (c :: r)).2 ≠ 1 := fun e => h (by rw [if_pos e])
      have e : Lib.decodeL (c :: (r ++ x)) = Lib.decodeL (c :: r) := by
        rw [Lib.decodeL_N] at h1 ⊢
        rw [Lib.decodeL_N]
        have e0 : (c :: (r ++ x)) = (c :: r) ++ x := rfl
        have := decN_ext (c :: r).length ((c :: r) ++ x).length _ _ _ _ (((c :: r) ++ x).getD 1 0).toNat (((c :: r) ++ x).getD 2 0).toNat (((c :: r) ++ x).getD 3 0).toNat (by simp) (fun hh => by rw [getD_app _ x 1 hh]) (fun hh => by rw [getD_app _ x 2 hh]) (fun hh => by rw [getD_app _ x 3 hh]) h1
        rw [e0]
        exact this
      rw [e]
/-- What may stand behind a number. -/
def stops : Bs → Bool
  | [] => true
  | c :: _ => !isDig c && c != 46 && c != 101 && c != 69
theorem drop_app' (l x : Bs) (n : Nat) (h : n ≤ l.length) : (l ++ x).drop n = l.drop n ++ x := by
  rw [List.drop_append_of_le_length h]
theorem len1 {l : Bs} {c : UInt8} (h : isC c l = true) : 1 ≤ l.length := by
  cases l with
  | nil => cases h
  | cons => simp
theorem ok_inj {α : Type} {a c : Bs} {b d : α} (h : Rs.ok a b = Rs.ok c d) : a = c ∧ b = d := by
  cases h
  exact ⟨rfl, rfl⟩
theorem map_ok {f : F → F} {x : Rs F} {r : Bs} {g : F} (h : x.map f = .ok r g) : ∃ g0, x = .ok r g0 ∧ f g0 = g := by
  cases x with
  | bad a b => cases h
  | ok a b =>
    injection h with h1 h2
    exact ⟨b, by rw [h1], h2⟩
theorem rmap_ok {α β : Type} {f : α → β} {x : Rs α} {r : Bs} {g : β} (h : x.map f = .ok r g) : ∃ g0, x = .ok r g0 ∧ f g0 = g := by
  cases x with
  | bad a b => cases h
  | ok a b =>
    injection h with h1 h2
    exact ⟨b, by rw [h1], h2⟩
end Go.Proofs.YtadfkeipcebmfaaDoor.Pure

namespace Go.Proofs.YtadfkeipcebmfaaDoor.Pure
open Go.Proofs.YtadfkeipcebmfaaDoor.X Go.RowKit Go.Proofs.YtadfkeipcebmfaaDoorW.PrintWords
set_option linter.unusedVariables false
set_option linter.unusedSimpArgs false
/-- A sign's decoding hangs on its own bytes alone; they are not ASCII. -/
theorem decN_own (n n' b0 b1 b2 b3 c1 c2 c3 : Nat) (h : (Lib.decodeN n b0 b1 b2 b3).2 ≠ 1) (hn : (Lib.decodeN n b0 b1 b2 b3).2 ≤ n') (h1 : 1 < (Lib.decodeN n b0 b1 b2 b3).2 → b1 = c1) (h2 : 2 < (Lib.decodeN n b0 b1 b2 b3).2 → b2 = c2) (h3 : 3 < (Lib.decodeN n b0 b1 b2 b3).2 → b3 = c3) :
    Lib.decodeN n' b0 c1 c2 c3 = Lib.decodeN n b0 b1 b2 b3 ∧ 128 ≤ b0 ∧ (1 < (Lib.decodeN n b0 b1 b2 b3).2 → 128 ≤ b1) ∧ (2 < (Lib.decodeN n b0 b1 b2 b3).2 → 128 ≤ b2) ∧ (3 < (Lib.decodeN n b0 b1 b2 b3).2 → 128 ≤ b3) ∧ (Lib.decodeN n b0 b1 b2 b3).2 ≤ 4 ∧ 2 ≤ (Lib.decodeN n b0 b1 b2 b3).2 := by
  unfold Lib.decodeN at *
  by_cases a0 : b0 < 128
  · rw [if_pos a0] at h
    exact absurd rfl h
  · rw [if_neg a0] at h hn h1 h2 h3 ⊢
    rw [if_neg a0]
    by_cases a1 : b0 / 32 = 6 ∧ (1 < n ∧ b1 / 64 = 2)
    · rw [if_pos a1] at h hn h1 h2 h3 ⊢
      by_cases g : b0 % 32 * 64 + b1 % 64 ≥ 128
      · rw [if_pos g] at h hn h1 h2 h3 ⊢
        obtain rfl := h1 (by simp)
        simp only at hn
        rw [if_pos ⟨a1.1, by omega, a1.2.2⟩, if_pos g]
        refine ⟨rfl, by omega, fun _ => by omega, fun hh => absurd hh (by simp), fun hh => absurd hh (by simp), by simp, by simp⟩
      · rw [if_neg g] at h
        exact absurd rfl h
    · rw [if_neg a1] at h hn h1 h2 h3 ⊢
      by_cases a2 : b0 / 16 = 14 ∧ (1 < n ∧ b1 / 64 = 2) ∧ (2 < n ∧ b2 / 64 = 2)
      · rw [if_pos a2] at h hn h1 h2 h3 ⊢
        split at h
        · rename_i g
          rw [if_pos g] at hn h1 h2 h3 ⊢
          obtain rfl := h1 (by simp)
          obtain rfl := h2 (by simp)
          simp only at hn
          rw [if_neg (by omega), if_pos ⟨a2.1, ⟨by omega, a2.2.1.2⟩, by omega, a2.2.2.2⟩, if_pos g]
          refine ⟨rfl, by omega, fun _ => by omega, fun _ => by omega, fun hh => absurd hh (by simp), by simp, by simp⟩
        · exact absurd rfl h
      · rw [if_neg a2] at h hn h1 h2 h3 ⊢
        by_cases a3 : b0 / 8 = 30 ∧ (1 < n ∧ b1 / 64 = 2) ∧ (2 < n ∧ b2 / 64 = 2) ∧ (3 < n ∧ b3 / 64 = 2)
        · rw [if_pos a3] at h hn h1 h2 h3 ⊢
          split at h
          · rename_i g
            rw [if_pos g] at hn h1 h2 h3 ⊢
            obtain rfl := h1 (by simp)
            obtain rfl := h2 (by simp)
            obtain rfl := h3 (by simp)
            simp only at hn
            rw [if_neg (by omega), if_neg (by omega), if_pos ⟨a3.1, ⟨by omega, a3.2.1.2⟩, ⟨by omega, a3.2.2.1.2⟩, by omega, a3.2.2.2.2⟩, if_pos g]
            refine ⟨rfl, by omega, fun _ => by omega, fun _ => by omega, fun _ => by omega, by simp, by simp⟩
          · exact absurd rfl h
        · rw [if_neg a3] at h
          exact absurd rfl h
theorem decN_one (n b0 b1 b2 b3 : Nat) (h0 : ¬ b0 < 128) (h : (Lib.decodeN n b0 b1 b2 b3).2 = 1) : (Lib.decodeN n b0 b1 b2 b3).1 = 65533 := by
  unfold Lib.decodeN at *
  rw [if_neg h0] at h ⊢
  by_cases a1 : b0 / 32 = 6 ∧ (1 < n ∧ b1 / 64 = 2)
  · rw [if_pos a1] at h ⊢
    split at h
    · cases h
    · rename_i g
      rw [if_neg g]
  · rw [if_neg a1] at h ⊢
    by_cases a2 : b0 / 16 = 14 ∧ (1 < n ∧ b1 / 64 = 2) ∧ (2 < n ∧ b2 / 64 = 2)
    · rw [if_pos a2] at h ⊢
      split at h
      · cases h
      · rename_i g
        rw [if_neg g]
    · rw [if_neg a2] at h ⊢
      by_cases a3 : b0 / 8 = 30 ∧ (1 < n ∧ b1 / 64 = 2) ∧ (2 < n ∧ b2 / 64 = 2) ∧ (3 < n ∧ b3 / 64 = 2)
      · rw [if_pos a3] at h ⊢
        split at h
        · cases h
        · rename_i g
          rw [if_neg g]
      · rw [if_neg a3]
/-- The sign ahead, by itself. -/
theorem sgn_own (c : UInt8) (r : Bs) (hc : ¬ c.toNat < 128) (h : sgn (c :: r) ≠ 0) : (∀ b ∈ (c :: r).take (sgn (c :: r)), 128 ≤ b.toNat) ∧ sgn ((c :: r).take (sgn (c :: r))) = sgn (c :: r) ∧ sgn (c :: r) = (Lib.decodeL (c :: r)).2 ∧ 2 ≤ sgn (c :: r) := by
  have hle := Lib.decodeL_le (c :: r) (by simp)
  have hs : sgn (c :: r) = (Lib.decodeL (c :: r)).2 ∧ (Lib.decodeL (c :: r)).2 ≠ 1 := by
    simp only [sgn] at h ⊢
    rw [if_neg hc] at h ⊢
    split at h
    · exact absurd rfl h
    · rename_i h1
      exact ⟨by rw [if_neg h1], h1⟩
  obtain ⟨hs, h1⟩ := hs
  rw [hs]
  generalize hl : c :: r = l at h1 hle
  obtain ⟨w, hw⟩ : ∃ w, w = (Lib.decodeL l).2 := ⟨_, rfl⟩
  rw [← hw] at h1 hle ⊢
  have hN := Lib.decodeL_N l
  have hwN : w = (Lib.decodeN l.length (l.getD 0 0).toNat (l.getD 1 0).toNat (l.getD 2 0).toNat (l.getD 3 0).toNat).2 := by rw [hw, hN]
  have hlen : (l.take w).length = w := by rw [List.length_take]; omega
  have hg : ∀ i, i < w → (l.take w).getD i 0 = l.getD i 0 := fun i hi => by simp [List.getD_eq_getElem?_getD, List.getElem?_take_of_lt hi]
  have ho := decN_own l.length (l.take w).length (l.getD 0 0).toNat (l.getD 1 0).toNat (l.getD 2 0).toNat (l.getD 3 0).toNat ((l.take w).getD 1 0).toNat ((l.take w).getD 2 0).toNat ((l.take w).getD 3 0).toNat (by rw [← hwN]; exact h1) (by rw [← hwN, hlen]; exact Nat.le_refl _) (fun hh => by rw [hg 1 (by omega)]) (fun hh => by rw [hg 2 (by omega)]) (fun hh => by rw [hg 3 (by omega)])
  rw [← hwN] at ho
  obtain ⟨o1, o2, o3, o4, o5, o6, o7⟩ := ho
  refine ⟨fun b hb => ?_, ?_, rfl, o7⟩
  · obtain ⟨i, hi, rfl⟩ := List.getElem_of_mem hb
    rw [hlen] at hi
    have e : (l.take w)[i]'(by rw [hlen]; exact hi) = l.getD i 0 := by
      rw [← hg i hi, List.getD_eq_getElem?_getD, List.getElem?_eq_getElem (by rw [hlen]; exact hi)]
      rfl
    rw [e]
    match i, hi with
    | 0, _ => exact o2
    | 1, hi => exact o3 hi
    | 2, hi => exact o4 hi
    | 3, hi => exact o5 hi
    | i + 4, hi => omega
  · have e2 : (Lib.decodeL (l.take w)).2 = w := by
      rw [Lib.decodeL_N, hg 0 (by omega), o1, ← hwN]
    subst hl
    obtain ⟨w', rfl⟩ : ∃ w', w = w' + 1 := ⟨w - 1, by omega⟩
    rw [List.take_succ_cons] at e2 ⊢
    simp only [sgn]
    rw [if_neg hc, e2, if_neg h1]
theorem valid_sgn (c : UInt8) (r : Bs) (h : Lib.validD (c :: r) = true) : sgn (c :: r) ≠ 0 ∧ Lib.validD ((c :: r).drop (sgn (c :: r))) = true := by
  rw [Lib.validD_step _ (by simp)] at h
  by_cases hc : c.toNat < 128
  · have e : sgn (c :: r) = 1 := by simp only [sgn]; rw [if_pos hc]
    rw [Lib.decodeL_ascii c r hc] at h
    rw [e]
    split at h
    · cases h
    · exact ⟨by decide, h⟩
  · have hw : (Lib.decodeL (c :: r)).2 = 1 → (Lib.decodeL (c :: r)).1 = 65533 := by
      rw [Lib.decodeL_N]
      exact decN_one _ _ _ _ _ (by simpa using hc)
    split at h
    · cases h
    · rename_i hn
      have h1 : (Lib.decodeL (c :: r)).2 ≠ 1 := fun e => hn ⟨hw e, e⟩
      have e : sgn (c :: r) = (Lib.decodeL (c :: r)).2 := by simp only [sgn]; rw [if_neg hc, if_neg h1]
      have h0 := Lib.decodeL_width (c :: r)
      rw [e]
      exact ⟨by omega, h⟩
end Go.Proofs.YtadfkeipcebmfaaDoor.Pure

namespace Go.Proofs.YtadfkeipcebmfaaDoor.Pure
open Go.Proofs.YtadfkeipcebmfaaDoor.X Go.RowKit Go.Proofs.YtadfkeipcebmfaaDoorW.PrintWords
set_option linter.unusedVariables false
set_option linter.unusedSimpArgs false
end Go.Proofs.YtadfkeipcebmfaaDoor.Pure

namespace Go.Proofs.YtadfkeipcebmfaaDoor.Pure
open Go.Proofs.YtadfkeipcebmfaaDoor.X Go.RowKit Go.Proofs.YtadfkeipcebmfaaDoorW.PrintWords
set_option linter.unusedVariables false
set_option linter.unusedSimpArgs false
def leafB (d : Int) (t : Bs) : Bool := if d = 4 then decide (t.length ≤ 65536) && isNum t else if d = 5 then Lib.validD t else (d == 1 || d == 2 || d == 3) && t.isEmpty
/-- May trees in a row be, d deep at most? -/
def good : F → Nat → Bool → Bool
  | .nil, _, _ => true
  | .leaf k kd t r, d, keyed => decide (0 < d) && (k.isEmpty || keyed) && Lib.validD k && leafB kd t && good r d keyed
  | .node k kd ks r, d, keyed => decide (0 < d) && (k.isEmpty || keyed) && Lib.validD k && (kd == 6 || kd == 7) && good ks (d - 1) (kd == 7) && good r d keyed
def key : F → Bs
  | .leaf k _ _ _ => k
  | .node k _ _ _ => k
  | .nil => []
theorem isNum_num {t : Bs} (h : isNum t = true) : num t = .ok [] () := by
  unfold isNum at h
  split at h
  · assumption
  · cases h
theorem num_head {t : Bs} (h : num t = .ok [] ()) : ∃ c r, t = c :: r ∧ (c = 45 ∨ isDig c = true) := by
  cases t with
  | nil => cases h
  | cons c r =>
    refine ⟨c, r, rfl, Classical.byContradiction fun hn => ?_⟩
    obtain ⟨l, e, h2⟩ := num_no c r hn
    rw [h2] at h
    cases h
theorem cnt_out : ∀ (f : F) (d : Nat) (keyed ob first : Bool), good f d keyed = true → f.count ≤ (f.out ob first).length
  | .nil, d, keyed, ob, first, h => Nat.le_refl _
  | .leaf k kd t r, d, keyed, ob, first, h => by
    simp only [good, Bool.and_eq_true] at h
    have ih := cnt_out r d keyed ob false h.2
    have hl : 1 ≤ (ltx kd t).length := by
      have hlb := h.1.2
      unfold leafB at hlb
      unfold ltx
      by_cases h4 : kd = 4
      · subst h4
        rw [if_pos rfl] at hlb
        simp only [Bool.and_eq_true] at hlb
        obtain ⟨c, r', e, _⟩ := num_head (isNum_num hlb.2)
        rw [e]
        simp
      · split
        · simp
        · split
          · simp
          · split
            · simp
            · simp [quote]
    simp only [F.count, F.out, List.length_append]
    omega
  | .node k kd ks r, d, keyed, ob, first, h => by
    simp only [good, Bool.and_eq_true] at h
    have ih := cnt_out r d keyed ob false h.2
    have hn : 1 ≤ (if kd = 7 then 123 :: (ks.out true true ++ [125]) else 91 :: (ks.out false true ++ [93])).length := by split <;> simp
    simp only [F.count, F.out, List.length_append]
    omega
end Go.Proofs.YtadfkeipcebmfaaDoor.Pure

namespace Go.Proofs.YtadfkeipcebmfaaDoor.Pure
open Go.Proofs.YtadfkeipcebmfaaDoor.X Go.RowKit Go.Proofs.YtadfkeipcebmfaaDoorW.PrintWords
set_option linter.unusedVariables false
set_option linter.unusedSimpArgs false
theorem good_app : ∀ (f g : F) (d : Nat) (keyed : Bool), good (f.app g) d keyed = (good f d keyed && good g d keyed)
  | .nil, g, d, keyed => by simp [F.app, good]
  | .leaf k kd t r, g, d, keyed => by simp [F.app, good, good_app r g, Bool.and_assoc]
  | .node k kd ks r, g, d, keyed => by simp [F.app, good, good_app r g, Bool.and_assoc]
/-- What is told of a tree that may be. -/
def DecIs (d : Nat) (keyed : Bool) (t : F) : Prop := ∀ r, dec d keyed (t.flat ++ r) = some (t, r)
theorem kids_is (d : Nat) (keyed : Bool) : ∀ (f : F), (∀ t ∈ f.trees, DecIs d keyed t) → ∀ r, kids (dec d keyed) f.count (f.flat ++ r) = some (f, r)
  | .nil, h, r => rfl
  | .leaf k kd t f, h, r => by
    have h1 := h (.leaf k kd t .nil) (by simp [F.trees]) (f.flat ++ r)
    have h2 := kids_is d keyed f (fun u hu => h u (by simp [F.trees, hu])) r
    have e : (F.leaf k kd t f).flat ++ r = (F.leaf k kd t .nil).flat ++ (f.flat ++ r) := by simp [F.flat]
    rw [e, F.count, kids, h1]
    simp only
    rw [h2]
    rfl
  | .node k kd ks f, h, r => by
    have h1 := h (.node k kd ks .nil) (by simp [F.trees]) (f.flat ++ r)
    have h2 := kids_is d keyed f (fun u hu => h u (by simp [F.trees, hu])) r
    have e : (F.node k kd ks f).flat ++ r = (F.node k kd ks .nil).flat ++ (f.flat ++ r) := by simp [F.flat]
    rw [e, F.count, kids, h1]
    simp only
    rw [h2]
    rfl
theorem dec_is : ∀ (f : F) (d : Nat) (keyed : Bool), good f d keyed = true → ∀ t ∈ f.trees, DecIs d keyed t
  | .nil, d, keyed, h, t, ht => by simp [F.trees] at ht
  | .leaf k kd tx f, d, keyed, h, t, ht => by
    simp only [good, Bool.and_eq_true, decide_eq_true_eq] at h
    simp only [F.trees, List.mem_cons] at ht
    rcases ht with rfl | ht
    · obtain ⟨d, rfl⟩ : ∃ d', d = d' + 1 := ⟨d - 1, by omega⟩
      intro r
      obtain ⟨⟨⟨⟨_, g2⟩, g3⟩, g4⟩, _⟩ := h
      have hk : (1 ≤ kd ∧ kd ≤ 5) ∧ (if kd = 4 then decide ((str tx).size ≤ 65536) && isNum tx else if kd = 5 then Lib.validD tx else tx.isEmpty) = true := by
        unfold leafB at g4
        rw [str_size]
        split at g4
        · rename_i h4
          rw [if_pos h4]
          exact ⟨by omega, g4⟩
        · rename_i h4
          rw [if_neg h4]
          split at g4
          · rename_i h5
            rw [if_pos h5]
            exact ⟨by omega, g4⟩
          · rename_i h5
            rw [if_neg h5]
            simp only [Bool.and_eq_true, Bool.or_eq_true, beq_iff_eq] at g4
            exact ⟨by omega, g4.2⟩
      obtain ⟨⟨k1, k2⟩, k3⟩ := hk
      have hok : okN (⟨kd, 1, 0, str k, str tx⟩ : Nd) keyed = true := by
        unfold okN
        simp only [str_list]
        rw [g2, g3, k3]
        have e1 : decide (1 ≤ kd) = true := decide_eq_true k1
        have e2 : decide (kd ≤ 7) = true := decide_eq_true (by omega)
        rw [e1, e2]
        rfl
      show dec (d + 1) keyed ((⟨kd, 1, 0, str k, str tx⟩ : Nd) :: ([] ++ r)) = _
      simp only [dec]
      rw [if_pos hok]
      simp only [Int.toNat_zero, kids, List.nil_append]
      rw [if_pos (by simp), if_pos (by omega)]
      rfl
    · exact dec_is f d keyed h.2 t ht
  | .node k kd ks f, d, keyed, h, t, ht => by
    simp only [good, Bool.and_eq_true, decide_eq_true_eq, Bool.or_eq_true, beq_iff_eq] at h
    simp only [F.trees, List.mem_cons] at ht
    rcases ht with rfl | ht
    · obtain ⟨d, rfl⟩ : ∃ d', d = d' + 1 := ⟨d - 1, by omega⟩
      intro r
      obtain ⟨⟨⟨⟨⟨_, g2⟩, g3⟩, g4⟩, g5⟩, _⟩ := h
      have hks := kids_is d (kd == 7) ks (dec_is ks d (kd == 7) g5) r
      have hok : okN (⟨kd, ((ks.flat.length + 1 : Nat) : Int), (ks.count : Nat), str k, str []⟩ : Nd) keyed = true := by
        unfold okN
        simp only [str_list]
        have g2' : (k.isEmpty || keyed) = true := by simpa using g2
        rw [g2', g3]
        rcases g4 with rfl | rfl <;> simp
      have e : (F.node k kd ks .nil).flat ++ r = (⟨kd, ((ks.flat.length + 1 : Nat) : Int), (ks.count : Nat), str k, str []⟩ : Nd) :: (ks.flat ++ r) := by simp [F.flat]
      rw [e]
      simp only [dec]
      rw [if_pos hok]
      simp only [Int.toNat_natCast]
      rw [hks]
      simp only
      rw [if_pos (by simp), if_neg (by omega)]
      rfl
    · exact dec_is f d keyed h.2 t ht
theorem tree_is {f : F} (h1 : f.one) (h : good f 32 false = true) : tree? f.flat = some f := by
  have hm : f ∈ f.trees := by
    match f, h1 with
    | .leaf _ _ _ .nil, _ => simp [F.trees]
    | .node _ _ _ .nil, _ => simp [F.trees]
  have := dec_is f 32 false h f hm []
  rw [List.append_nil] at this
  unfold tree?
  rw [this]
end Go.Proofs.YtadfkeipcebmfaaDoor.Pure

namespace Go.Proofs.YtadfkeipcebmfaaDoor.Pure
open Go.Proofs.YtadfkeipcebmfaaDoor.X Go.RowKit Go.Proofs.YtadfkeipcebmfaaDoorW.PrintWords
set_option linter.unusedVariables false
set_option linter.unusedSimpArgs false
def nd : Bs → Bool
  | [] => true
  | c :: _ => !isDig c
theorem skip_nd (x : Bs) (hx : nd x = true) : ∀ l : Bs, (∀ c ∈ l, isDig c = true) → skipDig (l ++ x) = x
  | [], _ => by
    cases x with
    | nil => rfl
    | cons c x =>
      simp only [nd, Bool.not_eq_true'] at hx
      simp [skipDig, hx]
  | c :: l, h => by
    rw [List.cons_append, skipDig, if_pos (h c (by simp))]
    exact skip_nd x hx l (fun d hd => h d (by simp [hd]))
theorem skip_part : ∀ l : Bs, ∃ t, l = t ++ skipDig l ∧ (∀ c ∈ t, isDig c = true) ∧ nd (skipDig l) = true
  | [] => ⟨[], rfl, by simp, rfl⟩
  | c :: l => by
    rw [skipDig]
    by_cases hc : isDig c = true
    · obtain ⟨t, e, h1, h2⟩ := skip_part l
      rw [if_pos hc]
      refine ⟨c :: t, by rw [List.cons_append, ← e], fun d hd => ?_, h2⟩
      simp only [List.mem_cons] at hd
      rcases hd with rfl | hd
      · exact hc
      · exact h1 d hd
    · rw [if_neg hc]
      exact ⟨[], rfl, by simp, by simpa [nd] using hc⟩
/-- digits read t, and whatever no digit follows it. -/
theorem digits_part (l r : Bs) (u : Unit) (h : digits l = .ok r u) : ∃ t, l = t ++ r ∧ t ≠ [] ∧ (∀ y, nd y = true → digits (t ++ y) = .ok y ()) ∧ ∀ c y, t = c :: y → isDig c = true := by
  cases l with
  | nil => cases h
  | cons c l =>
    simp only [digits] at h
    split at h
    · rename_i hc
      injection h with h1 _
      obtain ⟨t, e, h2, h3⟩ := skip_part l
      rw [h1] at e
      refine ⟨c :: t, by rw [List.cons_append, ← e], by simp, fun y hy => ?_, fun c' y' hh => ?_⟩
      · rw [List.cons_append, digits, if_pos hc, skip_nd y hy t h2]
      · injection hh with hh _
        rw [← hh]
        exact hc
    · cases h
theorem isC_true {c : UInt8} {l : Bs} (h : isC c l = true) : ∃ r, l = c :: r := by
  cases l with
  | nil => cases h
  | cons d r =>
    simp only [isC, beq_iff_eq] at h
    exact ⟨r, by rw [h]⟩
theorem num1_part (l r : Bs) (u : Unit) (h : num1 l = .ok r u) : ∃ t, l = t ++ r ∧ (∀ y, nd y = true → num1 (t ++ y) = .ok y ()) ∧ ∃ c t', t = c :: t' ∧ isDig c = true := by
  unfold num1 at h
  by_cases h0 : isC 48 l = true
  · rw [if_pos h0] at h
    obtain ⟨r', rfl⟩ := isC_true h0
    injection h with h1 _
    simp only [List.drop_succ_cons, List.drop_zero] at h1
    subst h1
    exact ⟨[48], rfl, fun y hy => rfl, 48, [], rfl, by decide⟩
  · rw [if_neg h0] at h
    obtain ⟨t, e, h1, h2, h3⟩ := digits_part _ _ _ h
    obtain ⟨c, t', rfl⟩ : ∃ c t', t = c :: t' := by
      cases t with
      | nil => exact absurd rfl h1
      | cons c t' => exact ⟨c, t', rfl⟩
    refine ⟨c :: t', e, fun y hy => ?_, c, t', rfl, h3 _ _ rfl⟩
    have e2 : isC 48 (c :: t' ++ y) = isC 48 l := by rw [e]; rfl
    unfold num1
    rw [e2, if_neg h0]
    exact h2 y hy
theorem num2_part (l r : Bs) (u : Unit) (h : num2 l = .ok r u) : ∃ t, l = t ++ r ∧ (∀ y, nd y = true → isC 46 y = false → num2 (t ++ y) = .ok y ()) ∧ ∀ y, nd y = true → nd (t ++ y) = true := by
  unfold num2 at h
  by_cases h0 : isC 46 l = true
  · rw [if_pos h0] at h
    obtain ⟨r', rfl⟩ := isC_true h0
    simp only [List.drop_succ_cons, List.drop_zero] at h
    obtain ⟨t, e, h1, h2, h3⟩ := digits_part _ _ _ h
    refine ⟨46 :: t, by rw [e]; rfl, fun y hy _ => ?_, fun y _ => rfl⟩
    unfold num2
    have e1 : isC 46 (46 :: t ++ y) = true := rfl
    have e2 : (46 :: t ++ y).drop 1 = t ++ y := rfl
    rw [e1, if_pos rfl, e2]
    exact h2 y hy
  · rw [if_neg h0] at h
    injection h with h1 _
    subst h1
    refine ⟨[], rfl, fun y hy h46 => ?_, fun y hy => hy⟩
    unfold num2
    rw [List.nil_append, h46]
    rfl
theorem num3_part (l r : Bs) (u : Unit) (h : num3 l = .ok r u) : ∃ t, l = t ++ r ∧ num3 t = .ok [] () ∧ nd t = true ∧ isC 46 t = false := by
  unfold num3 at h
  by_cases h0 : (isC 101 l || isC 69 l) = true
  · rw [if_pos h0] at h
    obtain ⟨ce, l', rfl, hce⟩ : ∃ ce l', l = ce :: l' ∧ (ce = 101 ∨ ce = 69) := by
      simp only [Bool.or_eq_true] at h0
      rcases h0 with h0 | h0
      · obtain ⟨r', e⟩ := isC_true h0
        exact ⟨101, r', e, .inl rfl⟩
      · obtain ⟨r', e⟩ := isC_true h0
        exact ⟨69, r', e, .inr rfl⟩
    simp only [List.drop_succ_cons, List.drop_zero] at h
    by_cases h1 : (isC 43 l' || isC 45 l') = true
    · rw [if_pos h1] at h
      obtain ⟨cs, l2, rfl, hcs⟩ : ∃ cs l2, l' = cs :: l2 ∧ (cs = 43 ∨ cs = 45) := by
        simp only [Bool.or_eq_true] at h1
        rcases h1 with h1 | h1
        · obtain ⟨r', e⟩ := isC_true h1
          exact ⟨43, r', e, .inl rfl⟩
        · obtain ⟨r', e⟩ := isC_true h1
          exact ⟨45, r', e, .inr rfl⟩
      simp only [List.drop_succ_cons, List.drop_zero] at h
      obtain ⟨t, e, h2, h3, h4⟩ := digits_part _ _ _ h
      have h5 := h3 [] rfl
      rw [List.append_nil] at h5
      refine ⟨ce :: cs :: t, by rw [e]; rfl, ?_, ?_, ?_⟩
      · unfold num3
        have e1 : (isC 101 (ce :: cs :: t) || isC 69 (ce :: cs :: t)) = true := by rcases hce with rfl | rfl <;> rfl
        have e2 : (isC 43 ((ce :: cs :: t).drop 1) || isC 45 ((ce :: cs :: t).drop 1)) = true := by rcases hcs with rfl | rfl <;> rfl
        rw [e1, if_pos rfl, e2, if_pos rfl]
        exact h5
      · rcases hce with rfl | rfl <;> rfl
      · rcases hce with rfl | rfl <;> rfl
    · rw [if_neg h1] at h
      obtain ⟨t, e, h2, h3, h4⟩ := digits_part _ _ _ h
      obtain ⟨ct, t', rfl⟩ : ∃ c t', t = c :: t' := by
        cases t with
        | nil => exact absurd rfl h2
        | cons c t' => exact ⟨c, t', rfl⟩
      have h5 := h3 [] rfl
      rw [List.append_nil] at h5
      have e3 : (isC 43 (ct :: t') || isC 45 (ct :: t')) = (isC 43 l' || isC 45 l') := by rw [e]; rfl
      refine ⟨ce :: ct :: t', by rw [e]; rfl, ?_, ?_, ?_⟩
      · unfold num3
        have e1 : (isC 101 (ce :: ct :: t') || isC 69 (ce :: ct :: t')) = true := by rcases hce with rfl | rfl <;> rfl
        have e2 : (isC 43 ((ce :: ct :: t').drop 1) || isC 45 ((ce :: ct :: t').drop 1)) = false := by
          show (isC 43 (ct :: t') || isC 45 (ct :: t')) = false
          rw [e3]
          simpa using h1
        rw [e1, if_pos rfl, e2]
        exact h5
      · rcases hce with rfl | rfl <;> rfl
      · rcases hce with rfl | rfl <;> rfl
  · rw [if_neg h0] at h
    injection h with h1 _
    subst h1
    exact ⟨[], rfl, rfl, rfl, rfl⟩
theorem num_part (l r : Bs) (u : Unit) (h : num l = .ok r u) : ∃ t, l = t ++ r ∧ num t = .ok [] () := by
  unfold num at h
  have key : ∀ l', (match num1 l' with | .bad r e => (.bad r e : Rs Unit) | .ok l2 _ => match num2 l2 with | .bad r e => .bad r e | .ok l3 _ => num3 l3) = .ok r u → ∃ t, l' = t ++ r ∧ (match num1 t with | .bad r e => (.bad r e : Rs Unit) | .ok l2 _ => match num2 l2 with | .bad r e => .bad r e | .ok l3 _ => num3 l3) = .ok [] () ∧ ∃ c t', t = c :: t' ∧ isDig c = true := by
    intro l' h
    cases h1 : num1 l' with
    | bad a b => rw [h1] at h; cases h
    | ok l2 u2 =>
      rw [h1] at h
      simp only at h
      cases h2 : num2 l2 with
      | bad a b => rw [h2] at h; cases h
      | ok l3 u3 =>
        rw [h2] at h
        simp only at h
        obtain ⟨t1, e1, p1, c, t', ec, hc⟩ := num1_part _ _ _ h1
        obtain ⟨t2, e2, p2, q2⟩ := num2_part _ _ _ h2
        obtain ⟨t3, e3, p3, q3, s3⟩ := num3_part _ _ _ h
        refine ⟨t1 ++ (t2 ++ t3), by rw [e1, e2, e3]; simp, ?_, c, t' ++ (t2 ++ t3), by rw [ec]; rfl, hc⟩
        rw [p1 (t2 ++ t3) (q2 t3 q3)]
        simp only
        rw [p2 t3 q3 s3]
        exact p3
  by_cases h45 : isC 45 l = true
  · rw [if_pos h45] at h
    obtain ⟨l', rfl⟩ := isC_true h45
    obtain ⟨t, e, ht, _⟩ := key _ h
    simp only [List.drop_succ_cons, List.drop_zero] at e
    refine ⟨45 :: t, by rw [e]; rfl, ?_⟩
    unfold num
    have e1 : isC 45 (45 :: t) = true := rfl
    rw [e1, if_pos rfl]
    exact ht
  · rw [if_neg h45] at h
    obtain ⟨t, e, ht, c, t', ec, hc⟩ := key _ h
    refine ⟨t, e, ?_⟩
    unfold num
    have e1 : isC 45 t = false := by
      rw [ec]
      simp only [isC, beq_eq_false_iff_ne, ne_eq]
      rintro rfl
      exact absurd hc (by decide)
    rw [e1, if_neg (by simp)]
    exact ht
theorem number_is (l r t : Bs) (h : number l = .ok r t) : isNum t = true ∧ l = t ++ r := by
  unfold number at h
  cases hn : num l with
  | bad a b => rw [hn] at h; cases h
  | ok a u =>
    rw [hn] at h
    simp only at h
    injection h with h1 h2
    obtain ⟨t', e, ht⟩ := num_part _ _ _ hn
    subst h1
    have e2 : t = t' := by
      rw [← h2]
      conv => lhs; rw [e]
      simp
    subst e2
    refine ⟨?_, e⟩
    unfold isNum
    rw [ht]
end Go.Proofs.YtadfkeipcebmfaaDoor.Pure

namespace Go.Proofs.YtadfkeipcebmfaaDoor.Pure
open Go.Proofs.YtadfkeipcebmfaaDoor.X Go.RowKit Go.Proofs.YtadfkeipcebmfaaDoorW.PrintWords
set_option linter.unusedVariables false
set_option linter.unusedSimpArgs false
theorem u8n (n : Nat) (h : n < 256) : (UInt8.ofNat n).toNat = n := by rw [UInt8.toNat_ofNat']; omega
/-- What decodes in full is passed over. -/
theorem valid_of (l : Bs) (hne : l ≠ []) (w : Nat) (n : Nat) (hd : Lib.decodeL l = (n, w)) (hw : w ≠ 1) : Lib.validD l = Lib.validD (l.drop w) := by
  rw [Lib.validD_step l hne, hd, if_neg (fun h => hw h.2)]
set_option maxRecDepth 100000 in
theorem enc_valid (x : Nat) (h1 : x < 1114112) (h2 : x < 55296 ∨ 57343 < x) : Lib.validD (enc x) = true := by
  have hv : Utf8.valid (x : Int) = true := by
    unfold Utf8.valid
    simp
    omega
  have he : enc x = if x < 128 then [UInt8.ofNat x] else if x < 2048 then [UInt8.ofNat (192 + x / 64), UInt8.ofNat (128 + x % 64)] else if x < 65536 then [UInt8.ofNat (224 + x / 4096), UInt8.ofNat (128 + x / 64 % 64), UInt8.ofNat (128 + x % 64)] else [UInt8.ofNat (240 + x / 262144), UInt8.ofNat (128 + x / 4096 % 64), UInt8.ofNat (128 + x / 64 % 64), UInt8.ofNat (128 + x % 64)] := by
    rw [enc, Utf8.encode, if_pos hv, Int.toNat_natCast]
    simp only
    split
    · rfl
    · split
      · rfl
      · split <;> rfl
  rw [he]
  split
  · rw [Lib.validD_cons _ _ (by rw [u8n _ (by omega)]; assumption)]
    rfl
  · split
    · rw [valid_of _ (by simp) 2 x (by
        rw [Lib.decodeL_N]
        simp only [List.length_cons, List.length_nil, List.getD_cons_zero, List.getD_cons_succ]
        rw [u8n _ (by omega), u8n _ (by omega)]
        unfold Lib.decodeN
        have e : (192 + x / 64) % 32 * 64 + (128 + x % 64) % 64 = x := by omega
        rw [if_neg (by omega), if_pos (by omega), e, if_pos (by omega)]) (by decide)]
      rfl
    · split
      · rw [valid_of _ (by simp) 3 x (by
          rw [Lib.decodeL_N]
          simp only [List.length_cons, List.length_nil, List.getD_cons_zero, List.getD_cons_succ]
          rw [u8n _ (by omega), u8n _ (by omega), u8n _ (by omega)]
          unfold Lib.decodeN
          have e : (224 + x / 4096) % 16 * 4096 + (128 + x / 64 % 64) % 64 * 64 + (128 + x % 64) % 64 = x := by omega
          rw [if_neg (by omega), if_neg (by omega), if_pos (by omega), e, if_pos (by omega)]) (by decide)]
        rfl
      · rw [valid_of _ (by simp) 4 x (by
          rw [Lib.decodeL_N]
          simp only [List.length_cons, List.length_nil, List.getD_cons_zero, List.getD_cons_succ]
          rw [u8n _ (by omega), u8n _ (by omega), u8n _ (by omega), u8n _ (by omega)]
          unfold Lib.decodeN
          have e : (240 + x / 262144) % 8 * 262144 + (128 + x / 4096 % 64) % 64 * 4096 + (128 + x / 64 % 64) % 64 * 64 + (128 + x % 64) % 64 = x := by omega
          rw [if_neg (by omega), if_neg (by omega), if_neg (by omega), if_pos (by omega), e, if_pos (by omega)]) (by decide)]
        rfl
theorem valid_app : ∀ (m : Nat) (a b : Bs), a.length ≤ m → Lib.validD a = true → Lib.validD (a ++ b) = Lib.validD b
  | _, [], b, _, _ => rfl
  | 0, c :: r, b, hm, _ => by simp at hm
  | m + 1, c :: r, b, hm, h => by
    by_cases hc : c.toNat < 128
    · rw [Lib.validD_cons c r hc] at h
      rw [List.cons_append, Lib.validD_cons c _ hc]
      exact valid_app m r b (by simp at hm; omega) h
    · obtain ⟨v1, v2⟩ := valid_sgn c r h
      obtain ⟨o1, o2, o3, o4⟩ := sgn_own c r hc v1
      have hle := sgn_le (c :: r)
      have hs := sgn_ext (c :: r) b v1
      have hw : (Lib.decodeL (c :: (r ++ b))).2 = sgn (c :: r) := by
        rw [List.cons_append] at hs
        simp only [sgn] at hs v1 ⊢
        rw [if_neg hc] at hs v1 ⊢
        split at v1
        · exact absurd rfl v1
        · rename_i n1
          rw [if_neg n1] at hs ⊢
          split at hs
          · have := Lib.decodeL_width (c :: r)
            omega
          · exact hs
      have hv : Lib.validD ((c :: r) ++ b) = Lib.validD (((c :: r) ++ b).drop (sgn (c :: r))) := by
        rw [← hw]
        exact valid_of _ (by simp) _ (Lib.decodeL (c :: (r ++ b))).1 rfl (by rw [hw]; omega)
      rw [hv, drop_app' _ _ _ hle]
      exact valid_app m _ b (by rw [List.length_drop]; simp at hm ⊢; omega) v2
theorem valid_cat {a b : Bs} (ha : Lib.validD a = true) (hb : Lib.validD b = true) : Lib.validD (a ++ b) = true := by rw [valid_app a.length a b (Nat.le_refl _) ha, hb]
theorem four_lt {r : Bs} {x : Nat} (h : four r = some x) : x < 65536 := (four_len r x h).2
theorem uni_valid (l r r5 t5 : Bs) (h : uni l r = .ok r5 t5) : Lib.validD t5 = true := by
  unfold uni at h
  cases hf : four r with
  | none => rw [hf] at h; cases h
  | some x =>
    have hx := four_lt hf
    rw [hf] at h
    simp only at h
    split at h
    · cases h
    · rename_i n1
      split at h
      · rename_i n2
        obtain ⟨_, h2⟩ := ok_inj h
        rw [← h2]
        exact enc_valid x (by omega) n2
      · rename_i n2
        split at h
        · split at h
          · cases hf2 : four ‹_› with
            | none => rw [hf2] at h; cases h
            | some y =>
              have hy := four_lt hf2
              rw [hf2] at h
              simp only at h
              split at h
              · rename_i n4
                obtain ⟨_, h2⟩ := ok_inj h
                rw [← h2]
                exact enc_valid _ (by omega) (by omega)
              · cases h
          · cases h
        · cases h
theorem unmark_low (c m : UInt8) (h : unmark c = some m) : m.toNat < 128 := by
  have := all_bytes (p := fun c => match unmark c with | some m => decide (m.toNat < 128) | none => true) (by decide +kernel) c
  rw [h] at this
  simpa using this
theorem escape_valid (l r5 t5 : Bs) (h : escape l = .ok r5 t5) : Lib.validD t5 = true := by
  unfold escape at h
  split at h
  · split at h
    · rename_i m hu
      obtain ⟨_, h2⟩ := ok_inj h
      rw [← h2, Lib.validD_cons _ _ (unmark_low _ _ hu)]
      rfl
    · split at h
      · exact uni_valid _ _ _ _ h
      · cases h
  · cases h
theorem chars_valid : ∀ (n : Nat) (l acc r t : Bs), chars n l acc = .ok r t → Lib.validD acc = true → Lib.validD t = true ∧ t.length + r.length + 1 ≤ acc.length + l.length
  | 0, l, acc, r, t, h, _ => by cases h
  | n + 1, [], acc, r, t, h, _ => by cases h
  | n + 1, c :: l, acc, r, t, h, ha => by
    simp only [chars] at h
    split at h
    · obtain ⟨h1, h2⟩ := ok_inj h
      subst h1
      subst h2
      exact ⟨ha, by simp; omega⟩
    · split at h
      · cases h
      · split at h
        · cases he : escape (c :: l) with
          | bad a b => rw [he] at h; cases h
          | ok a b =>
            rw [he] at h
            obtain ⟨g1, g2⟩ := chars_valid n a _ r t h (valid_cat ha (escape_valid _ _ _ he))
            have hz := escape_size _ _ _ he
            refine ⟨g1, ?_⟩
            simp only [List.length_append] at g2
            omega
        · split at h
          · cases h
          · rename_i hs
            have hle := sgn_le (c :: l)
            have hck : Lib.validD ((c :: l).take (sgn (c :: l))) = true := by
              by_cases hc : c.toNat < 128
              · have e : sgn (c :: l) = 1 := by simp only [sgn]; rw [if_pos hc]
                rw [e]
                simp only [List.take_succ_cons, List.take_zero]
                rw [Lib.validD_cons _ _ hc]
                rfl
              · obtain ⟨o1, o2, o3, o4⟩ := sgn_own c l hc hs
                obtain ⟨w, hw⟩ : ∃ w, w = sgn (c :: l) := ⟨_, rfl⟩
                rw [← hw] at o2 o4 hle ⊢
                have hlen : ((c :: l).take w).length = w := by rw [List.length_take]; omega
                obtain ⟨w', rfl⟩ : ∃ w', w = w' + 1 := ⟨w - 1, by omega⟩
                have e : (c :: l).take (w' + 1) = c :: l.take w' := rfl
                have hw2 : (Lib.decodeL ((c :: l).take (w' + 1))).2 = w' + 1 := by
                  rw [e] at o2 ⊢
                  simp only [sgn] at o2
                  rw [if_neg hc] at o2
                  split at o2
                  · omega
                  · exact o2
                rw [valid_of _ (by rw [e]; simp) (w' + 1) (Lib.decodeL ((c :: l).take (w' + 1))).1 (Prod.ext rfl hw2) (by omega), List.drop_of_length_le (by omega)]
                rfl
            obtain ⟨g1, g2⟩ := chars_valid n _ _ r t h (valid_cat ha hck)
            refine ⟨g1, ?_⟩
            simp only [List.length_append, List.length_take, List.length_drop] at g2
            omega
where
  escape_size (l r5 t5 : Bs) (h : escape l = .ok r5 t5) : t5.length + r5.length ≤ l.length := by
    unfold escape at h
    split at h
    · split at h
      · obtain ⟨h1, h2⟩ := ok_inj h
        rw [← h1, ← h2]
        simp
        omega
      · split at h
        · have := uni_size _ _ _ _ h
          simp
          omega
        · cases h
    · cases h
  uni_size (l r r5 t5 : Bs) (h : uni l r = .ok r5 t5) : t5.length + r5.length ≤ r.length := by
    unfold uni at h
    cases hf : four r with
    | none => rw [hf] at h; cases h
    | some x =>
      obtain ⟨hl, _⟩ := four_len r x hf
      rw [hf] at h
      simp only at h
      split at h
      · cases h
      · split at h
        · obtain ⟨h1, h2⟩ := ok_inj h
          have := enc_len x
          rw [← h1, ← h2, List.length_drop]
          omega
        · split at h
          · rename_i c1 c2 r2 hr
            have hlr := congrArg List.length hr
            simp at hlr
            split at h
            · cases hf2 : four r2 with
              | none => rw [hf2] at h; cases h
              | some y =>
                obtain ⟨hl2, _⟩ := four_len r2 y hf2
                rw [hf2] at h
                simp only at h
                split at h
                · obtain ⟨h1, h2⟩ := ok_inj h
                  have := enc_len (65536 + (x - 55296) * 1024 + (y - 56320))
                  rw [← h1, ← h2, List.length_drop]
                  omega
                · cases h
            · cases h
          · cases h
theorem text_valid (l r t : Bs) (h : text l = .ok r t) : Lib.validD t = true ∧ t.length + r.length + 2 ≤ l.length := by
  cases l with
  | nil => cases h
  | cons c l =>
    simp only [text] at h
    split at h
    · obtain ⟨h1, h2⟩ := chars_valid _ _ _ _ _ h rfl
      simp at h2 ⊢
      exact ⟨h1, by omega⟩
    · cases h
end Go.Proofs.YtadfkeipcebmfaaDoor.Pure

namespace Go.Proofs.YtadfkeipcebmfaaDoor.X
open Go.RowKit Go.Proofs.YtadfkeipcebmfaaDoorW.PrintWords
set_option linter.unusedVariables false
set_option linter.unusedSimpArgs false
set_option maxRecDepth 100000 in
theorem u8x : Go.Proofs.U8Extra Tryd.prog vren := ⟨by kernel_rfl, by kernel_rfl, by kernel_rfl, by kernel_rfl, by kernel_rfl, by kernel_rfl, by kernel_rfl⟩
theorem u8t : Go.Proofs.U8Types Tryd.prog vren := Go.Proofs.U8Types.of196 vlays
theorem GlobU8.laid {W : World} {l : List (String × DataW Unit)} (hL : laidMet Tryd.prog l W) (h1 : ("unicode/utf8.first", Go.Lib.firstData) ∈ l) (h2 : ("unicode/utf8.acceptRanges", Go.Lib.acceptData) ∈ l) : GlobU8 W :=
  GlobU8.of (Go.Proofs.utf8Tabs_of_readsT u8t u8x (Go.Lib.laidMet.reads hL h1) (Go.Lib.laidMet.reads hL h2))
theorem GlobU8.laid2 {W : World} {l : List (String × DataW Unit)} (hL : laidMet Tryd.prog l W) {d1 d2 : DataW Unit} (h1 : ("unicode/utf8.first", d1) ∈ l) (e1 : d1 = Go.Lib.firstData) (h2 : ("unicode/utf8.acceptRanges", d2) ∈ l) (e2 : d2 = Go.Lib.acceptData) : GlobU8 W :=
  GlobU8.laid hL (e1 ▸ h1) (e2 ▸ h2)
end Go.Proofs.YtadfkeipcebmfaaDoor.X

namespace Go.Proofs.YtadfkeipcebmfaaDoor.X
open Go
set_option linter.unusedVariables false
section
variable {H : Type} {enc : TypeId × Value → H}
theorem handed_laid_shaped {a : Assume} {C : Checked} {os : Os} {f : FuncId} {fn : Func} {s : ChangeSpec} {conds : List PathCond} {apart fresh handsOn again : Bool} {X : World → Array Value → Prop}
    (hX : ∀ (w w' : World) (args : Array Value), w.heap = w'.heap → X w args → X w' args)
    (own : ownKnob C.prog.godebug = none) (started : os.Started) (noInit : C.prog.inits.idxOf? f = none) (hfn : C.prog.funcs[f]? = some fn)
    (witness : ∃ (w : World) (tape : Tape) (i : Input), w.os = os ∧ (w.forCall tape i).Shaped C.prog ∧ i.vars = [] ∧ Input.okWide C.prog (w.forCall tape i) .any w.heap.size f i ∧
      ((s.pre enc C.prog fn conds apart (w.forCall tape i).memory i.args ∧ X (w.forCall tape i).memory i.args) ∧ sizedMet enc C.prog fn (OpenSpec.ofChange s) apart (w.forCall tape i).memory i.args) ∧ a.holds C.prog (lone (Frame.enter C.prog f i.args .normal) [] (w.forCall tape i)))
    (contract : ∀ (W : World) (base : Nat) (args : Array Value) (ds gs : List (DataW H)) (before : List MemPlace),
      (∀ (j : Nat) t v, fn.params[j]? = some t → args[j]? = some v → Value.okWide C.prog W .any base t v) →
      DataW.Whole enc C.prog fn.params.toList s.vars apart W args.toList ds gs before →
      conds.all (PathCond.test C.prog ⟨fn.params.toList, ds, s.plain.varTypes C.prog, gs⟩) = true →
      (DataW.weightsEach C.prog (fn.params.toList ++ s.plain.varTypes C.prog) (ds ++ gs)).all (· ≤ reachBytes) = true → X W args → W.ShapedOpen C.prog →
      a.holds C.prog (lone (Frame.enter C.prog f args .normal) [] W) →
      Calls C.prog f args W fun e W' => ∃ v, e = .returned v ∧ s.post enc C.prog fn apart fresh handsOn again W args v W') :
    ReturnsInHanded a C os f .any (fun w args => (s.pre enc C.prog fn conds apart w args ∧ X w args) ∧ sizedMet enc C.prog fn (OpenSpec.ofChange s) apart w args) (s.post enc C.prog fn apart fresh handsOn again) := by
  refine returnsInHanded_of_calls own started noInit witness ?_
  intro w tape i _ hsh _ hok hpre hholds
  obtain ⟨_, _, _, fn', hfn', _, _, _, _, hval⟩ := hok
  have e : fn' = fn := Option.some.inj (hfn'.symm.trans hfn)
  subst e
  obtain ⟨⟨⟨ds, gs, before, hw, hc⟩, hx⟩, hz⟩ := hpre
  have hw' := DataW.Whole.of_heap (w' := w.forCall tape i) (by rfl) hw
  refine (contract (w.forCall tape i) w.heap.size i.args ds gs before hval hw' hc (hz.weights hw) (hX _ _ _ (by rfl) hx) hsh hholds).mono fun e W' ⟨v, he, hp⟩ => ?_
  subst he
  exact ChangeSpec.post_blind hp
end
end Go.Proofs.YtadfkeipcebmfaaDoor.X

namespace Go.Proofs.YtadfkeipcebmfaaDoor.Pure
open Go.RowKit Go.Proofs.YtadfkeipcebmfaaDoor.X Go.Proofs.YtadfkeipcebmfaaDoorW.PrintWords
set_option linter.unusedVariables false
set_option maxRecDepth 100000 in
theorem works_true : racewaylaw25_works.f = some true := by decide +kernel
end Go.Proofs.YtadfkeipcebmfaaDoor.Pure

namespace Go.Proofs.YtadfkeipcebmfaaDoor.Pure
open Go.Proofs.YtadfkeipcebmfaaDoor.X Go.RowKit Go.Proofs.YtadfkeipcebmfaaDoorW.PrintWords
set_option linter.unusedVariables false
set_option linter.unusedSimpArgs false
/-- What may be told of a text. -/
def E57 {α : Type} (x : Rs α) : Prop := ∀ r e, x = .bad r e → e = 5 ∨ e = 7
theorem E57.map {α β : Type} {f : α → β} {x : Rs α} (h : E57 x) : E57 (x.map f) := by
  intro r e h'
  cases x with
  | bad a b =>
    injection h' with _ h2
    exact h2 ▸ h a b rfl
  | ok a b => cases h'
theorem bad_inj {α : Type} {a c : Bs} {b d : Int} (h : (Rs.bad a b : Rs α) = Rs.bad c d) : a = c ∧ b = d := by
  cases h
  exact ⟨rfl, rfl⟩
theorem e57_5 {α : Type} (l : Bs) : E57 (.bad l 5 : Rs α) := fun r e h => .inl (bad_inj h).2.symm
theorem e57_ok {α : Type} (l : Bs) (a : α) : E57 (.ok l a : Rs α) := fun r e h => by cases h
theorem digits_e (l : Bs) : E57 (digits l) := by
  unfold digits
  split
  · split
    · exact e57_ok _ _
    · exact e57_5 _
  · exact e57_5 _
theorem num_e (l : Bs) : E57 (num l) := by
  have h1 : ∀ l, E57 (num1 l) := fun l => by
    unfold num1
    split
    · exact e57_ok _ _
    · exact digits_e _
  have h2 : ∀ l, E57 (num2 l) := fun l => by
    unfold num2
    split
    · exact digits_e _
    · exact e57_ok _ _
  have h3 : ∀ l, E57 (num3 l) := fun l => by
    unfold num3
    split
    · split <;> exact digits_e _
    · exact e57_ok _ _
  unfold num
  split
  · rename_i r e hh
    intro r' e' h'
    rw [← (bad_inj h').2]
    exact h1 _ _ _ hh
  · split
    · rename_i r e hh
      intro r' e' h'
      rw [← (bad_inj h').2]
      exact h2 _ _ _ hh
    · exact h3 _
theorem number_e (l : Bs) : E57 (number l) := by
  unfold number
  split
  · rename_i r e hh
    intro r' e' h'
    rw [← (bad_inj h').2]
    exact num_e _ _ _ hh
  · exact e57_ok _ _
theorem word_e : ∀ (w l : Bs), E57 (word w l)
  | [], l => e57_ok _ _
  | c :: w, [] => e57_5 _
  | c :: w, d :: l => by
    simp only [word]
    split
    · exact word_e w l
    · exact e57_5 _
theorem uni_e (l r : Bs) : E57 (uni l r) := by
  unfold uni
  split
  · exact e57_5 _
  · split
    · exact e57_5 _
    · split
      · exact e57_ok _ _
      · split
        · split
          · split
            · split
              · exact e57_ok _ _
              · exact e57_5 _
            · exact e57_5 _
          · exact e57_5 _
        · exact e57_5 _
theorem escape_e (l : Bs) : E57 (escape l) := by
  unfold escape
  split
  · split
    · exact e57_ok _ _
    · split
      · exact uni_e _ _
      · exact e57_5 _
  · exact e57_5 _
theorem chars_e : ∀ (n : Nat) (l acc : Bs), E57 (chars n l acc)
  | 0, l, acc => e57_5 _
  | n + 1, [], acc => e57_5 _
  | n + 1, c :: l, acc => by
    simp only [chars]
    split
    · exact e57_ok _ _
    · split
      · exact e57_5 _
      · split
        · split
          · exact chars_e n _ _
          · rename_i hh
            intro r' e' h'
            rw [← (bad_inj h').2]
            exact escape_e _ _ _ hh
        · split
          · exact e57_5 _
          · exact chars_e n _ _
theorem text_e (l : Bs) : E57 (text l) := by
  unfold text
  split
  · split
    · exact chars_e _ _ _
    · exact e57_5 _
  · exact e57_5 _
theorem member_e (ob : Bool) (l : Bs) : E57 (member ob l) := by
  unfold member
  split
  · split
    · rename_i hh
      intro r' e' h'
      rw [← (bad_inj h').2]
      exact text_e _ _ _ hh
    · split
      · exact e57_ok _ _
      · exact e57_5 _
  · exact e57_ok _ _
theorem items_e {v : Bs → Bs → Rs F} (hv : ∀ k l, E57 (v k l)) (ob : Bool) (close : UInt8) : ∀ (n : Nat) (l : Bs), E57 (items v ob close n l)
  | 0, l => e57_5 _
  | n + 1, l => by
    simp only [items]
    split
    · rename_i hh
      intro r' e' h'
      rw [← (bad_inj h').2]
      exact member_e _ _ _ _ hh
    · split
      · rename_i hh
        intro r' e' h'
        rw [← (bad_inj h').2]
        exact hv _ _ _ _ hh
      · split
        · exact e57_ok _ _
        · split
          · exact (items_e hv ob close n _).map
          · exact e57_5 _
theorem many_e {v : Bs → Bs → Rs F} (hv : ∀ k l, E57 (v k l)) (ob : Bool) (key l : Bs) : E57 (many v ob key l) := by
  unfold many
  simp only
  split <;> split <;> first | exact e57_ok _ _ | exact (items_e hv _ _ _ _).map
theorem value_e : ∀ (d : Nat) (key l : Bs), E57 (value d key l)
  | 0, key, [] => e57_5 _
  | 0, key, c :: l => by
    simp only [value]
    split
    · exact e57_5 _
    · exact fun r e h => .inr (bad_inj h).2.symm
  | d + 1, key, [] => e57_5 _
  | d + 1, key, c :: l => by
    have ih := value_e d
    simp only [value]
    split
    · exact e57_5 _
    · split
      · exact many_e ih _ _ _
      · split
        · exact many_e ih _ _ _
        · split
          · exact (text_e _).map
          · split
            · exact (word_e _ _).map
            · split
              · exact (word_e _ _).map
              · split
                · exact (word_e _ _).map
                · exact (number_e _).map
theorem same_self (l : List (S46)) (hl : l.length ≤ 1099511627776) (k : Nat) (hk : l.length + 1 ≤ k) : racewayref25_Same.f k l l = some true := by
  rw [racewayref25_Same.f, if_pos rfl]
  have : ∀ (n i k : Nat), i + n = l.length → n + 1 ≤ k → racewayref25_Same.l0 k l l (i : Int) = some true := by
    intro n
    induction n with
    | zero =>
      intro i k hi hk
      obtain ⟨k, rfl⟩ : ∃ k', k = k' + 1 := ⟨k - 1, by omega⟩
      rw [racewayref25_Same.l0, if_neg (by omega)]
    | succ n ih =>
      intro i k hi hk
      obtain ⟨k, rfl⟩ : ∃ k', k = k' + 1 := ⟨k - 1, by omega⟩
      rw [racewayref25_Same.l0, if_pos (by omega), if_pos (by omega), if_pos (by omega), if_neg (by simp)]
      have e : wrap64 ((i : Int) + 1) = ((i + 1 : Nat) : Int) := by unfold wrap64; omega
      rw [e]
      exact ih (i + 1) k (by omega) (by omega)
  exact this l.length 0 k (by omega) hk
end Go.Proofs.YtadfkeipcebmfaaDoor.Pure

namespace Go.Proofs.YtadfkeipcebmfaaDoor.Pure
open Go.Proofs.YtadfkeipcebmfaaDoor.X Go.RowKit Go.Proofs.YtadfkeipcebmfaaDoorW.PrintWords
set_option linter.unusedVariables false
set_option linter.unusedSimpArgs false
def VG (d : Nat) : Prop := ∀ (k l r : Bs) (f : F) (keyed : Bool), value d k l = .ok r f → l.length ≤ 65536 → Lib.validD k = true → (k.isEmpty || keyed) = true →
  good f d keyed = true ∧ f.one ∧ key f = k ∧ (f.out false true).length + 6 * r.length ≤ 6 * l.length
theorem out_one {t : F} (h : t.one) (ob first : Bool) : t.out ob first = (if first then [] else [44]) ++ (if ob then quote (key t) ++ [58] else []) ++ t.out false true := by
  match t, h with
  | .leaf k kd tx .nil, _ => simp [F.out, key]
  | .node k kd ks .nil, _ => simp [F.out, key]
theorem out_app {t : F} (h : t.one) (g : F) (ob first : Bool) : (t.app g).out ob first = t.out ob first ++ g.out ob false := by
  match t, h with
  | .leaf k kd tx .nil, _ => simp [F.app, F.out]
  | .node k kd ks .nil, _ => simp [F.app, F.out]
theorem out_first (f : F) (ob : Bool) : (f.out ob false).length ≤ (f.out ob true).length + 1 := by
  cases f with
  | nil => simp [F.out]
  | leaf k kd t r => simp [F.out]
  | node k kd ks r => simp [F.out]
theorem member_good (ob : Bool) (l r k : Bs) (h : member ob l = .ok r k) : Lib.validD k = true ∧ (k.isEmpty || ob) = true ∧ (if ob then quote k ++ [58] else []).length + 6 * r.length ≤ 6 * l.length := by
  unfold member at h
  cases ob with
  | false =>
    simp only [Bool.false_eq_true, if_false] at h
    obtain ⟨h1, h2⟩ := ok_inj h
    subst h1
    subst h2
    exact ⟨rfl, rfl, by simp⟩
  | true =>
    simp only [if_true] at h
    cases ht : text l with
    | bad a b => rw [ht] at h; cases h
    | ok a b =>
      rw [ht] at h
      simp only at h
      obtain ⟨v1, v2⟩ := text_valid _ _ _ ht
      split at h
      · obtain ⟨h1, h2⟩ := ok_inj h
        subst h2
        have b1 := blanks_len a
        have b2 := blanks_len ((blanks a).drop 1)
        rw [List.length_drop] at b2
        have hq := quote_len b
        refine ⟨v1, by simp, ?_⟩
        rw [← h1]
        simp only [if_true, List.length_append, List.length_cons, List.length_nil]
        omega
      · cases h
theorem items_good (d : Nat) (hv : VG d) (ob : Bool) (close : UInt8) : ∀ (n : Nat) (l r : Bs) (f : F), items (value d) ob close n l = .ok r f → l.length ≤ 65536 → good f d ob = true ∧ (f.out ob true).length + 6 * r.length + 6 ≤ 6 * l.length
  | 0, l, r, f, h, hl => by cases h
  | n + 1, l, r, f, h, hl => by
    simp only [items] at h
    cases h1 : member ob l with
    | bad a b => rw [h1] at h; cases h
    | ok l1 k =>
      rw [h1] at h
      simp only at h
      obtain ⟨m1, m2, m3⟩ := member_good _ _ _ _ h1
      cases h2 : value d k l1 with
      | bad a b => rw [h2] at h; cases h
      | ok l2 t =>
        rw [h2] at h
        simp only at h
        obtain ⟨g1, g2, g3, g4⟩ := hv _ _ _ _ ob h2 (by omega) m1 m2
        have b1 := blanks_len l2
        by_cases hc : isC close (blanks l2) = true
        · rw [if_pos hc] at h
          obtain ⟨e1, e2⟩ := ok_inj h
          subst e2
          have hne := len1 hc
          refine ⟨g1, ?_⟩
          rw [out_one g2 ob true, g3, ← e1, List.length_drop]
          simp only [if_true, List.nil_append, List.length_append]
          omega
        · rw [if_neg hc] at h
          by_cases h4 : isC 44 (blanks l2) = true
          · rw [if_pos h4] at h
            obtain ⟨g, hg, rfl⟩ := map_ok h
            have hne := len1 h4
            have b2 := blanks_len ((blanks l2).drop 1)
            rw [List.length_drop] at b2
            obtain ⟨i1, i2⟩ := items_good d hv ob close n _ _ _ hg (by omega)
            refine ⟨by rw [good_app, g1, i1]; rfl, ?_⟩
            have o1 := out_first g ob
            rw [out_app g2 g ob true, out_one g2 ob true, g3]
            simp only [if_true, List.nil_append, List.length_append]
            omega
          · rw [if_neg h4] at h
            cases h
theorem many_good (d : Nat) (hv : VG d) (ob : Bool) (k l r : Bs) (f : F) (keyed : Bool) (h : many (value d) ob k l = .ok r f) (hl : l.length ≤ 65536) (hk : Lib.validD k = true) (hk2 : (k.isEmpty || keyed) = true) :
    good f (d + 1) keyed = true ∧ f.one ∧ key f = k ∧ (f.out false true).length + 6 * r.length ≤ 6 * l.length + 6 := by
  unfold many at h
  simp only at h
  have b1 := blanks_len l
  by_cases hc : isC (if ob = true then 125 else 93) (blanks l) = true
  · rw [if_pos hc] at h
    obtain ⟨e1, e2⟩ := ok_inj h
    subst e2
    have hne := len1 hc
    refine ⟨?_, trivial, rfl, ?_⟩
    · simp only [good, hk, hk2]
      cases ob <;> rfl
    · rw [← e1, List.length_drop]
      have : ((F.node k (if ob = true then 7 else 6) .nil .nil).out false true).length = 2 := by cases ob <;> rfl
      omega
  · rw [if_neg hc] at h
    obtain ⟨g, hg, rfl⟩ := map_ok h
    obtain ⟨i1, i2⟩ := items_good d hv ob _ _ _ _ _ hg (by omega)
    refine ⟨?_, trivial, rfl, ?_⟩
    · simp only [good, hk, hk2, Nat.add_sub_cancel]
      cases ob with
      | false => simpa using i1
      | true => simpa using i1
    · have : ((F.node k (if ob = true then 7 else 6) g .nil).out false true).length = (g.out ob true).length + 2 := by cases ob <;> simp [F.out]
      omega
theorem word_size : ∀ (w l r : Bs) (u : Unit), word w l = .ok r u → r.length + w.length = l.length
  | [], l, r, u, h => by
    obtain ⟨h1, _⟩ := ok_inj h
    rw [h1]
    rfl
  | c :: w, [], r, u, h => by cases h
  | c :: w, d :: l, r, u, h => by
    simp only [word] at h
    split at h
    · have := word_size w l r u h
      simp
      omega
    · cases h
theorem value_good : ∀ d : Nat, VG d
  | 0, k, l, r, f, keyed, h, _, _, _ => by
    cases l with
    | nil => cases h
    | cons c l =>
      simp only [value] at h
      split at h <;> cases h
  | d + 1, k, [], r, f, keyed, h, _, _, _ => by cases h
  | d + 1, k, c :: l, r, f, keyed, h, hl, hk, hk2 => by
    have ih := value_good d
    simp only [value] at h
    simp only [List.length_cons] at hl
    have leafG : ∀ (kd : Int) (t : Bs), leafB kd t = true → good (.leaf k kd t .nil) (d + 1) keyed = true := fun kd t ht => by
      simp only [good, hk, hk2, ht]
      simp
    have leafO : ∀ (kd : Int) (t : Bs), (F.leaf k kd t .nil).out false true = ltx kd t := fun kd t => by simp [F.out]
    split at h
    · cases h
    · split at h
      · obtain ⟨a1, a2, a3, a4⟩ := many_good d ih true k l r f keyed h (by omega) hk hk2
        exact ⟨a1, a2, a3, by simp only [List.length_cons]; omega⟩
      · split at h
        · obtain ⟨a1, a2, a3, a4⟩ := many_good d ih false k l r f keyed h (by omega) hk hk2
          exact ⟨a1, a2, a3, by simp only [List.length_cons]; omega⟩
        · split at h
          · obtain ⟨t, ht, rfl⟩ := rmap_ok h
            obtain ⟨v1, v2⟩ := text_valid _ _ _ ht
            refine ⟨leafG 5 t v1, trivial, rfl, ?_⟩
            rw [leafO]
            have hq := quote_len t
            have : (ltx 5 t).length = (quote t).length := rfl
            omega
          · split at h
            · obtain ⟨t, ht, rfl⟩ := rmap_ok h
              have hw := word_size _ _ _ _ ht
              refine ⟨leafG 2 [] rfl, trivial, rfl, ?_⟩
              rw [leafO]
              have : (ltx 2 []).length = 4 := rfl
              simp only [List.length_cons, List.length_nil] at hw ⊢
              omega
            · split at h
              · obtain ⟨t, ht, rfl⟩ := rmap_ok h
                have hw := word_size _ _ _ _ ht
                refine ⟨leafG 3 [] rfl, trivial, rfl, ?_⟩
                rw [leafO]
                have : (ltx 3 []).length = 5 := rfl
                simp only [List.length_cons, List.length_nil] at hw ⊢
                omega
              · split at h
                · obtain ⟨t, ht, rfl⟩ := rmap_ok h
                  have hw := word_size _ _ _ _ ht
                  refine ⟨leafG 1 [] rfl, trivial, rfl, ?_⟩
                  rw [leafO]
                  have : (ltx 1 []).length = 4 := rfl
                  simp only [List.length_cons, List.length_nil] at hw ⊢
                  omega
                · obtain ⟨t, ht, rfl⟩ := rmap_ok h
                  obtain ⟨n1, n2⟩ := number_is _ _ _ ht
                  have hlen := congrArg List.length n2
                  simp only [List.length_cons, List.length_append] at hlen
                  have hlb : leafB 4 t = true := by
                    unfold leafB
                    rw [if_pos rfl, n1, decide_eq_true (by omega)]
                    rfl
                  refine ⟨leafG 4 t hlb, trivial, rfl, ?_⟩
                  rw [leafO]
                  have : (ltx 4 t).length = t.length := rfl
                  simp only [List.length_cons]
                  omega
/-- A text that is parsed: its tree may be, and is written in not more than six times as much. -/
theorem parse_good {s : Bs} {f : F} (h : parse s = (f, 0, 0)) : good f 32 false = true ∧ f.one ∧ f.txt.length ≤ 6 * s.length := by
  unfold parse at h
  split at h
  · cases h
  · rename_i hl
    split at h
    · rename_i r e hv
      simp only [Prod.mk.injEq] at h
      have := value_e 32 [] (blanks s) r e hv
      omega
    · rename_i r g hv
      split at h
      · simp only [Prod.mk.injEq] at h
        obtain ⟨rfl, _⟩ := h
        have b := blanks_len s
        obtain ⟨a1, a2, a3, a4⟩ := value_good 32 _ _ _ _ false hv (by omega) rfl rfl
        refine ⟨a1, a2, ?_⟩
        unfold F.txt
        omega
      · simp only [Prod.mk.injEq] at h
        exact absurd h.2.2 (by decide)
end Go.Proofs.YtadfkeipcebmfaaDoor.Pure

namespace Go.Proofs.YtadfkeipcebmfaaDoor.Pure
open Go.Proofs.YtadfkeipcebmfaaDoor.X Go.RowKit Go.Proofs.YtadfkeipcebmfaaDoorW.PrintWords Go.Proofs.YtadfkeipcebmfaaDoorW.PrintMore
set_option linter.unusedVariables false
set_option linter.unusedSimpArgs false
theorem w64s {x : Int} (h0 : -9223372036854775808 ≤ x) (h1 : x ≤ 9223372036854775807) : wrap64 x = x := by unfold wrap64; omega
def Ans (o : Option Int) : Prop := ∃ n, o = some n ∧ 0 ≤ n ∧ n ≤ 4
theorem sign_l0 (s : ByteArray) (at_ x6 x8 : Int) (hs : s.size ≤ 1000000) (h0 : 0 ≤ at_) (h6 : 0 ≤ x6) (h64 : x6 ≤ 4) (ha : x6 = 0 ∨ at_ + x6 ≤ s.size) : ∀ (m k : Nat) (x7 x9 : Int), m + 1 ≤ k → 1 ≤ x9 → x6 - x9 ≤ m → x9 ≤ 10 → Ans (racewayref25_Sign.l0 k s at_ x6 x7 x8 x9)
  | m, 0, x7, x9, hk, _, _, _ => by omega
  | m, k + 1, x7, x9, hk, h1, h2, h3 => by
    rw [racewayref25_Sign.l0]
    by_cases hlt : x9 < x6
    · have hle : at_ + x6 ≤ s.size := by omega
      rw [if_pos hlt, w64s (x := at_ + x9) (by omega) (by omega), if_pos (by omega), if_pos (by omega)]
      split
      · exact ⟨0, rfl, by decide, by decide⟩
      · split
        · exact ⟨0, rfl, by decide, by decide⟩
        · obtain ⟨m, rfl⟩ : ∃ m', m = m' + 1 := ⟨m - 1, by omega⟩
          rw [w64s (x := x9 + 1) (by omega) (by omega)]
          exact sign_l0 s at_ x6 x8 hs h0 h6 h64 ha m k _ (x9 + 1) (by omega) (by omega) (by omega) (by omega)
    · rw [if_neg hlt]
      split
      · exact ⟨0, rfl, by decide, by decide⟩
      · split
        · exact ⟨0, rfl, by decide, by decide⟩
        · split
          · split
            · exact ⟨0, rfl, by decide, by decide⟩
            · exact ⟨x6, rfl, h6, h64⟩
          · exact ⟨x6, rfl, h6, h64⟩
theorem sign_j2 (s : ByteArray) (at_ x6 x7 x8 : Int) (hs : s.size ≤ 1000000) (h0 : 0 ≤ at_) (h1 : at_ < s.size) (h6 : 0 ≤ x6) (h64 : x6 ≤ 4) (k : Nat) (hk : 10 ≤ k) : Ans (racewayref25_Sign.j2 k s at_ x6 x7 x8) := by
  obtain ⟨k, rfl⟩ : ∃ k', k = k' + 2 := ⟨k - 2, by omega⟩
  rw [racewayref25_Sign.j2]
  by_cases h : x6 = 0
  · rw [if_pos h, racewayref25_Sign.j3, if_pos rfl]
    exact ⟨0, rfl, by decide, by decide⟩
  · rw [if_neg h, racewayref25_Sign.j3, w64s (x := at_ + x6) (by omega) (by omega)]
    by_cases h2 : at_ + x6 > (s.size : Int)
    · rw [if_pos (decide_eq_true h2)]
      exact ⟨0, rfl, by decide, by decide⟩
    · rw [if_neg (by rw [decide_eq_false h2]; decide)]
      exact sign_l0 s at_ x6 x8 hs h0 h6 h64 (.inr (by omega)) 4 k x7 1 (by omega) (by omega) (by omega) (by omega)
theorem sign_ans (s : ByteArray) (at_ : Int) (hs : s.size ≤ 1000000) (h0 : 0 ≤ at_) (h1 : at_ < s.size) (k : Nat) (hk : 20 ≤ k) : Ans (racewayref25_Sign.f k s at_) := by
  obtain ⟨k, rfl⟩ : ∃ k', k = k' + 2 := ⟨k - 2, by omega⟩
  have h2 : ∀ x6 x7 x8, 0 ≤ x6 → x6 ≤ 4 → Ans (racewayref25_Sign.j2 k s at_ x6 x7 x8) := fun x6 x7 x8 a b => sign_j2 s at_ x6 x7 x8 hs h0 h1 a b k (by omega)
  have h2' : ∀ x6 x7 x8, 0 ≤ x6 → x6 ≤ 4 → Ans (racewayref25_Sign.j2 (k + 1) s at_ x6 x7 x8) := fun x6 x7 x8 a b => sign_j2 s at_ x6 x7 x8 hs h0 h1 a b (k + 1) (by omega)
  have hj1 : ∀ x5 b, Ans (racewayref25_Sign.j1 (k + 1) s at_ x5 0 0 0 b) := fun x5 b => by
    rw [racewayref25_Sign.j1]
    split
    · exact h2 _ _ _ (by decide) (by decide)
    · split
      · split
        · exact h2 _ _ _ (by decide) (by decide)
        · exact h2 _ _ _ (by decide) (by decide)
      · exact h2 _ _ _ (by decide) (by decide)
  have hj0 : ∀ x5 b, Ans (racewayref25_Sign.j0 (k + 2) s at_ x5 0 0 0 b) := fun x5 b => by
    rw [racewayref25_Sign.j0]
    split
    · exact h2' _ _ _ (by decide) (by decide)
    · split <;> exact hj1 _ _
  rw [racewayref25_Sign.f, if_pos h0, if_pos h1]
  split
  · exact ⟨1, rfl, by decide, by decide⟩
  · split <;> exact hj0 _ _
theorem valid_ans (s : ByteArray) (hs : s.size ≤ 1000000) : ∀ (m k : Nat) (at_ : Int), m + 30 ≤ k → 0 ≤ at_ → (s.size : Int) - at_ ≤ m → at_ ≤ 2000000 → ∃ b, racewayref25_Valid.l0 k s at_ = some b
  | m, 0, at_, hk, _, _, _ => by omega
  | m, k + 1, at_, hk, h0, h1, h2 => by
    rw [racewayref25_Valid.l0]
    by_cases h : at_ < (s.size : Int)
    · rw [if_pos h]
      obtain ⟨n, e, n0, n4⟩ := sign_ans s at_ hs h0 h k (by omega)
      rw [e, Option.bind_some]
      by_cases hn : n = 0
      · rw [if_pos hn]
        exact ⟨_, rfl⟩
      · rw [if_neg hn, w64s (by omega) (by omega)]
        obtain ⟨m, rfl⟩ : ∃ m', m = m' + 1 := ⟨m - 1, by omega⟩
        exact valid_ans s hs m k (at_ + n) (by omega) (by omega) (by omega) (by omega)
    · rw [if_neg h]
      exact ⟨_, rfl⟩
end Go.Proofs.YtadfkeipcebmfaaDoor.Pure

namespace Go.Proofs.YtadfkeipcebmfaaDoor.Pure
open Go.RowKit Go.Proofs.YtadfkeipcebmfaaDoor.X Go.Proofs.YtadfkeipcebmfaaDoorW.PrintWords Go.Proofs.YtadfkeipcebmfaaDoorW.PrintMore
set_option linter.unusedVariables false
set_option linter.unusedSimpArgs false
theorem w64g {x : Int} (h0 : -9223372036854775808 ≤ x) (h1 : x ≤ 9223372036854775807) : wrap64 x = x := by unfold wrap64; omega
theorem w01 : wrap64 (0 + 1) = 1 := by unfold wrap64; decide
theorem w11 : wrap64 (1 + 1) = 2 := by unfold wrap64; decide
def rekey (x : S46) (k : ByteArray) : S46 := ⟨x.f0, x.f1, x.f2, k, x.f4⟩
/-- The object of two trees. -/
def obj (x z : S46) (T U : List (S46)) (k1 k2 : ByteArray) : List (S46) := ⟨7, ((T.length + U.length + 3 : Nat) : Int), 2, ⟨#[]⟩, ⟨#[]⟩⟩ :: rekey x k1 :: (T ++ rekey z k2 :: U)
/-- What is asked of a tree's nodes. -/
structure Tr (x : S46) (T : List (S46)) : Prop where
  fit : fit (x :: T) = true
  tree : ∃ t, tree? (x :: T) = some t
  size : x.f1 = ((T.length + 1 : Nat) : Int)
  len : T.length ≤ 65536
  key : x.f3 = ⟨#[]⟩
theorem made_two (x z : S46) (T U : List (S46)) (k1 k2 : ByteArray) (hx : Tr x T) (hz : Tr z U) (h1 : k1.size ≤ 100) (h2 : k2.size ≤ 100) (k : Nat) (hk : 250000 ≤ k) :
    jsontext_Object.f k [k1, k2] [x :: T, z :: U] = some [] ∨ jsontext_Object.f k [k1, k2] [x :: T, z :: U] = some (obj x z T U k1 k2) := by
  have hT := hx.len
  have hU := hz.len
  have hc1 : ∀ k, 250000 - 10 ≤ k → jsontext_Check.f k (x :: T) = some 0 := fun k hk => by
    have := Check_law (x :: T) hx.fit k (by simp; omega)
    obtain ⟨t, ht⟩ := hx.tree
    rw [ht] at this
    exact this
  have hc2 : ∀ k, 250000 - 10 ≤ k → jsontext_Check.f k (z :: U) = some 0 := fun k hk => by
    have := Check_law (z :: U) hz.fit k (by simp; omega)
    obtain ⟨t, ht⟩ := hz.tree
    rw [ht] at this
    exact this
  obtain ⟨k, rfl⟩ : ∃ k', k = k' + 3 := ⟨k - 3, by omega⟩
  have hv : ∀ a : ByteArray, a.size ≤ 100 → utf8_ValidString.f a = some (Lib.validD a.data.toList) := fun a ha => by rw [utf8_ValidString.f, if_pos (by omega)]
  have hO : jsontext_Object.f (k + 3) [k1, k2] [x :: T, z :: U] = jsontext_made.l0 (k + 3) 7 [k1, k2] [(⟨7, 0, 2, ⟨#[]⟩, ⟨#[]⟩⟩ : S46)] [x :: T, z :: U] 2 0 := by
    unfold jsontext_Object.f jsontext_made.f
    rw [if_pos (show (([k1, k2] : List ByteArray).length : Int) = (([x :: T, z :: U] : List (List (S46))).length : Int) from rfl)]
    show (jsontext_made.l0 (k + 3) 7 [k1, k2] [(⟨7, 0, 2, ⟨#[]⟩, ⟨#[]⟩⟩ : S46)] [x :: T, z :: U] 2 0).bind some = _
    cases jsontext_made.l0 (k + 3) 7 [k1, k2] [(⟨7, 0, 2, ⟨#[]⟩, ⟨#[]⟩⟩ : S46)] [x :: T, z :: U] 2 0 <;> rfl
  have g0 : (0 : Int) < (([x :: T, z :: U] : List (List (S46))).length : Int) := by simp
  have g1 : (1 : Int) < (([x :: T, z :: U] : List (List (S46))).length : Int) := by simp
  have g2 : (0 : Int) < (([k1, k2] : List ByteArray).length : Int) := by simp
  have g3 : (1 : Int) < (([k1, k2] : List ByteArray).length : Int) := by simp
  rw [hO, jsontext_made.l0]
  rw [if_pos (by decide), if_pos (by decide), if_pos g0]
  rw [show rd_L3 [x :: T, z :: U] 0 = x :: T from rfl, hc1 _ (by omega), Option.bind_some, if_pos rfl, if_pos (by simp; omega), Option.bind_some, if_pos rfl, if_pos g2, show rdOf ByteArray.empty [k1, k2] 0 = k1 from rfl, hv k1 h1, Option.bind_some]
  by_cases v1 : Lib.validD k1.data.toList = true
  · have e1 : ([(⟨7, 0, 2, ⟨#[]⟩, ⟨#[]⟩⟩ : S46)] ++ (x :: T)) = (⟨7, 0, 2, ⟨#[]⟩, ⟨#[]⟩⟩ : S46) :: x :: T := rfl
    have e2 : rd_T46 ((⟨7, 0, 2, ⟨#[]⟩, ⟨#[]⟩⟩ : S46) :: x :: T) (([(⟨7, 0, 2, ⟨#[]⟩, ⟨#[]⟩⟩ : S46)] : List (S46)).length : Int) = x := rfl
    have e3 : (((⟨7, 0, 2, ⟨#[]⟩, ⟨#[]⟩⟩ : S46) :: x :: T).set (([(⟨7, 0, 2, ⟨#[]⟩, ⟨#[]⟩⟩ : S46)] : List (S46)).length : Int).toNat (⟨x.f0, x.f1, x.f2, k1, x.f4⟩ : S46)) = (⟨7, 0, 2, ⟨#[]⟩, ⟨#[]⟩⟩ : S46) :: rekey x k1 :: T := rfl
    rw [if_pos v1, if_pos (by decide), if_pos (by simp; omega), e1, e2, e3, w01, jsontext_made.l0]
    rw [if_pos (by decide), if_pos (by decide), if_pos g1]
    rw [show rd_L3 [x :: T, z :: U] 1 = z :: U from rfl, hc2 _ (by omega), Option.bind_some, if_pos rfl, if_pos (by simp; omega), Option.bind_some, if_pos rfl, if_pos g3, show rdOf ByteArray.empty [k1, k2] 1 = k2 from rfl, hv k2 h2, Option.bind_some]
    by_cases v2 : Lib.validD k2.data.toList = true
    · right
      rw [if_pos v2, if_pos (by omega), if_pos (by simp; omega)]
      obtain ⟨Q, hQ⟩ : ∃ Q, Q = (⟨7, 0, 2, ⟨#[]⟩, ⟨#[]⟩⟩ : S46) :: rekey x k1 :: T := ⟨_, rfl⟩
      rw [← hQ]
      have e5 : rd_T46 (Q ++ z :: U) (Q.length : Int) = z := by simp [rd_T46]
      have e6 : (Q ++ z :: U).set (Q.length : Int).toNat (⟨z.f0, z.f1, z.f2, k2, z.f4⟩ : S46) = Q ++ rekey z k2 :: U := by simp [rekey]
      rw [e5, e6, w11, jsontext_made.l0]
      rw [if_neg (by decide), if_pos (by simp; omega)]
      rw [hQ]
      simp only [Option.bind_some, obj]
      congr 1
      show (⟨7, _, 2, _, _⟩ : S46) :: _ = _
      congr 1
      congr 1
      simp
      try omega
    · left
      rw [if_neg v2]
  · left
    rw [if_neg v1]
theorem rd_obj0 (x z : S46) (T U : List (S46)) (k1 k2 : ByteArray) : rd_T46 (obj x z T U k1 k2) 0 = ⟨7, ((T.length + U.length + 3 : Nat) : Int), 2, ⟨#[]⟩, ⟨#[]⟩⟩ := rfl
theorem rd_obj1 (x z : S46) (T U : List (S46)) (k1 k2 : ByteArray) : rd_T46 (obj x z T U k1 k2) 1 = rekey x k1 := rfl
theorem rd_obj2 (x z : S46) (T U : List (S46)) (k1 k2 : ByteArray) : rd_T46 (obj x z T U k1 k2) ((T.length + 2 : Nat) : Int) = rekey z k2 := by
  unfold obj rd_T46
  rw [Int.toNat_natCast]
  simp
theorem len_obj (x z : S46) (T U : List (S46)) (k1 k2 : ByteArray) : (obj x z T U k1 k2).length = T.length + U.length + 3 := by
  unfold obj
  simp
  try omega
theorem kids_obj (x z : S46) (T U : List (S46)) (k1 k2 : ByteArray) (hx : Tr x T) (hz : Tr z U) (k : Nat) (hk : 10 ≤ k) (hc : jsontext_Check.f k (obj x z T U k1 k2) = some 0) :
    jsontext_Kids.f k (obj x z T U k1 k2) 0 = some [1, ((T.length + 2 : Nat) : Int)] := by
  have hT := hx.len
  have hU := hz.len
  have hl := len_obj x z T U k1 k2
  obtain ⟨k, rfl⟩ : ∃ k', k = k' + 4 := ⟨k - 4, by omega⟩
  unfold jsontext_Kids.f
  rw [hc, Option.bind_some, if_pos rfl, if_neg (by decide), jsontext_Kids.j0, if_neg (by rw [decide_eq_false (by omega)]; decide), if_pos (by decide), if_pos (by omega), rd_obj0, w01, jsontext_Kids.l0]
  simp only
  rw [if_pos (by decide), if_pos (by decide), if_pos (by decide), if_pos (by omega), rd_obj1]
  have e1 : wrap64 (1 + (rekey x k1).f1) = ((T.length + 2 : Nat) : Int) := by
    show wrap64 (1 + x.f1) = _
    rw [hx.size, w64g (by omega) (by omega)]
    omega
  rw [e1, w01, jsontext_Kids.l0, if_pos (by decide), if_pos (by simp), if_pos (by omega), if_pos (by omega), w11, jsontext_Kids.l0, if_neg (by decide)]
  rfl
theorem get_obj (x z : S46) (T U : List (S46)) (k1 k2 a : ByteArray) (hx : Tr x T) (hz : Tr z U) (k : Nat) (hk : 20 ≤ k) (hc : jsontext_Check.f k (obj x z T U k1 k2) = some 0) :
    jsontext_Get.f k (obj x z T U k1 k2) 0 a = some (if k1.toList = a.toList then 1 else if k2.toList = a.toList then ((T.length + 2 : Nat) : Int) else -1) := by
  have hT := hx.len
  have hU := hz.len
  have hl := len_obj x z T U k1 k2
  unfold jsontext_Get.f
  rw [kids_obj x z T U k1 k2 hx hz k (by omega) hc, Option.bind_some]
  obtain ⟨k, rfl⟩ : ∃ k', k = k' + 4 := ⟨k - 4, by omega⟩
  have n0 : (0 : Int) < (([1, ((T.length + 2 : Nat) : Int)] : List Int).length : Int) := by simp
  have n1 : (1 : Int) < (([1, ((T.length + 2 : Nat) : Int)] : List Int).length : Int) := by simp
  have n2 : ¬ (2 : Int) < (([1, ((T.length + 2 : Nat) : Int)] : List Int).length : Int) := by simp
  have n3 : (0 : Int) < ((obj x z T U k1 k2).length : Int) := by omega
  have n4 : (1 : Int) < ((obj x z T U k1 k2).length : Int) := by omega
  have n5 : ((T.length + 2 : Nat) : Int) < ((obj x z T U k1 k2).length : Int) := by omega
  have n6 : (0 : Int) ≤ ((T.length + 2 : Nat) : Int) := by omega
  rw [jsontext_Get.l0, if_pos n0, if_pos (by decide), if_pos n0, if_pos (by decide), if_pos n3, rd_obj0]
  rw [if_pos (show ((⟨7, ((T.length + U.length + 3 : Nat) : Int), 2, ⟨#[]⟩, ⟨#[]⟩⟩ : S46).f0 = 7) from rfl), show rd [1, ((T.length + 2 : Nat) : Int)] 0 = 1 from rfl, if_pos (by decide), if_pos n4, rd_obj1]
  by_cases h1 : k1.toList = a.toList
  · rw [if_pos (show (rekey x k1).f3.toList = a.toList from h1), if_pos h1]
  · rw [if_neg (show ¬ (rekey x k1).f3.toList = a.toList from h1), if_neg h1, w01, jsontext_Get.l0, if_pos n1, if_pos (by decide), if_pos n1, if_pos (by decide), if_pos n3, rd_obj0]
    rw [if_pos (show ((⟨7, ((T.length + U.length + 3 : Nat) : Int), 2, ⟨#[]⟩, ⟨#[]⟩⟩ : S46).f0 = 7) from rfl), show rd [1, ((T.length + 2 : Nat) : Int)] 1 = ((T.length + 2 : Nat) : Int) from rfl, if_pos n6, if_pos n5, rd_obj2]
    by_cases h2 : k2.toList = a.toList
    · rw [if_pos (show (rekey z k2).f3.toList = a.toList from h2), if_pos h2]
    · rw [if_neg (show ¬ (rekey z k2).f3.toList = a.toList from h2), if_neg h2, w11, jsontext_Get.l0, if_neg n2]
theorem rekey_back {x : S46} (k : ByteArray) (h : x.f3 = ⟨#[]⟩) : (⟨(rekey x k).f0, (rekey x k).f1, (rekey x k).f2, (⟨#[]⟩ : ByteArray), (rekey x k).f4⟩ : S46) = x := by
  obtain ⟨f0, f1, f2, f3, f4⟩ := x
  simp only at h
  subst h
  rfl
theorem sub_one (x z : S46) (T U : List (S46)) (k1 k2 : ByteArray) (hx : Tr x T) (hz : Tr z U) (k : Nat) (hc : jsontext_Check.f k (obj x z T U k1 k2) = some 0) :
    jsontext_Sub.f k (obj x z T U k1 k2) 1 = some (x :: T) := by
  have hT := hx.len
  have hU := hz.len
  have hl := len_obj x z T U k1 k2
  have e1 : wrap64 (1 + (rekey x k1).f1) = ((T.length + 2 : Nat) : Int) := by
    show wrap64 (1 + x.f1) = _
    rw [hx.size, w64g (by omega) (by omega)]
    omega
  have e2 : ((obj x z T U k1 k2).take (((T.length + 2 : Nat) : Int)).toNat).drop ((1 : Int)).toNat = rekey x k1 :: T := by
    rw [Int.toNat_natCast]
    unfold obj
    simp
  unfold jsontext_Sub.f
  rw [hc, Option.bind_some, if_pos rfl, if_neg (by decide), if_neg (by omega), if_pos (by decide), if_pos (by omega), rd_obj1, e1, if_pos (by omega), if_pos (by omega), e2, api_Jnode.f, if_pos (by simp; omega), Option.bind_some, if_pos (by simp)]
  show some ((⟨(rekey x k1).f0, (rekey x k1).f1, (rekey x k1).f2, (⟨#[]⟩ : ByteArray), (rekey x k1).f4⟩ : S46) :: T) = _
  rw [rekey_back k1 hx.key]
theorem sub_two (x z : S46) (T U : List (S46)) (k1 k2 : ByteArray) (hx : Tr x T) (hz : Tr z U) (k : Nat) (hc : jsontext_Check.f k (obj x z T U k1 k2) = some 0) :
    jsontext_Sub.f k (obj x z T U k1 k2) ((T.length + 2 : Nat) : Int) = some (z :: U) := by
  have hT := hx.len
  have hU := hz.len
  have hl := len_obj x z T U k1 k2
  have e1 : wrap64 (((T.length + 2 : Nat) : Int) + (rekey z k2).f1) = ((T.length + U.length + 3 : Nat) : Int) := by
    show wrap64 (((T.length + 2 : Nat) : Int) + z.f1) = _
    rw [hz.size, w64g (by omega) (by omega)]
    omega
  have e2 : ((obj x z T U k1 k2).take (((T.length + U.length + 3 : Nat) : Int)).toNat).drop (((T.length + 2 : Nat) : Int)).toNat = rekey z k2 :: U := by
    rw [Int.toNat_natCast, Int.toNat_natCast, List.take_of_length_le (by omega)]
    unfold obj
    simp
  unfold jsontext_Sub.f
  rw [hc, Option.bind_some, if_pos rfl, if_neg (by omega), if_neg (by omega), if_pos (by omega), if_pos (by omega), rd_obj2, e1, if_pos (by omega), if_pos (by omega), e2, api_Jnode.f, if_pos (by simp; omega), Option.bind_some, if_pos (by simp)]
  show some ((⟨(rekey z k2).f0, (rekey z k2).f1, (rekey z k2).f2, (⟨#[]⟩ : ByteArray), (rekey z k2).f4⟩ : S46) :: U) = _
  rw [rekey_back k2 hz.key]
theorem parse_zero {s : Bs} {f : F} {p : Int} (h : parse s = (f, p, 0)) : p = 0 := by
  unfold parse at h
  split at h
  · cases h
  · split at h
    · rename_i r e hv
      have := value_e 32 [] (blanks s) r e hv
      simp only [Prod.mk.injEq] at h
      omega
    · split at h
      · simp only [Prod.mk.injEq] at h
        exact h.2.1.symm
      · simp only [Prod.mk.injEq] at h
        omega
theorem flat_texts2 : ∀ (f : F) (d : Nat) (keyed first : Bool), good f d keyed = true → ∀ x ∈ f.flat, (x.f3.size ≤ (f.out keyed first).length ∧ x.f4.size ≤ (f.out keyed first).length) ∧ (0 ≤ x.f1 ∧ x.f1 ≤ f.flat.length) ∧ x.f2 ≤ f.flat.length
  | .nil, d, keyed, first, h, x, hx => by simp [F.flat] at hx
  | .leaf k kd t r, d, keyed, first, h, x, hx => by
    simp only [good, Bool.and_eq_true, Bool.or_eq_true, List.isEmpty_iff] at h
    obtain ⟨⟨⟨⟨_, h2⟩, h3⟩, h4⟩, h5⟩ := h
    simp only [F.flat, List.mem_cons] at hx
    simp only [F.out, List.length_append, F.flat, List.length_cons]
    rcases hx with rfl | hx
    · have hl : t.length ≤ (ltx kd t).length := by
        unfold leafB at h4
        unfold ltx
        by_cases c4 : kd = 4
        · subst c4
          exact Nat.le_refl _
        · rw [if_neg c4] at h4
          by_cases c5 : kd = 5
          · subst c5
            exact quote_ge t
          · rw [if_neg c5] at h4
            simp only [Bool.and_eq_true, List.isEmpty_iff] at h4
            rw [h4.2]
            simp
      have hq := quote_ge k
      simp only [str_size]
      refine ⟨⟨?_, by omega⟩, by omega, by omega⟩
      rcases h2 with rfl | rfl
      · simp
      · simp only [if_true, List.length_append]
        omega
    · have := flat_texts2 r d keyed false h5 x hx
      omega
  | .node k kd ks r, d, keyed, first, h, x, hx => by
    simp only [good, Bool.and_eq_true, Bool.or_eq_true, List.isEmpty_iff, beq_iff_eq] at h
    obtain ⟨⟨⟨⟨⟨_, h2⟩, h3⟩, h4⟩, h5⟩, h6⟩ := h
    simp only [F.flat, List.mem_cons, List.mem_append] at hx
    simp only [F.out, List.length_append, F.flat, List.length_cons]
    rcases hx with rfl | hx | hx
    · have hq := quote_ge k
      have hc := F.cnt_le ks
      simp only [str_size, List.length_nil]
      refine ⟨⟨?_, by omega⟩, by omega, by omega⟩
      rcases h2 with rfl | rfl
      · simp
      · simp only [if_true, List.length_append]
        omega
    · have := flat_texts2 ks (d - 1) (kd == 7) true h5 x hx
      have e : (ks.out (kd == 7) true).length ≤ (if kd = 7 then 123 :: (ks.out true true ++ [125]) else 91 :: (ks.out false true ++ [93])).length := by
        rcases h4 with rfl | rfl
        · simp
          omega
        · simp
          omega
      omega
    · have := flat_texts2 r d keyed false h6 x hx
      omega
/-- A text that is parsed: what is asked of its nodes. -/
theorem tr_of {s : Bs} {f : F} (h : parse s = (f, 0, 0)) (hs : s.length ≤ 800) : ∃ x T, f.flat = x :: T ∧ Tr x T := by
  obtain ⟨g1, g2, g3⟩ := parse_good h
  have hout := cnt_out f 32 false false true g1
  have htx := flat_texts2 f 32 false true g1
  have hlen : f.flat.length ≤ 65536 := by
    unfold parse at h
    split at h
    · cases h
    · split at h
      · rename_i r e hv
        have := value_e 32 [] (blanks s) r e hv
        simp only [Prod.mk.injEq] at h
        omega
      · rename_i r g hv
        split at h
        · simp only [Prod.mk.injEq] at h
          obtain ⟨rfl, _⟩ := h
          have := (value_owes 32 _ _ _ _ hv).2
          have := blanks_len s
          omega
        · simp only [Prod.mk.injEq] at h
          omega
  have hfit : fit f.flat = true := by
    unfold fit
    simp only [Bool.and_eq_true, decide_eq_true_eq, List.all_eq_true]
    refine ⟨by omega, fun x hx => ?_⟩
    have a := htx x hx
    have c : (f.out false true).length ≤ 6 * s.length := g3
    exact ⟨⟨⟨⟨by omega, by omega⟩, by omega⟩, by omega⟩, by omega⟩
  have hkey : key f = [] := by
    match f, g2, g1 with
    | .leaf k kd tx .nil, _, g =>
      simp only [good, Bool.and_eq_true, Bool.or_false, List.isEmpty_iff] at g
      exact g.1.1.1.2
    | .node k kd ks .nil, _, g =>
      simp only [good, Bool.and_eq_true, Bool.or_false, List.isEmpty_iff] at g
      exact g.1.1.1.1.2
  have htree := tree_is g2 g1
  match f, g2, hkey, hfit, htree, hlen with
  | .leaf k kd tx .nil, _, hk, hfit, htree, hlen =>
    have hk : k = [] := hk
    subst hk
    exact ⟨_, _, rfl, hfit, ⟨_, htree⟩, rfl, Nat.zero_le _, rfl⟩
  | .node k kd ks .nil, _, hk, hfit, htree, hlen =>
    have hk : k = [] := hk
    subst hk
    simp only [F.flat, List.length_cons, List.append_nil] at hlen
    exact ⟨⟨kd, ((ks.flat.length + 1 : Nat) : Int), (ks.count : Nat), str [], str []⟩, ks.flat ++ [], rfl, hfit, ⟨_, htree⟩, by simp, by simp; omega, rfl⟩
theorem key_ne (a : ByteArray) (c : UInt8) : ¬ a.toList = (a ++ (⟨#[c]⟩ : ByteArray)).toList := by
  rw [tl, tl]
  intro h
  have := congrArg List.length h
  simp at this
theorem key_ne2 (a : ByteArray) : ¬ (a ++ (⟨#[120]⟩ : ByteArray)).toList = (a ++ (⟨#[121]⟩ : ByteArray)).toList := by
  rw [tl, tl]
  intro h
  simp at h
theorem obj_fit (x z : S46) (T U : List (S46)) (k1 k2 : ByteArray) (hx : Tr x T) (hz : Tr z U) (h1 : k1.size ≤ 100) (h2 : k2.size ≤ 100) : fit (obj x z T U k1 k2) = true := by
  have hT := hx.len
  have hU := hz.len
  have fx := fun y hy => fit_at hx.fit (x := y) hy
  have fz := fun y hy => fit_at hz.fit (x := y) hy
  have hl := len_obj x z T U k1 k2
  unfold fit
  simp only [Bool.and_eq_true, decide_eq_true_eq, List.all_eq_true]
  refine ⟨by omega, fun y hy => ?_⟩
  have key : y.f3.size ≤ 1000000 ∧ y.f4.size ≤ 1000000 ∧ y.f2 ≤ 9223372036854775807 ∧ -9223372036854775808 ≤ y.f1 ∧ y.f1 ≤ 9223372036854775807 := by
    unfold obj at hy
    simp only [List.mem_cons, List.mem_append] at hy
    rcases hy with rfl | rfl | hy | rfl | hy
    · refine ⟨Nat.zero_le _, Nat.zero_le _, show (2 : Int) ≤ 9223372036854775807 by decide, by simp only; omega, by simp only; omega⟩
    · have := fx x (by simp)
      refine ⟨by show k1.size ≤ _; omega, this.2.1, this.2.2.1, this.2.2.2.1, this.2.2.2.2⟩
    · exact fx y (by simp [hy])
    · have := fz z (by simp)
      refine ⟨by show k2.size ≤ _; omega, this.2.1, this.2.2.1, this.2.2.2.1, this.2.2.2.2⟩
    · exact fz y (by simp [hy])
  obtain ⟨a, b, c, d, e⟩ := key
  exact ⟨⟨⟨⟨a, b⟩, c⟩, d⟩, e⟩
theorem j0_gets (x z : S46) (T U : List (S46)) (ky : ByteArray) (hx : Tr x T) (hz : Tr z U) (h1 : ky.size ≤ 50) (k : Nat) (hk : 600000 ≤ k) (b : Bool) : racewaylaw25_JsontextGets.j0 (k + 1) ky (x :: T) (z :: U) b = some true := by
  have hT := hx.len
  have hU := hz.len
  rw [racewaylaw25_JsontextGets.j0]
  cases b with
  | true => rw [if_pos rfl, works_true]; rfl
  | false =>
    have hs2 : (ky ++ (⟨#[120]⟩ : ByteArray)).size ≤ 100 := by
      have : (ky ++ (⟨#[120]⟩ : ByteArray)).size = ky.size + 1 := ByteArray.size_append
      omega
    rw [if_neg (by decide), if_pos (by omega)]
    rcases made_two x z T U ky (ky ++ (⟨#[120]⟩ : ByteArray)) hx hz (by omega) hs2 k (by omega) with hm | hm
    · rw [hm, Option.bind_some]
      have hc : jsontext_Check.f k ([] : List (S46)) = some 2 := rfl
      rw [hc, Option.bind_some, if_neg (by decide), works_true]
      rfl
    · rw [hm, Option.bind_some]
      have hc := Check_law (obj x z T U ky (ky ++ (⟨#[120]⟩ : ByteArray))) (obj_fit x z T U ky _ hx hz (by omega) hs2) k (by rw [len_obj]; omega)
      cases ht : tree? (obj x z T U ky (ky ++ (⟨#[120]⟩ : ByteArray))) with
      | none =>
        rw [ht] at hc
        have hc2 : jsontext_Check.f k (obj x z T U ky (ky ++ (⟨#[120]⟩ : ByteArray))) = some 2 := hc
        rw [hc2, Option.bind_some, if_neg (by decide), works_true]
        rfl
      | some t =>
        rw [ht] at hc
        have hc2 : jsontext_Check.f k (obj x z T U ky (ky ++ (⟨#[120]⟩ : ByteArray))) = some 0 := hc
        have q1 := get_obj x z T U ky (ky ++ (⟨#[120]⟩ : ByteArray)) ky hx hz k (by omega) hc2
        have q2 := get_obj x z T U ky (ky ++ (⟨#[120]⟩ : ByteArray)) (ky ++ (⟨#[120]⟩ : ByteArray)) hx hz k (by omega) hc2
        have q3 := get_obj x z T U ky (ky ++ (⟨#[120]⟩ : ByteArray)) (ky ++ (⟨#[121]⟩ : ByteArray)) hx hz k (by omega) hc2
        rw [if_pos rfl] at q1
        rw [if_neg (key_ne ky 120), if_pos rfl] at q2
        rw [if_neg (key_ne ky 121), if_neg (key_ne2 ky)] at q3
        have hw : wrap64 (1 + (((x :: T).length : Nat) : Int)) = ((T.length + 2 : Nat) : Int) := by
          rw [w64g (by simp; omega) (by simp; omega)]
          simp
          omega
        have s1 := same_self (x :: T) (by simp; omega) k (by simp; omega)
        have s2 := same_self (z :: U) (by simp; omega) k (by simp; omega)
        rw [hc2, Option.bind_some, if_pos rfl, q1, Option.bind_some, q2, Option.bind_some, if_pos rfl, hw, if_pos rfl, sub_one x z T U ky _ hx hz k hc2, Option.bind_some, s1, Option.bind_some, if_pos rfl, sub_two x z T U ky _ hx hz k hc2, Option.bind_some, s2, Option.bind_some, if_pos rfl, q3, Option.bind_some, if_pos rfl, kids_obj x z T U ky _ hx hz k (by omega) hc2, Option.bind_some, if_pos (by simp), works_true]
        rfl
theorem mn_l (a b : Int) (ha : 0 ≤ a) (hb : 0 ≤ b) : 0 ≤ mn a b ∧ mn a b ≤ a ∧ mn a b ≤ b := by
  unfold mn
  split <;> omega
theorem Pg (a : ByteArray) : jsontext_Parse.f a = some ((parse a.data.toList).1.flat, (parse a.data.toList).2.1, (parse a.data.toList).2.2) := rfl
theorem gets_true (k : Nat) (x2 : ByteArray) (L M : List (S46)) : racewaylaw25_JsontextGets.j0 (k + 1) x2 L M true = some true := by
  rw [racewaylaw25_JsontextGets.j0, if_pos rfl, works_true]
  rfl
theorem JsontextGets : racewaylaw25_JsontextGets.Pure := by
  intro a0 a1 a2 h0 h1 h2
  refine ⟨700001, ?_⟩
  obtain ⟨m0, m1, m2⟩ := mn_l (a0.size : Int) 800 (by omega) (by omega)
  obtain ⟨n0, n1, n2⟩ := mn_l (a1.size : Int) 800 (by omega) (by omega)
  obtain ⟨p0, p1, p2⟩ := mn_l (a2.size : Int) 50 (by omega) (by omega)
  generalize hX : a0.extract 0 ((mn (a0.size : Int) 800) : Int).toNat = X
  generalize hY : a1.extract 0 ((mn (a1.size : Int) 800) : Int).toNat = Y
  generalize hZ : a2.extract 0 ((mn (a2.size : Int) 50) : Int).toNat = Z
  have hXs : X.data.toList.length ≤ 800 := by
    have : X.data.toList.length = X.size := by simp
    rw [this, ← hX, ByteArray.size_extract]
    omega
  have hYs : Y.data.toList.length ≤ 800 := by
    have : Y.data.toList.length = Y.size := by simp
    rw [this, ← hY, ByteArray.size_extract]
    omega
  have hZs : Z.size ≤ 50 := by rw [← hZ, ByteArray.size_extract]; omega
  unfold racewaylaw25_JsontextGets.f
  rw [if_pos m0, if_pos m1, hX, Pg, Option.bind_some, if_pos n0, if_pos n1, hY, Pg, Option.bind_some, if_pos p0, if_pos p1, hZ]
  cases hp : parse X.data.toList with
  | mk f pe =>
    obtain ⟨p, e⟩ := pe
    cases hq : parse Y.data.toList with
    | mk g qe =>
      obtain ⟨q, e'⟩ := qe
      simp only
      by_cases he : e = 0
      · rw [if_pos he]
        by_cases he' : e' = 0
        · rw [if_pos he']
          subst he
          subst he'
          obtain rfl := parse_zero hp
          obtain rfl := parse_zero hq
          obtain ⟨x, T, hf, hx⟩ := tr_of hp hXs
          obtain ⟨z, U, hg, hz⟩ := tr_of hq hYs
          obtain ⟨b, hb⟩ := valid_ans Z (by omega) 100 700001 0 (by omega) (by omega) (by omega) (by omega)
          have hb2 : racewayref25_Valid.f 700001 Z = some b := hb
          rw [hb2, Option.bind_some, hf, hg]
          exact j0_gets x z T U Z hx hz hZs 700000 (by omega) (!b)
        · rw [if_neg he']
          exact gets_true 700000 _ _ _
      · rw [if_neg he]
        exact gets_true 700000 _ _ _
end Go.Proofs.YtadfkeipcebmfaaDoor.Pure

