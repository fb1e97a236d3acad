/-
  Types and numbers of attributes: what the program's functions and the document's come to, and that both are the same.
-/
import Derived.Test.YtolpefnedpgaaaaDoorX5
import Derived.Test.YtolpefnedpgaaaaDoorX6
import Derived.Test.YtolpefnedpgaaaaDoorExtPureNames
namespace Go.Proofs.YtolpefnedpgaaaaDoor.X
open Go.RowKit Go.Proofs.YtolpefnedpgaaaaDoorW.PrintWords Go.Proofs.YtolpefnedpgaaaaDoorW.PrintMore
set_option linter.unusedVariables false
set_option linter.unusedSimpArgs false
theorem bsize (l : List UInt8) : (⟨l.toArray⟩ : ByteArray).size = l.length := by show l.toArray.size = _; simp
theorem bext {a b : ByteArray} (h : a.data.toList = b.data.toList) : a = b := by
  cases a; cases b; congr 1; exact Array.toList_inj.1 h
theorem data_ext (s : ByteArray) (a b : Nat) : (s.extract a b).data.toList = (s.data.toList.drop a).take (b - a) := by
  rw [← Lib.extract_toList]; exact (ByteArray.toList_eq _).symm
theorem ext_drop (s : ByteArray) (n : Nat) : s.extract n s.size = ⟨(s.data.toList.drop n).toArray⟩ := by
  apply bext
  rw [data_ext]
  show _ = (s.data.toList.drop n).toArray.toList
  rw [List.take_of_length_le (by simp)]
theorem ext_take (s : ByteArray) (n : Nat) : s.extract 0 n = ⟨(s.data.toList.take n).toArray⟩ := by
  apply bext
  rw [data_ext]
  rfl
theorem bapp (a b : List UInt8) : (⟨a.toArray⟩ : ByteArray) ++ ⟨b.toArray⟩ = ⟨(a ++ b).toArray⟩ := by
  apply bext
  show (ByteArray.append _ _).data.toList = _
  simp
theorem bt_zero (t : ByteArray) (c : UInt8) (r : List UInt8) (h : t.data.toList = c :: r) : 0 < t.size ∧ bt t 0 = (c.toNat : Int) := by
  have hz : 0 < t.size := by
    have : t.data.toList.length = t.size := by simp
    rw [h] at this; simp at this; omega
  obtain ⟨c', h1, h2⟩ := at_drop t 0 hz
  rw [List.drop_zero, h] at h1
  simp only [List.cons.injEq] at h1
  refine ⟨hz, ?_⟩
  rw [h1.1]; exact h2
def hasP (s p : ByteArray) : Bool := decide (p.size ≤ s.size) && ((s.extract 0 p.size).toList == p.toList)
theorem hasPrefix_eq (s p : ByteArray) : stringslite_HasPrefix.f s p = some (hasP s p) := by
  unfold stringslite_HasPrefix.f hasP
  by_cases h : p.size ≤ s.size
  · rw [if_pos (by omega), if_pos (by omega), if_pos (by omega), decide_eq_true h, Int.toNat_natCast]; rfl
  · rw [if_neg (by omega), decide_eq_false h]; rfl
theorem cutPrefix_eq (s p : ByteArray) : strings_CutPrefix.f s p = some (if hasP s p = true then (s.extract p.size s.size, true) else (s, false)) := by
  unfold strings_CutPrefix.f stringslite_CutPrefix.f
  rw [hasPrefix_eq]
  simp only [Option.bind_some]
  by_cases h : hasP s p = true
  · have h' := h
    unfold hasP at h'
    rw [Bool.and_eq_true, decide_eq_true_iff] at h'
    rw [if_pos h, if_pos h, if_pos (by omega), if_pos (by omega), Int.toNat_natCast]; rfl
  · rw [if_neg h, if_neg h]; rfl
def typeR : List UInt8 → Bool
  | [] => true
  | c :: r => c == 46 && decide (1 ≤ r.length) && decide (r.length ≤ 32) && r.all letter8
def typeOne (s p : ByteArray) : Bool := hasP s p && typeR (s.data.toList.drop p.size)
def typeF (s : ByteArray) (L : List ByteArray) : Nat → Nat → Int × Bool
  | 0, _ => (0, false)
  | d + 1, i => if typeOne s (rdOf ByteArray.empty L (i : Int)) = true then (((i + 1 : Nat) : Int), true) else typeF s L d (i + 1)
theorem c46 (c : UInt8) : ((c.toNat : Int) = 46) ↔ c = 46 := by
  constructor
  · intro h
    apply UInt8.toNat.inj
    show c.toNat = 46
    omega
  · rintro rfl; rfl
theorem type_l0 (s : ByteArray) (L : List ByteArray) (hs : s.size ≤ 1000000) (hL : L.length = 3) : ∀ (d k i : Nat), i + d = 3 → s.size + 10 + d < k → attribute_Type.l0 k s L 3 (i : Int) = some (typeF s L d i) := by
  intro d
  induction d with
  | zero =>
    intro k i h hk
    obtain ⟨k, rfl⟩ : ∃ m, k = m + 1 := ⟨k - 1, by omega⟩
    simp only [attribute_Type.l0, typeF]
    rw [if_neg (by omega)]
  | succ d ih =>
    intro k i h hk
    obtain ⟨k, rfl⟩ : ∃ m, k = m + 1 := ⟨k - 1, by omega⟩
    simp only [attribute_Type.l0, typeF]
    rw [if_pos (by omega), if_pos (by omega), if_pos (by omega), cutPrefix_eq, w64 (x := (i : Int) + 1) (by omega) (by omega), show ((i : Int) + 1) = ((i + 1 : Nat) : Int) by omega, ih k (i + 1) (by omega) (by omega)]
    generalize rdOf ByteArray.empty L (i : Int) = p
    simp only [Option.bind_some]
    unfold typeOne
    by_cases hp : hasP s p = true
    · rw [if_pos hp, hp, ext_drop]
      simp only [if_true, Bool.true_and]
      have ht : (⟨(s.data.toList.drop p.size).toArray⟩ : ByteArray).toList = s.data.toList.drop p.size := by rw [ByteArray.toList_eq]
      rw [ht]
      have hlen : (s.data.toList.drop p.size).length ≤ s.size := by simp
      cases hd : s.data.toList.drop p.size with
      | nil => simp [typeR]
      | cons c r =>
        rw [hd] at hlen
        obtain ⟨h0, hb⟩ := bt_zero ⟨(c :: r).toArray⟩ c r rfl
        rw [if_neg (by simp), if_pos (by omega), hb]
        by_cases hc : c = 46
        · rw [if_pos ((c46 c).2 hc), if_pos (by omega), ext_drop]
          have hl := letters_eq ⟨(((⟨(c :: r).toArray⟩ : ByteArray).data.toList).drop 1).toArray⟩ 32 (by rw [bsize]; simp only [List.length_cons] at hlen; show r.length ≤ 1000000; omega) k (by rw [bsize]; simp only [List.length_cons] at hlen; show r.length + 2 < k; omega)
          rw [show ((32 : Nat) : Int) = 32 from rfl] at hl
          rw [hl]
          simp only [Option.bind_some]
          have e : typeR (c :: r) = (decide (1 ≤ r.length) && decide (r.length ≤ 32) && r.all letter8) := by simp [typeR, hc]
          rw [e]
          show (if (decide (1 ≤ r.length) && decide (r.length ≤ 32) && r.all letter8) = true then _ else _) = _
          split <;> rfl
        · rw [if_neg (fun h => hc ((c46 c).1 h))]
          have e : typeR (c :: r) = false := by simp [typeR, hc]
          rw [e]; rfl
    · rw [if_neg hp]
      rw [Bool.not_eq_true] at hp
      rw [hp]
      simp
abbrev kindsL : List ByteArray := [⟨#[83, 116, 114, 105, 110, 103]⟩, ⟨#[78, 117, 109, 98, 101, 114]⟩, ⟨#[66, 105, 110, 97, 114, 121]⟩]
theorem Type_eq (s : ByteArray) (hs : s.size ≤ 1000000) (k : Nat) (hk : s.size + 13 < k) : attribute_Type.f k s = some (typeF s kindsL 3 0) := by
  unfold attribute_Type.f
  simp only [Option.bind_some]
  exact type_l0 s kindsL hs rfl 3 k 0 (by omega) (by omega)
theorem ref_type_l1 (s : ByteArray) (L : List ByteArray) (i K : Nat) (hi : i < 3) (v : Int × Bool) (hs : s.size ≤ 1000000)
    (hn : ∀ k, K < k → racewayref24_Type.l0 k s L ((i + 1 : Nat) : Int) = some v) : ∀ (d k j : Nat) (g : Bool), j + d = s.size → K + d + 1 < k →
    racewayref24_Type.l1 k s L (i : Int) g (j : Int) = some (if (g && (s.data.toList.drop j).all letter8) = true then (((i + 1 : Nat) : Int), true) else v) := by
  intro d
  induction d with
  | zero =>
    intro k j g h hk
    obtain ⟨k, rfl⟩ : ∃ m, k = m + 1 := ⟨k - 1, by omega⟩
    simp only [racewayref24_Type.l1]
    rw [if_neg (by omega), drop_all s j (by omega), w64 (by omega) (by omega), show ((i : Int) + 1) = ((i + 1 : Nat) : Int) by omega, hn k (by omega)]
    cases g <;> rfl
  | succ d ih =>
    intro k j g h hk
    obtain ⟨k, rfl⟩ : ∃ m, k = m + 1 := ⟨k - 1, by omega⟩
    simp only [racewayref24_Type.l1, letter_bt, Option.bind_some]
    obtain ⟨c, hc, hb⟩ := at_drop s j (by omega)
    rw [if_pos (by omega), if_pos (show (0 : Int) ≤ (j : Int) by omega), w64 (by omega) (by omega), show ((j : Int) + 1) = ((j + 1 : Nat) : Int) by omega, ih k (j + 1) _ (by omega) (by omega), ih k (j + 1) _ (by omega) (by omega), hc, hb]
    cases g
    · simp
    · simp only [if_true, List.all_cons, Bool.true_and]
      rfl
theorem ref_type_l0 (s : ByteArray) (L : List ByteArray) (hs : s.size ≤ 1000000) (hL : L.length = 3) (hp : ∀ i : Nat, i < 3 → (rdOf ByteArray.empty L (i : Int)).size ≤ 100) :
    ∀ (d k i : Nat), i + d = 3 → (s.size + 10) * (d + 1) < k → racewayref24_Type.l0 k s L (i : Int) = some (typeF s L d i) := by
  intro d
  induction d with
  | zero =>
    intro k i h hk
    obtain ⟨k, rfl⟩ : ∃ m, k = m + 1 := ⟨k - 1, by omega⟩
    simp only [racewayref24_Type.l0, typeF]
    rw [if_neg (by omega)]
  | succ d ih =>
    intro k i h hk
    rw [show (s.size + 10) * (d + 1 + 1) = (s.size + 10) * (d + 1) + (s.size + 10) by rw [Nat.mul_succ]] at hk
    generalize hK : (s.size + 10) * (d + 1) = K at hk ih
    obtain ⟨k, rfl⟩ : ∃ m, k = m + 3 := ⟨k - 3, by omega⟩
    have hn : ∀ k, K < k → racewayref24_Type.l0 k s L ((i + 1 : Nat) : Int) = some (typeF s L d (i + 1)) := fun k hk => ih k (i + 1) (by omega) hk
    have hpi := hp i (by omega)
    have h3 : ((i : Int) + 1) = ((i + 1 : Nat) : Int) := by omega
    simp only [racewayref24_Type.l0, typeF]
    rw [if_pos (by omega), if_pos (by omega), if_pos (by omega)]
    generalize rdOf ByteArray.empty L (i : Int) = p at hpi ⊢
    have hj : ∀ b, (b = false → p.size ≤ s.size) → racewayref24_Type.j1 (k + 2) s L (i : Int) (p.size : Int) b = some (if ((!b) && typeR (s.data.toList.drop p.size)) = true then (((i + 1 : Nat) : Int), true) else typeF s L d (i + 1)) := by
      intro b hle
      simp only [racewayref24_Type.j1]
      rw [w64 (x := (i : Int) + 1) (by omega) (by omega), h3, hn (k + 1) (by omega)]
      cases b
      · simp only [Bool.false_eq_true, if_false, Bool.not_false, Bool.true_and]
        have hle := hle rfl
        by_cases he : s.size = p.size
        · rw [if_pos (by omega), drop_all s p.size (by omega)]; rfl
        · rw [if_neg (by omega), if_pos (by omega), if_pos (by omega)]
          obtain ⟨c, hc, hb⟩ := at_drop s p.size (by omega)
          have hl2 : (s.data.toList.drop (p.size + 1)).length = s.size - (p.size + 1) := by simp
          rw [hc, hb, w64 (by omega) (by omega), w64 (by omega) (by omega)]
          have hj2 : ∀ g, racewayref24_Type.j2 (k + 1) s L (i : Int) (p.size : Int) g = some (if (g && (s.data.toList.drop (p.size + 1)).all letter8) = true then (((i + 1 : Nat) : Int), true) else typeF s L d (i + 1)) := by
            intro g
            simp only [racewayref24_Type.j2]
            rw [w64 (by omega) (by omega), show ((p.size : Int) + 1) = ((p.size + 1 : Nat) : Int) by omega]
            exact ref_type_l1 s L i K (by omega) _ hs hn (s.size - (p.size + 1)) k (p.size + 1) g (by omega) (by omega)
          rw [hj2, hj2]
          by_cases h46 : c = 46
          · rw [if_pos ((c46 c).2 h46)]
            have e : typeR (c :: s.data.toList.drop (p.size + 1)) = (decide (1 ≤ (s.data.toList.drop (p.size + 1)).length) && decide ((s.data.toList.drop (p.size + 1)).length ≤ 32) && (s.data.toList.drop (p.size + 1)).all letter8) := by simp [typeR, h46]
            rw [e, hl2]
            by_cases h1 : (s.size : Int) > (p.size : Int) + 1
            · rw [if_pos h1, decide_eq_true (p := 1 ≤ s.size - (p.size + 1)) (by omega), Bool.true_and]
              have e2 : decide ((s.size : Int) ≤ (p.size : Int) + 33) = decide (s.size - (p.size + 1) ≤ 32) := by rw [decide_eq_decide]; omega
              rw [e2]
            · rw [if_neg h1, decide_eq_false (p := 1 ≤ s.size - (p.size + 1)) (by omega)]; rfl
          · rw [if_neg (fun h => h46 ((c46 c).1 h))]
            have e : typeR (c :: s.data.toList.drop (p.size + 1)) = false := by simp [typeR, h46]
            rw [e]; rfl
      · simp
    have e : typeOne s p = (hasP s p && typeR (s.data.toList.drop p.size)) := rfl
    rw [e]
    unfold hasP
    by_cases hle : p.size ≤ s.size
    · rw [if_neg (by omega), if_pos (by omega), if_pos (by omega), Int.toNat_natCast, hj _ (fun _ => hle), decide_eq_true hle]
      simp only [bne, Bool.not_not, Bool.true_and]
    · rw [if_pos (by omega), hj _ (fun h => by simp at h), decide_eq_false hle]
      simp
theorem ref_Type_eq (s : ByteArray) (hs : s.size ≤ 1000000) (k : Nat) (hk : (s.size + 10) * 4 < k) : racewayref24_Type.f k s = some (typeF s kindsL 3 0) := by
  unfold racewayref24_Type.f
  exact ref_type_l0 s kindsL hs rfl (fun i hi => by
    match i, hi with
    | 0, _ => decide +kernel
    | 1, _ => decide +kernel
    | 2, _ => decide +kernel) 3 k 0 (by omega) hk
-- numbers
theorem hasP_one (s : ByteArray) (c : UInt8) : hasP s ⟨#[c]⟩ = match s.data.toList with | [] => false | b :: _ => b == c := by
  unfold hasP
  rw [Lib.extract_toList, show (⟨#[c]⟩ : ByteArray).toList = [c] by rw [ByteArray.toList_eq]]
  have hl : s.data.toList.length = s.size := by simp
  cases hd : s.data.toList with
  | nil =>
    rw [hd] at hl
    rw [decide_eq_false]
    · rfl
    · show ¬ (1 ≤ s.size); simp at hl; omega
  | cons b r =>
    rw [hd] at hl
    rw [decide_eq_true]
    · show ([b] == [c]) = _
      simp
    · show 1 ≤ s.size; simp at hl; omega
theorem strings_HasPrefix_eq (s p : ByteArray) : strings_HasPrefix.f s p = some (hasP s p) := by
  unfold strings_HasPrefix.f
  rw [hasPrefix_eq]; rfl
theorem sign_eq (l : List UInt8) (h : l.length ≤ 1000000) : attribute_sign.f ⟨l.toArray⟩ = some ⟨(unsign l).toArray⟩ := by
  unfold attribute_sign.f
  rw [strings_HasPrefix_eq, strings_HasPrefix_eq, hasP_one, hasP_one]
  have e : ∀ r : List UInt8, ∀ c, (⟨(c :: r).toArray⟩ : ByteArray).extract 1 (⟨(c :: r).toArray⟩ : ByteArray).size = ⟨r.toArray⟩ := fun r c => ext_drop ⟨(c :: r).toArray⟩ 1
  simp only [Option.bind_some]
  cases l with
  | nil => rfl
  | cons c r =>
    rw [e, bsize, show unsign (c :: r) = if c = 43 ∨ c = 45 then r else c :: r from rfl]
    have hl : (1 : Int) ≤ ((c :: r).length : Int) := by simp only [List.length_cons]; omega
    show (if (c == 43) = true then _ else if (c == 45) = true then _ else _) = _
    by_cases h1 : c = 43
    · rw [if_pos (beq_iff_eq.2 h1), if_pos hl, if_pos (.inl h1)]
    · rw [if_neg (fun h => h1 (beq_iff_eq.1 h))]
      by_cases h2 : c = 45
      · rw [if_pos (beq_iff_eq.2 h2), if_pos hl, if_pos (.inr h2)]
      · rw [if_neg (fun h => h2 (beq_iff_eq.1 h)), if_neg (by simp [h1, h2])]
theorem cut1_len (c : UInt8) : ∀ l, (cut1 c l).1.length + (cut1 c l).2.1.length ≤ l.length
  | [] => by simp [cut1]
  | b :: l => by
    have := cut1_len c l
    unfold cut1
    split
    · simp
    · simp; omega
theorem rep1_len : ∀ l, (rep1 l).length = l.length
  | [] => rfl
  | b :: l => by
    have := rep1_len l
    unfold rep1
    split <;> simp [this]
theorem unsign_len (l : List UInt8) : (unsign l).length ≤ l.length := by
  cases l with
  | nil => simp [unsign]
  | cons c l => rw [show unsign (c :: l) = if c = 43 ∨ c = 45 then l else c :: l from rfl]; split <;> simp
theorem cut_eq (l : List UInt8) (c : UInt8) (h : l.length ≤ 1000000) : strings_Cut.f ⟨l.toArray⟩ ⟨#[c]⟩ = some (⟨(cut1 c l).1.toArray⟩, ⟨(cut1 c l).2.1.toArray⟩, (cut1 c l).2.2) := by
  unfold strings_Cut.f
  rw [if_pos (by rw [bsize]; omega)]
  show some (_, _, _) = _
  rw [show (⟨#[c]⟩ : ByteArray).data.toList = [c] from rfl, show (⟨l.toArray⟩ : ByteArray).data.toList = l from rfl, cut_one]
theorem digits_l (l : List UInt8) (m : Nat) (h : l.length ≤ 100000) (k : Nat) (hk : l.length + 2 < k) : attribute_all.f k ⟨l.toArray⟩ ⟨#[48, 49, 50, 51, 52, 53, 54, 55, 56, 57]⟩ (m : Int) = some (digs m l) :=
  digits_eq ⟨l.toArray⟩ m (by rw [bsize]; omega) k (by rw [bsize]; omega)
theorem most_eq (q : List UInt8) (v : Int) : (if hasP ⟨q.toArray⟩ ⟨#[45]⟩ = true then some (decide (v ≤ 128)) else some (decide (v ≤ 126))) = some (decide (v ≤ (mostOf q : Int))) := by
  cases q with
  | nil => rw [hasP_one]; rfl
  | cons c r =>
    rw [show hasP ⟨(c :: r).toArray⟩ ⟨#[45]⟩ = (c == 45) from hasP_one _ _, show mostOf (c :: r) = if c = 45 then 128 else 126 from rfl]
    by_cases h : c = 45
    · rw [if_pos (beq_iff_eq.2 h), if_pos h]; rfl
    · rw [if_neg (fun h' => h (beq_iff_eq.1 h')), if_neg h]; rfl
theorem numA_of (l a b : List UInt8) (has : Bool) (x y : List UInt8) (z : Bool) (h1 : cut1 101 (rep1 l) = (a, b, has)) (h2 : cut1 46 (unsign a) = (x, y, z)) :
    numA l = if digs 38 (x ++ y) = true then if has = true then if digs 3 (unsign b) = true then decide (valA (unsign b) ≤ (mostOf b : Int)) else false else true else false := by
  unfold numA
  rw [replace_one, cut_one, h1]
  simp only
  rw [cut_one, h2]
theorem Number_eq (s : ByteArray) (hs : s.size ≤ 1000) (k : Nat) (hk : 2000 < k) : attribute_Number.f k s = some (numA s.data.toList) := by
  have hl : s.data.toList.length = s.size := by simp
  unfold attribute_Number.f strings_Replace.f
  generalize s.data.toList = l at hl ⊢
  rw [if_pos ⟨by omega, by decide, by decide⟩]
  simp only [Option.bind_some]
  rw [show Lib.replace l (⟨#[69]⟩ : ByteArray).data.toList (⟨#[101]⟩ : ByteArray).data.toList 1 = rep1 l from replace_one l, cut_eq _ _ (by rw [rep1_len]; omega)]
  have h1 := cut1_len 101 (rep1 l)
  rw [rep1_len] at h1
  simp only [Option.bind_some]
  obtain ⟨a, b, has, hc⟩ : ∃ a b has, cut1 101 (rep1 l) = (a, b, has) := ⟨_, _, _, rfl⟩
  rw [hc] at h1 ⊢
  simp only at h1 ⊢
  rw [sign_eq _ (by omega)]
  simp only [Option.bind_some]
  have h2 := unsign_len a
  rw [cut_eq _ _ (by omega)]
  have h3 := cut1_len 46 (unsign a)
  simp only [Option.bind_some]
  obtain ⟨x, y, z, hd2⟩ : ∃ x y z, cut1 46 (unsign a) = (x, y, z) := ⟨_, _, _, rfl⟩
  rw [hd2] at h3 ⊢
  rw [numA_of l a b has x y z hc hd2]
  simp only at h3 ⊢
  rw [bsize, bsize, if_pos (by omega), bapp]
  have hd := digits_l (x ++ y) 38 (by simp; omega) k (by simp; omega)
  rw [show ((38 : Nat) : Int) = 38 from rfl] at hd
  rw [hd]
  simp only [Option.bind_some]
  cases digs 38 (x ++ y)
  · simp only [Bool.false_eq_true, if_false]
  · simp only [if_true]
    cases has
    · simp only [Bool.false_eq_true, if_false]
    · simp only [if_true]
      rw [sign_eq _ (by omega)]
      have h4 := unsign_len b
      have hd := digits_l (unsign b) 3 (by omega) k (by omega)
      rw [show ((3 : Nat) : Int) = 3 from rfl] at hd
      simp only [Option.bind_some]
      rw [hd]
      simp only [Option.bind_some]
      cases hg : digs 3 (unsign b)
      · simp only [Bool.false_eq_true, if_false]
      · simp only [if_true]
        have hu : 1 ≤ (unsign b).length := by
          unfold digs at hg
          rw [Bool.and_eq_true, Bool.and_eq_true, decide_eq_true_iff] at hg
          exact hg.1.1
        generalize unsign b = u at h4 hu ⊢
        rw [bsize, w64 (by omega) (by omega), if_pos (by omega), if_pos (by omega), show ((u.length : Int) - 1).toNat = u.length - 1 by omega, ext_take]
        have e1 : (⟨u.toArray⟩ : ByteArray).extract (u.length - 1) u.length = ⟨(u.drop (u.length - 1)).toArray⟩ := by
          have := ext_drop ⟨u.toArray⟩ (u.length - 1)
          rw [bsize] at this
          exact this
        rw [e1]
        have e2 : strings_TrimLeft.f ⟨(List.take (u.length - 1) (⟨u.toArray⟩ : ByteArray).data.toList).toArray⟩ ⟨#[48]⟩ = some ⟨(trim0 (u.take (u.length - 1))).toArray⟩ := rfl
        rw [e2]
        simp only [Option.bind_some, bsize]
        have h5 : (trim0 (u.take (u.length - 1))).length ≤ u.length := by
          have := (List.dropWhile_sublist (l := u.take (u.length - 1)) (· == (48 : UInt8))).length_le
          unfold trim0
          simp at this ⊢
          omega
        rw [if_pos (by simp; omega), bapp, strings_HasPrefix_eq]
        show Option.bind (some (atoiB _)) _ = _
        simp only [Option.bind_some]
        have e3 : (atoiB ⟨(trim0 (List.take (u.length - 1) u) ++ List.drop (u.length - 1) u).toArray⟩).1 = valA u := rfl
        rw [e3]
        exact most_eq b (valA u)
-- the document's number
theorem ref_l1 (s : ByteArray) (hs : s.size ≤ 1000) (M : Nat) : ∀ (d k i n v : Nat), i + d = s.size → d < k → n ≤ 4 → v < 10 ^ n → racewayref24_Number.l1 k s (i : Int) (M : Int) (n : Int) (v : Int) = some (expoL M (s.data.toList.drop i) n v) := by
  intro d
  induction d with
  | zero =>
    intro k i n v h hk hn hv
    obtain ⟨k, rfl⟩ : ∃ m, k = m + 1 := ⟨k - 1, by omega⟩
    simp only [racewayref24_Number.l1]
    rw [if_neg (by omega), drop_all s i (by omega), if_pos (by omega), expoL]
    by_cases h1 : 1 ≤ n
    · rw [if_pos (by omega), decide_eq_true h1]
      by_cases h2 : n ≤ 3
      · rw [if_pos (by omega), decide_eq_true h2]
        simp only [Bool.true_and]
        congr 1
        rw [decide_eq_decide]; omega
      · rw [if_neg (by omega), decide_eq_false h2]; rfl
    · rw [if_neg (by omega), decide_eq_false h1]; rfl
  | succ d ih =>
    intro k i n v h hk hn hv
    obtain ⟨k, rfl⟩ : ∃ m, k = m + 1 := ⟨k - 1, by omega⟩
    obtain ⟨c, hc, hb⟩ := at_drop s i (by omega)
    simp only [racewayref24_Number.l1, digit_bt, Option.bind_some]
    rw [if_pos (by omega), if_pos (show (0 : Int) ≤ (i : Int) by omega), hc, hb, digitI_dig, if_neg (show ¬ ((i : Int) = (s.size : Int)) by omega)]
    unfold expoL
    by_cases hd : dig c = true
    · rw [if_pos hd]
      by_cases h4 : n < 4
      · have hc2 : 48 ≤ c.toNat ∧ c.toNat ≤ 57 := by
          have := hd
          unfold dig at this
          rw [Bool.and_eq_true, decide_eq_true_iff, decide_eq_true_iff] at this
          exact this
        have h10 : 10 ^ n ≤ 10 ^ 3 := Nat.pow_le_pow_right (by omega) (by omega)
        have h103 : (10 : Nat) ^ 3 = 1000 := by decide
        have hv2 : 10 * v + (c.toNat - 48) < 10 ^ (n + 1) := by rw [Nat.pow_succ]; omega
        rw [if_pos (by omega), if_pos ⟨hd, h4⟩, w64 (x := (i : Int) + 1) (by omega) (by omega), w64 (x := (n : Int) + 1) (by omega) (by omega), w64 (x := 10 * (v : Int)) (by omega) (by omega), w64 (by omega) (by omega)]
        have := ih k (i + 1) (n + 1) (10 * v + (c.toNat - 48)) (by omega) (by omega) (by omega) hv2
        rw [show (((i + 1 : Nat)) : Int) = (i : Int) + 1 by omega, show (((n + 1 : Nat)) : Int) = (n : Int) + 1 by omega, show (((10 * v + (c.toNat - 48) : Nat)) : Int) = 10 * (v : Int) + ((c.toNat : Int) - 48) % 256 by omega] at this
        exact this
      · rw [if_neg (by omega), if_neg (fun h => h4 h.2)]
    · rw [if_neg hd, if_neg (fun h => hd h.1)]
theorem c101 (c : UInt8) : ((c.toNat : Int) = 101) ↔ c = 101 := by
  constructor
  · intro h
    apply UInt8.toNat.inj
    show c.toNat = 101
    omega
  · rintro rfl; rfl
theorem c69 (c : UInt8) : ((c.toNat : Int) = 69) ↔ c = 69 := by
  constructor
  · intro h
    apply UInt8.toNat.inj
    show c.toNat = 69
    omega
  · rintro rfl; rfl
theorem c43 (c : UInt8) : ((c.toNat : Int) = 43) ↔ c = 43 := by
  constructor
  · intro h
    apply UInt8.toNat.inj
    show c.toNat = 43
    omega
  · rintro rfl; rfl
theorem c45 (c : UInt8) : ((c.toNat : Int) = 45) ↔ c = 45 := by
  constructor
  · intro h
    apply UInt8.toNat.inj
    show c.toNat = 45
    omega
  · rintro rfl; rfl
theorem ref_j5 (s : ByteArray) (hs : s.size ≤ 1000) (k i : Nat) (hi : i < s.size) (hk : s.size + 10 < k) (b : Bool) :
    racewayref24_Number.j5 k s (i : Int) b = some (if b = true then false else expoL (mostOf (s.data.toList.drop (i + 1))) (unsign (s.data.toList.drop (i + 1))) 0 0) := by
  obtain ⟨k, rfl⟩ : ∃ m, k = m + 3 := ⟨k - 3, by omega⟩
  have hj7 : ∀ (j M : Nat), j ≤ s.size → racewayref24_Number.j7 (k + 1) s (j : Int) (M : Int) = some (expoL M (s.data.toList.drop j) 0 0) := by
    intro j M hj
    simp only [racewayref24_Number.j7]
    exact ref_l1 s hs M (s.size - j) k j 0 0 (by omega) (by omega) (by omega) (by decide)
  simp only [racewayref24_Number.j5]
  cases b
  · simp only [Bool.false_eq_true, if_false]
    rw [w64 (by omega) (by omega), show ((i : Int) + 1) = ((i + 1 : Nat) : Int) by omega]
    have hj6f : racewayref24_Number.j6 (k + 2) s ((i + 1 : Nat) : Int) 126 false = some (expoL 126 (s.data.toList.drop (i + 1)) 0 0) := by
      simp only [racewayref24_Number.j6, Bool.false_eq_true, if_false]
      exact hj7 (i + 1) 126 (by omega)
    by_cases h1 : i + 1 < s.size
    · rw [if_pos (by omega), if_pos (by omega)]
      obtain ⟨c, hc, hb⟩ := at_drop s (i + 1) h1
      have hj6t : racewayref24_Number.j6 (k + 2) s ((i + 1 : Nat) : Int) 126 true = some (if c = 45 then expoL 128 (s.data.toList.drop (i + 2)) 0 0 else expoL 126 (s.data.toList.drop (i + 2)) 0 0) := by
        simp only [racewayref24_Number.j6, if_true]
        rw [if_pos (by omega), if_pos (by omega), hb, w64 (by omega) (by omega), show (((i + 1 : Nat) : Int) + 1) = ((i + 2 : Nat) : Int) by omega]
        have ha := hj7 (i + 2) 128 (by omega)
        have hb := hj7 (i + 2) 126 (by omega)
        rw [show ((128 : Nat) : Int) = 128 from rfl] at ha
        rw [show ((126 : Nat) : Int) = 126 from rfl] at hb
        rw [ha, hb]
        by_cases h45 : c = 45
        · rw [if_pos ((c45 c).2 h45), if_pos h45]
        · rw [if_neg (fun h => h45 ((c45 c).1 h)), if_neg h45]
      rw [hb, hc, unsign, mostOf]
      by_cases h43 : c = 43
      · have h45 : ¬ c = 45 := by rw [h43]; decide
        rw [if_pos ((c43 c).2 h43), hj6t, if_neg h45, if_neg h45, if_pos (show c = 43 ∨ c = 45 from .inl h43)]
      · rw [if_neg (fun h => h43 ((c43 c).1 h))]
        by_cases h45 : c = 45
        · have : ((c.toNat : Int) == 45) = true := by rw [beq_iff_eq]; exact (c45 c).2 h45
          rw [this, hj6t, if_pos h45, if_pos h45, if_pos (show c = 43 ∨ c = 45 from .inr h45)]
        · have : ((c.toNat : Int) == 45) = false := by rw [beq_eq_false_iff_ne]; exact fun h => h45 ((c45 c).1 h)
          rw [this, hj6f, if_neg h45, if_neg (show ¬ (c = 43 ∨ c = 45) by simp [h43, h45]), hc]
    · rw [if_neg (by omega), hj6f, drop_all s (i + 1) (by omega)]
      rfl
  · rfl
theorem ref_j4 (s : ByteArray) (hs : s.size ≤ 1000) (k i n p : Nat) (hi : i ≤ s.size) (hk : s.size + 20 < k) (b : Bool) (hb : (b = true) ↔ (n < 1 ∨ 38 < n ∨ 1 < p)) :
    racewayref24_Number.j4 k s (i : Int) b = some (tailR (s.data.toList.drop i) n p) := by
  obtain ⟨k, rfl⟩ : ∃ m, k = m + 1 := ⟨k - 1, by omega⟩
  simp only [racewayref24_Number.j4]
  unfold tailR
  by_cases h : b = true
  · rw [if_pos h, if_pos (hb.1 h)]
  · rw [if_neg h, if_neg (fun h' => h (hb.2 h'))]
    by_cases he : i = s.size
    · rw [if_pos (by omega), drop_all s i (by omega)]
    · rw [if_neg (by omega), if_pos (by omega), if_pos (by omega)]
      obtain ⟨c, hc, hbt⟩ := at_drop s i (by omega)
      rw [hbt, hc, ref_j5 s hs k i (by omega) (by omega), ref_j5 s hs k i (by omega) (by omega)]
      simp only []
      by_cases h1 : c = 101
      · rw [if_pos ((c101 c).2 h1), if_pos (show c = 101 ∨ c = 69 from .inl h1)]; rfl
      · rw [if_neg (fun h => h1 ((c101 c).1 h))]
        by_cases h2 : c = 69
        · have : ((c.toNat : Int) != 69) = false := by rw [bne_eq_false_iff_eq]; exact (c69 c).2 h2
          rw [this, if_pos (show c = 101 ∨ c = 69 from .inr h2)]; rfl
        · have : ((c.toNat : Int) != 69) = true := by rw [bne_iff_ne]; exact fun h => h2 ((c69 c).1 h)
          rw [this, if_neg (show ¬ (c = 101 ∨ c = 69) by simp [h1, h2])]; rfl
theorem ref_l0 (s : ByteArray) (hs : s.size ≤ 1000) : ∀ (d k i n p : Nat), i + d = s.size → n ≤ i → p ≤ i → 2 * d + s.size + 30 < k →
    racewayref24_Number.l0 k s (i : Int) (n : Int) (p : Int) = some (scanR (s.data.toList.drop i) n p) := by
  have hj3 : ∀ (k i n p : Nat), i ≤ s.size → s.size + 25 < k → racewayref24_Number.j3 k s (i : Int) (n : Int) (p : Int) false = some (tailR (s.data.toList.drop i) n p) := by
    intro k i n p hi hk
    obtain ⟨k, rfl⟩ : ∃ m, k = m + 1 := ⟨k - 1, by omega⟩
    simp only [racewayref24_Number.j3, Bool.false_eq_true, if_false]
    by_cases h1 : n < 1
    · rw [if_pos (by omega)]
      exact ref_j4 s hs k i n p hi (by omega) true (by simp [h1])
    · rw [if_neg (by omega)]
      by_cases h2 : 38 < n
      · rw [if_pos (by omega)]
        exact ref_j4 s hs k i n p hi (by omega) true (by simp [h2])
      · rw [if_neg (by omega)]
        exact ref_j4 s hs k i n p hi (by omega) _ (by rw [decide_eq_true_iff]; omega)
  intro d
  induction d with
  | zero =>
    intro k i n p h hn hp hk
    obtain ⟨k, rfl⟩ : ∃ m, k = m + 1 := ⟨k - 1, by omega⟩
    simp only [racewayref24_Number.l0]
    rw [if_neg (by omega), hj3 k i n p (by omega) (by omega), drop_all s i (by omega)]
    rfl
  | succ d ih =>
    intro k i n p h hn hp hk
    obtain ⟨k, rfl⟩ : ∃ m, k = m + 2 := ⟨k - 2, by omega⟩
    obtain ⟨c, hc, hb⟩ := at_drop s i (by omega)
    simp only [racewayref24_Number.l0, digit_bt, Option.bind_some]
    rw [if_pos (by omega), if_pos (show (0 : Int) ≤ (i : Int) by omega), hb, digitI_dig]
    have hj3t : racewayref24_Number.j3 (k + 1) s (i : Int) (n : Int) (p : Int) true = if c = 46 then some (scanR (s.data.toList.drop (i + 1)) n (p + 1)) else some (scanR (s.data.toList.drop (i + 1)) (n + 1) p) := by
      simp only [racewayref24_Number.j3, if_true]
      rw [if_pos (by omega), if_pos (by omega), hb, w64 (x := (i : Int) + 1) (by omega) (by omega), w64 (x := (p : Int) + 1) (by omega) (by omega), w64 (x := (n : Int) + 1) (by omega) (by omega)]
      have ha := ih k (i + 1) n (p + 1) (by omega) (by omega) (by omega) (by omega)
      have hb2 := ih k (i + 1) (n + 1) p (by omega) (by omega) (by omega) (by omega)
      rw [show (((i + 1 : Nat)) : Int) = (i : Int) + 1 by omega, show (((p + 1 : Nat)) : Int) = (p : Int) + 1 by omega] at ha
      rw [show (((i + 1 : Nat)) : Int) = (i : Int) + 1 by omega, show (((n + 1 : Nat)) : Int) = (n : Int) + 1 by omega] at hb2
      rw [ha, hb2]
      by_cases h46 : c = 46
      · rw [if_pos ((c46 c).2 h46), if_pos h46]
      · rw [if_neg (fun h => h46 ((c46 c).1 h)), if_neg h46]
    rw [hj3t]
    have hf := hj3 (k + 1) i n p (by omega) (by omega)
    rw [hc] at hf ⊢
    rw [show scanR (c :: s.data.toList.drop (i + 1)) n p = if c = 46 then scanR (s.data.toList.drop (i + 1)) n (p + 1) else if dig c = true then scanR (s.data.toList.drop (i + 1)) (n + 1) p else tailR (c :: s.data.toList.drop (i + 1)) n p from rfl]
    by_cases h46 : c = 46
    · have e : ((c.toNat : Int) == 46) = true := by rw [beq_iff_eq]; exact (c46 c).2 h46
      have hd : dig c = false := by rw [h46]; exact dig_46
      rw [e, hj3t, hd, if_pos h46, if_pos h46]; rfl
    · have e : ((c.toNat : Int) == 46) = false := by rw [beq_eq_false_iff_ne]; exact fun h => h46 ((c46 c).1 h)
      rw [e, hf, if_neg h46, if_neg h46]
      cases dig c <;> rfl
theorem ref_Number_eq (s : ByteArray) (hs : s.size ≤ 1000) (k : Nat) (hk : 4000 < k) : racewayref24_Number.f k s = some (numR s.data.toList) := by
  unfold racewayref24_Number.f numR
  obtain ⟨k, rfl⟩ : ∃ m, k = m + 2 := ⟨k - 2, by omega⟩
  have hj0f : racewayref24_Number.j0 (k + 2) s 0 false = some (scanR s.data.toList 0 0) := by
    simp only [racewayref24_Number.j0, racewayref24_Number.j1, Bool.false_eq_true, if_false]
    exact ref_l0 s hs s.size k 0 0 0 (by omega) (by omega) (by omega) (by omega)
  by_cases h0 : 0 < s.size
  · rw [if_pos (by omega)]
    obtain ⟨c, hc, hb⟩ := at_drop s 0 h0
    rw [List.drop_zero] at hc
    have hj0t : racewayref24_Number.j0 (k + 2) s 0 true = some (scanR (s.data.toList.drop 1) 0 0) := by
      simp only [racewayref24_Number.j0, racewayref24_Number.j1, if_true]
      rw [w64 (by omega) (by omega)]
      exact ref_l0 s hs (s.size - 1) k 1 0 0 (by omega) (by omega) (by omega) (by omega)
    rw [show (0 : Int) = ((0 : Nat) : Int) from rfl, hb, show ((0 : Nat) : Int) = (0 : Int) from rfl]
    by_cases h43 : c = 43
    · rw [if_pos ((c43 c).2 h43), hj0t]
      conv => rhs; rw [hc, unsign, if_pos (.inl h43)]
    · rw [if_neg (fun h => h43 ((c43 c).1 h))]
      by_cases h45 : c = 45
      · have : ((c.toNat : Int) == 45) = true := by rw [beq_iff_eq]; exact (c45 c).2 h45
        rw [this, hj0t]
        conv => rhs; rw [hc, unsign, if_pos (.inr h45)]
      · have : ((c.toNat : Int) == 45) = false := by rw [beq_eq_false_iff_ne]; exact fun h => h45 ((c45 c).1 h)
        rw [this, hj0f]
        conv => rhs; rw [hc, unsign, if_neg (by simp [h43, h45]), ← hc]
  · rw [if_neg (by omega), hj0f]
    have := drop_all s 0 (by omega)
    rw [List.drop_zero] at this
    rw [this]; rfl
end Go.Proofs.YtolpefnedpgaaaaDoor.X
