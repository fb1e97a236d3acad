/-
  A text cut at a sign: what strings.Split and the document's own loop come to; URLs and ARNs read.
-/
import Derived.Test.YtedfgkjimnjdpaaDoorExtPureNames
import Derived.Test.YtedfgkjimnjdpaaDoorExtSplit
import Derived.Lib.SplitLaws
import Derived.Test.YtedfgkjimnjdpaaDoorX
namespace Go.Proofs.YtedfgkjimnjdpaaDoor.X
open Go.RowKit Go.Proofs.YtedfgkjimnjdpaaDoorW.PrintWords Go.Proofs.YtedfgkjimnjdpaaDoorW.PrintMore
set_option linter.unusedVariables false
set_option linter.unusedSimpArgs false
/-- A list of bytes cut at each c. -/
def cs (c : UInt8) : List UInt8 → List (List UInt8)
  | [] => [[]]
  | b :: l => if b = c then [] :: cs c l else match cs c l with
    | [] => [[b]]
    | x :: r => (b :: x) :: r
theorem cs_ne (c : UInt8) : ∀ l, ∃ x r, cs c l = x :: r
  | [] => ⟨[], [], rfl⟩
  | b :: l => by
    unfold cs
    split
    · exact ⟨_, _, rfl⟩
    · obtain ⟨x, r, h⟩ := cs_ne c l
      rw [h]
      exact ⟨_, _, rfl⟩
theorem cs_cons_ne {b c : UInt8} (h : b ≠ c) {l x : List UInt8} {r : List (List UInt8)} (hl : cs c l = x :: r) : cs c (b :: l) = (b :: x) :: r := by
  rw [cs, if_neg h, hl]
theorem cs_none (c : UInt8) : ∀ l, (∀ b ∈ l, b ≠ c) → cs c l = [l]
  | [], _ => rfl
  | b :: l, h => cs_cons_ne (h b List.mem_cons_self) (cs_none c l (fun b' h' => h b' (List.mem_cons_of_mem _ h')))
theorem cs_append (c : UInt8) (y : List UInt8) : ∀ l, (∀ b ∈ l, b ≠ c) → cs c (l ++ c :: y) = l :: cs c y
  | [], _ => by simp [cs]
  | b :: l, h => by
    rw [List.cons_append]
    exact cs_cons_ne (h b List.mem_cons_self) (cs_append c y l (fun b' h' => h b' (List.mem_cons_of_mem _ h')))
theorem splitK_cs (c : UInt8) : ∀ l, Lib.splitK [c] 0 (Lib.count l [c]) l = cs c l
  | [] => by rw [Lib.count_miss (by simp [Lib.index])]; rfl
  | b :: l => by
    have ih := splitK_cs c l
    by_cases h : b = c
    · subst h
      have hix : Lib.index (b :: l) [b] = ((0 : Nat) : Int) := by rw [Lib.index]; simp [List.isPrefixOf]
      rw [Lib.count_cons_eq, Nat.add_comm, Lib.splitK, hix, if_neg (by simp)]
      simp only [cs, if_true]
      simpa using ih
    · have hp : ([c] : List UInt8).isPrefixOf (b :: l) = false := by simp [List.isPrefixOf, Ne.symm h]
      have hix : Lib.index (b :: l) [c] = if Lib.index l [c] == -1 then -1 else Lib.index l [c] + 1 := by rw [Lib.index, hp]; simp
      rw [Lib.count_cons_ne b c l h]
      by_cases hm : Lib.index l [c] = -1
      · rw [Lib.count_miss hm] at ih ⊢
        rw [Lib.splitK] at ih ⊢
        exact (cs_cons_ne h ih.symm).symm
      · have hge := Lib.index_ge l [c]
        obtain ⟨j, hj⟩ : ∃ j : Nat, Lib.index l [c] = j := ⟨(Lib.index l [c]).toNat, by omega⟩
        rw [Lib.count_hit (by simp) hj, Nat.add_comm, Lib.splitK, hj, if_neg (fun e => by have := beq_iff_eq.1 e; omega)] at ih
        rw [Lib.count_hit (by simp) hj, Nat.add_comm 1, Lib.splitK, hix, if_neg (fun e => hm (beq_iff_eq.1 e)), hj, if_neg (fun e => by have := beq_iff_eq.1 e; omega)]
        rw [cs_cons_ne h ih.symm]
        rw [show ((j : Int) + 1).toNat = j + 1 by omega, show ((j : Int)).toNat = j by omega]
        simp [Nat.add_right_comm]
theorem bytes_ext {a b : ByteArray} (h : a.data.toList = b.data.toList) : a = b := by
  obtain ⟨⟨x⟩⟩ := a
  obtain ⟨⟨y⟩⟩ := b
  simp only at h
  subst h
  rfl
theorem splitB_cs (s : ByteArray) (c : UInt8) : (Lib.splitB ⟨#[c]⟩ 0 (Lib.countB s ⟨#[c]⟩) s).map (·.data.toList) = cs c s.data.toList := by
  rw [Lib.splitB_data]
  exact splitK_cs c s.data.toList
theorem list_data_inj : ∀ {a b : List ByteArray}, a.map (·.data.toList) = b.map (·.data.toList) → a = b
  | [], [], _ => rfl
  | [], _ :: _, h => by simp at h
  | _ :: _, [], h => by simp at h
  | x :: a, y :: b, h => by
    simp only [List.map_cons, List.cons.injEq] at h
    rw [bytes_ext h.1, list_data_inj h.2]
/-- Three parts that may be. -/
def goodB (L : List ByteArray) : Option (ByteArray × ByteArray × ByteArray) := match L with
  | [x, y, z] => if hostB x && accountB y && queueB z then some (x, y, z) else none
  | _ => none
def hasB (p s : ByteArray) : Bool := decide (p.size ≤ s.size) && ((s.extract 0 p.size).toList == p.toList)
def restB (p s : ByteArray) : ByteArray := if hasB p s = true then s.extract p.size s.size else s
/-- A text's parts behind a beginning. -/
def partsB (p : ByteArray) (c : UInt8) (s : ByteArray) : Option (ByteArray × ByteArray × ByteArray) :=
  if hasB p s = true then goodB (Lib.splitB ⟨#[c]⟩ 0 (Lib.countB (restB p s) ⟨#[c]⟩) (restB p s)) else none
theorem cutPrefix_eq (s p : ByteArray) (hs : s.size ≤ 4611686018427387904) : strings_CutPrefix.f s p = some (restB p s, hasB p s) := by
  unfold strings_CutPrefix.f stringslite_CutPrefix.f stringslite_HasPrefix.f restB hasB
  by_cases h : p.size ≤ s.size
  · rw [if_pos (by omega), if_pos (by omega), if_pos (by omega), decide_eq_true h]
    simp only [Option.bind_some, Bool.true_and, Int.toNat_natCast]
    cases hb : ((s.extract 0 p.size).toList == p.toList)
    · simp
    · simp only [if_true]
      rw [if_pos (by omega), if_pos (by omega)]
      rfl
  · rw [if_neg (by omega), decide_eq_false h]
    simp
theorem three_j0 (L : List ByteArray) (hL : ∀ x ∈ L, x.size ≤ 4611686018427387904) (k : Nat) (h0 : 0 < k) (hk : ∀ x ∈ L, x.size + 3 < k) (b : Bool) (hb : b = false → L.length = 3) :
    ∃ h a q g, ticket_three.j0 k L b = some (h, a, q, g) ∧ (if g = true then some (h, a, q) else none) = (if b = true then none else goodB L) := by
  obtain ⟨k, rfl⟩ : ∃ m, k = m + 1 := ⟨k - 1, by omega⟩
  simp only [ticket_three.j0]
  cases b with
  | true => exact ⟨_, _, _, _, rfl, by simp⟩
  | false =>
    have h3 := hb rfl
    match L, h3 with
    | [x, y, z], _ =>
      have hx := hk x (by simp)
      have hy := hk y (by simp)
      have hz := hk z (by simp)
      simp only [Bool.false_eq_true, if_false]
      rw [if_pos (by simp), if_pos (by simp), if_pos (by simp)]
      have e0 : rdOf ByteArray.empty [x, y, z] 0 = x := rfl
      have e1 : rdOf ByteArray.empty [x, y, z] 1 = y := rfl
      have e2 : rdOf ByteArray.empty [x, y, z] 2 = z := rfl
      rw [e0, e1, e2, ticket_host_eq x (hL x (by simp)) k (by omega), ticket_account_eq y (hL y (by simp)) k (by omega), ticket_Queue_eq z (hL z (by simp)) k (by omega)]
      simp only [Option.bind_some, goodB]
      refine ⟨x, y, z, hostB x && accountB y && queueB z, ?_, ?_⟩
      · cases hostB x <;> cases accountB y <;> cases queueB z <;> rfl
      · cases hostB x <;> cases accountB y <;> cases queueB z <;> rfl
theorem splitB_sizes (sep : ByteArray) (n : Nat) : ∀ (s : ByteArray) (x : ByteArray), x ∈ Lib.splitB sep 0 n s → x.size ≤ s.size := by
  induction n with
  | zero => intro s x h; simp [Lib.splitB] at h; subst h; exact Nat.le_refl _
  | succ n ih =>
    intro s x h
    unfold Lib.splitB at h
    split at h
    · simp at h; subst h; exact Nat.le_refl _
    · rcases List.mem_cons.1 h with h | h
      · subst h; rw [ByteArray.size_extract]; omega
      · have := ih _ x h
        rw [ByteArray.size_extract] at this
        omega
theorem restB_size (p s : ByteArray) : (restB p s).size ≤ s.size := by
  unfold restB
  split
  · rw [ByteArray.size_extract]; omega
  · exact Nat.le_refl _
theorem three_eq (s p : ByteArray) (c : UInt8) (hs : s.size ≤ 100000) (k : Nat) (hk : s.size + 4 < k) :
    ∃ h a q g, ticket_three.f k s p ⟨#[c]⟩ = some (h, a, q, g) ∧ (if g = true then some (h, a, q) else none) = partsB p c s := by
  unfold ticket_three.f
  rw [cutPrefix_eq s p (by omega)]
  simp only [Option.bind_some]
  have hr := restB_size p s
  unfold strings_Split.f
  rw [if_pos ⟨by omega, by simp [ByteArray.size]⟩]
  simp only [Option.bind_some]
  have hz := splitB_sizes ⟨#[c]⟩ (Lib.countB (restB p s) ⟨#[c]⟩) (restB p s)
  unfold partsB
  generalize Lib.splitB ⟨#[c]⟩ 0 (Lib.countB (restB p s) ⟨#[c]⟩) (restB p s) = L at hz ⊢
  cases hp : hasB p s with
  | false =>
    simp only [Bool.false_eq_true, if_false]
    have := three_j0 L (fun x hx => by have := hz x hx; omega) k (by omega) (fun x hx => by have := hz x hx; omega) true (by simp)
    simpa using this
  | true =>
    simp only [if_true]
    by_cases h3 : L.length = 3
    · have := three_j0 L (fun x hx => by have := hz x hx; omega) k (by omega) (fun x hx => by have := hz x hx; omega) ((L.length : Int) != 3) (fun _ => h3)
      simpa [h3] using this
    · have := three_j0 L (fun x hx => by have := hz x hx; omega) k (by omega) (fun x hx => by have := hz x hx; omega) ((L.length : Int) != 3) (fun h => by simp at h; omega)
      have e : ((L.length : Int) != 3) = true := by simp; omega
      rw [e] at this ⊢
      have hg : goodB L = none := by
        unfold goodB
        split
        · rename_i x y z; simp at h3
        · rfl
      rw [hg]
      simpa using this
/-- What is told of a text's parts. -/
def toldB (o : Option (ByteArray × ByteArray × ByteArray)) : ByteArray × ByteArray × ByteArray × Int := match o with
  | some (x, y, z) => (x, y, z, 0)
  | none => (⟨#[]⟩, ⟨#[]⟩, ⟨#[]⟩, 5)
theorem fromUrl_eq (s : ByteArray) (hs : s.size ≤ 100000) (k : Nat) (hk : s.size + 4 < k) : ticket_FromUrl.f k s = some (toldB (partsB ⟨#[104, 116, 116, 112, 115, 58, 47, 47]⟩ 47 s)) := by
  unfold ticket_FromUrl.f
  obtain ⟨h, a, q, g, e, e2⟩ := three_eq s ⟨#[104, 116, 116, 112, 115, 58, 47, 47]⟩ 47 hs k hk
  rw [e, ← e2]
  cases g <;> simp [toldB]
theorem fromArn_eq (s : ByteArray) (hs : s.size ≤ 100000) (k : Nat) (hk : s.size + 4 < k) : ticket_FromArn.f k s = some (toldB (partsB ⟨#[97, 114, 110, 58, 97, 119, 115, 58, 115, 113, 115, 58]⟩ 58 s)) := by
  unfold ticket_FromArn.f
  obtain ⟨h, a, q, g, e, e2⟩ := three_eq s ⟨#[97, 114, 110, 58, 97, 119, 115, 58, 115, 113, 115, 58]⟩ 58 hs k hk
  rw [e, ← e2]
  cases g <;> simp [toldB]
/-- The last one goes on. -/
def joinL (p : List (List UInt8)) (z : List UInt8) (r : List (List UInt8)) : List (List UInt8) := match r with
  | [] => p ++ [z]
  | x :: r => p ++ (z ++ x) :: r
def finB (L : List ByteArray) : List ByteArray × Int := match goodB L with
  | some _ => (L, 0)
  | none => ([], 5)
theorem take_fin (L : List ByteArray) (hL : ∀ x ∈ L, x.size ≤ 4611686018427387904) (k : Nat) (hk : ∀ x ∈ L, x.size + 3 < k) :
    (if (L.length : Int) = 3 then (if 0 < (L.length : Int) then ((racewayref27_host.f k (rdOf ByteArray.empty L 0)).bind fun t177 => (if t177 = true then (if 1 < (L.length : Int) then ((racewayref27_account.f k (rdOf ByteArray.empty L 1)).bind fun t179 => (if t179 = true then (if 2 < (L.length : Int) then ((racewayref27_Queue.f k (rdOf ByteArray.empty L 2)).bind fun t181 => (if t181 = true then (some (L, 0)) else (some (([] : List ByteArray), 5)))) else (none)) else (some (([] : List ByteArray), 5)))) else (none)) else (some (([] : List ByteArray), 5)))) else (none)) else (some (([] : List ByteArray), 5)) : Option (List ByteArray × Int)) = some (finB L) := by
  by_cases h3 : L.length = 3
  · match L, h3 with
    | [x, y, z], _ =>
      have hx := hk x (by simp)
      have hy := hk y (by simp)
      have hz := hk z (by simp)
      have e0 : rdOf ByteArray.empty [x, y, z] 0 = x := rfl
      have e1 : rdOf ByteArray.empty [x, y, z] 1 = y := rfl
      have e2 : rdOf ByteArray.empty [x, y, z] 2 = z := rfl
      rw [if_pos (by simp), if_pos (by simp), e0, e1, e2, ref_host_eq x (hL x (by simp)) k (by omega), ref_account_eq y (hL y (by simp)) k (by omega), ref_Queue_eq z (hL z (by simp)) k (by omega)]
      simp only [Option.bind_some, finB, goodB]
      cases hostB x <;> cases accountB y <;> cases queueB z <;> simp
  · rw [if_neg (by omega)]
    unfold finB goodB
    split
    · rename_i h
      split at h
      · simp at h3
      · cases h
    · rfl
theorem drop_cons_bt (s : ByteArray) (i : Nat) (h : i < s.size) : s.data.toList.drop i = (s[i]'h) :: s.data.toList.drop (i + 1) := by
  have h' : i < s.data.toList.length := by simpa using h
  have h2 := List.drop_eq_getElem_cons h'
  have h3 : s.data.toList[i]'h' = s[i]'h := rfl
  rw [h3] at h2
  exact h2
theorem extract_one (s : ByteArray) (i : Nat) (h : i < s.size) : (s.extract i (i + 1)).data.toList = [s[i]'h] := by
  have h' : i < s.data.toList.length := by simpa using h
  rw [ByteArray.data_extract, Array.toList_extract]
  simp only [List.extract]
  rw [drop_cons_bt s i h]
  simp
theorem take_l0 (c : UInt8) (s : ByteArray) (hs : s.size ≤ 100000) (d : Nat) : ∀ (k i : Nat) (P : List ByteArray) (z : ByteArray), i + d = s.size → P.length ≤ i → z.size ≤ i → (∀ x ∈ P, x.size ≤ i) → s.size + d + 4 < k →
    ∃ L : List ByteArray, racewayref27_Take.l0 k (c.toNat : Int) s (P ++ [z]) (i : Int) = some (finB L) ∧ L.map (·.data.toList) = joinL (P.map (·.data.toList)) z.data.toList (cs c (s.data.toList.drop i)) := by
  induction d with
  | zero =>
    intro k i P z hi hP hz hx hk
    obtain ⟨k, rfl⟩ : ∃ m, k = m + 1 := ⟨k - 1, by omega⟩
    refine ⟨P ++ [z], ?_, ?_⟩
    · simp only [racewayref27_Take.l0]
      rw [if_neg (by omega)]
      exact take_fin (P ++ [z]) (fun x h => by rcases List.mem_append.1 h with h | h; exact (by have := hx x h; omega); simp at h; subst h; omega) k (fun x h => by rcases List.mem_append.1 h with h | h; exact (by have := hx x h; omega); simp at h; subst h; omega)
    · rw [List.drop_eq_nil_of_le (by simp; omega)]
      simp [cs, joinL]
  | succ d ih =>
    intro k i P z hi hP hz hx hk
    obtain ⟨k, rfl⟩ : ∃ m, k = m + 1 := ⟨k - 1, by omega⟩
    have hlt : i < s.size := by omega
    simp only [racewayref27_Take.l0]
    rw [if_pos (by omega), if_pos (by omega), q_bt s i hlt, drop_cons_bt s i hlt]
    by_cases hc : s[i]'hlt = c
    · rw [if_pos (by rw [hc]), if_pos (by simp; omega), w64 (by omega) (by omega), show ((i : Int) + 1) = ((i + 1 : Nat) : Int) by omega]
      obtain ⟨L, h1, h2⟩ := ih k (i + 1) (P ++ [z]) ⟨#[]⟩ (by omega) (by simp; omega) (by simp [ByteArray.size]) (fun x h => by rcases List.mem_append.1 h with h | h; exact (by have := hx x h; omega); simp at h; subst h; omega) (by omega)
      refine ⟨L, h1, ?_⟩
      rw [h2, cs, if_pos hc]
      obtain ⟨x, r, e⟩ := cs_ne c (s.data.toList.drop (i + 1))
      rw [e]
      simp [joinL]
    · have hne : ¬ ((s[i]'hlt).toNat : Int) = (c.toNat : Int) := fun e => hc (UInt8.toNat.inj (by omega))
      have hlen : ((P ++ [z]).length : Int) - 1 = (P.length : Int) := by simp
      rw [if_neg hne, hlen, w64 (by omega) (by omega), w64 (by omega) (by omega), if_pos (by omega), if_pos (by rw [List.length_append]; simp; omega), if_pos (by omega), if_pos (by omega)]
      have hrd : rdOf ByteArray.empty (P ++ [z]) (P.length : Int) = z := by simp [rdOf]
      have hset : (P ++ [z]).set (P.length : Int).toNat (z ++ s.extract (i : Int).toNat ((i : Int) + 1).toNat) = P ++ [z ++ s.extract i (i + 1)] := by
        rw [show ((i : Int) + 1).toNat = i + 1 by omega]
        simp
      have hez : (s.extract i (i + 1)).size = 1 := by rw [ByteArray.size_extract]; omega
      rw [hrd, hset, show ((i : Int) + 1).toNat = i + 1 by omega, show ((i : Int)).toNat = i by omega, if_pos (by omega), show ((i : Int) + 1) = ((i + 1 : Nat) : Int) by omega]
      obtain ⟨L, h1, h2⟩ := ih k (i + 1) P (z ++ s.extract i (i + 1)) (by omega) (by omega) (by rw [size_append]; omega) (fun x h => by have := hx x h; omega) (by omega)
      refine ⟨L, h1, ?_⟩
      obtain ⟨x, r, e⟩ := cs_ne c (s.data.toList.drop (i + 1))
      rw [h2, cs_cons_ne hc e, e]
      have hd : (z ++ s.extract i (i + 1)).data.toList = z.data.toList ++ [s[i]'hlt] := by
        rw [ByteArray.data_append, Array.toList_append, extract_one s i hlt]
      rw [hd]
      simp only [joinL]
      rw [List.append_assoc, List.singleton_append]
theorem take_eq (p : ByteArray) (c : UInt8) (s : ByteArray) (hs : s.size ≤ 100000) (k : Nat) (hk : s.size + s.size + 6 < k) :
    racewayref27_Take.f k p (c.toNat : Int) s = some (match partsB p c s with | some (x, y, z) => ([x, y, z], 0) | none => ([], 5)) := by
  obtain ⟨k, rfl⟩ : ∃ m, k = m + 1 := ⟨k - 1, by omega⟩
  unfold racewayref27_Take.f partsB
  simp only [racewayref27_Take.j0]
  cases hp : hasB p s with
  | false =>
    simp only [Bool.false_eq_true, if_false]
    unfold hasB at hp
    by_cases h : p.size ≤ s.size
    · rw [if_neg (by omega), if_pos (by omega), if_pos (by omega)]
      rw [decide_eq_true h, Bool.true_and] at hp
      have : ((s.extract 0 ((p.size : Int)).toNat).toList != p.toList) = true := by
        rw [Int.toNat_natCast]
        simpa using hp
      rw [if_pos this]
    · rw [if_pos (by omega)]
      simp
  | true =>
    simp only [if_true]
    have hp' := hp
    unfold hasB at hp
    rw [Bool.and_eq_true, decide_eq_true_iff] at hp
    rw [if_neg (by omega), if_pos (by omega), if_pos (by omega)]
    have : ((s.extract 0 ((p.size : Int)).toNat).toList != p.toList) = false := by
      rw [Int.toNat_natCast]
      simpa using hp.2
    rw [this]
    simp only [Bool.false_eq_true, if_false]
    obtain ⟨L, h1, h2⟩ := take_l0 c s hs (s.size - p.size) k p.size [] ⟨#[]⟩ (by omega) (Nat.zero_le _) (Nat.zero_le _) (fun x h => by cases h) (by omega)
    rw [List.nil_append] at h1
    rw [h1]
    have hr : restB p s = s.extract p.size s.size := by unfold restB; rw [if_pos hp']
    have hL : L = Lib.splitB ⟨#[c]⟩ 0 (Lib.countB (restB p s) ⟨#[c]⟩) (restB p s) := by
      apply list_data_inj
      rw [splitB_cs, h2, hr, Lib.extract_to_end]
      obtain ⟨x, r, e⟩ := cs_ne c (s.data.toList.drop p.size)
      rw [e]
      simp [joinL]
    rw [← hL]
    unfold finB
    cases hg : goodB L with
    | none => rfl
    | some v =>
      obtain ⟨x, y, z⟩ := v
      have : L = [x, y, z] := by
        unfold goodB at hg
        split at hg
        · split at hg
          · cases hg; rfl
          · cases hg
        · cases hg
      rw [this]
end Go.Proofs.YtedfgkjimnjdpaaDoor.X
