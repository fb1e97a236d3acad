/-
  What the claim's law rests on, part 5 of 5: printed walks, externals, plain lemmas; conditions: none of its own.
-/
import Derived.ChangeSame
import Derived.Deep.Slices
import Derived.Handed
import Derived.HandedShaped
import Derived.LaidSub
import Derived.Lib.LaidTab
import Derived.ShapedOpen
import Derived.SliceStrings
import Derived.Test.YtolpefnedpgaaaaDoorCm4
namespace Go.Proofs.YtolpefnedpgaaaaDoor.X
open Go.RowKit Go.Proofs.YtolpefnedpgaaaaDoorW.PrintWords Go.Proofs.YtolpefnedpgaaaaDoorW.PrintMore
set_option linter.unusedVariables false
set_option linter.unusedSimpArgs false
theorem hexL_length : ∀ l : List Int, (hexL l).length = 2 * l.length
  | [] => rfl
  | x :: l => by
    have := hexL_length l
    unfold hexL at this ⊢
    simp only [List.flatMap_cons, List.length_append, this, List.length_cons, List.length_nil]
    omega
theorem outL_length : ∀ l : List Int, (outL l).length = 4 * l.length
  | [] => rfl
  | x :: l => by
    have := outL_length l
    unfold outL at this ⊢
    simp only [List.flatMap_cons, List.length_append, this, List.length_cons, List.length_nil]
    omega
theorem sum_length {s : Fp} (h : s.Ok) : s.sum.length = 16 := by
  unfold Fp.sum
  rw [outL_length]
  have : s.fin.Ok := by unfold Fp.fin; exact Fp.bytes_ok (Fp.bytes_ok (Fp.byte_ok h _) _) _
  rw [this.1]
theorem strOfNums_size (l : List Int) : (strOfNums l).size = l.length := by
  unfold strOfNums
  show Array.size _ = _
  simp
theorem sum_one (k : Nat) (x : S33) (hx : small33 x) (hk : x.f1.size + 13 < k) : ∃ r, attribute_Sum.f k [x] = some r ∧ r.size = 32 := by
  unfold attribute_Sum.f
  rw [if_neg (by simp), if_pos (by simp), show sortA [x] = [x] from rfl]
  unfold sumAll sumStep
  rw [if_pos hx, Type_eq x.f1 (by have := hx.2.1; omega) k hk]
  refine ⟨_, rfl, ?_⟩
  rw [strOfNums_size, hexL_length, sum_length]
  exact Fp.text_ok (Fp.bytes_ok (Fp.text_ok (Fp.text_ok fp0_ok _) _) _) _
theorem works_eq (k : Nat) (hk : 4000 < k) : racewaylaw24_works.f k = some true := by
  unfold racewaylaw24_works.f
  rw [Type_eq _ (by decide) k (by show 10 + 13 < k; omega), Name_eq _ (by decide) k (by show 3 + 20 < k; omega), Name_eq _ (by decide) k (by show 4 + 20 < k; omega), Name_eq _ (by decide) k (by show 5 + 20 < k; omega), Number_eq _ (by decide) k (by omega)]
  obtain ⟨r, h1, h2⟩ := sum_one k ⟨⟨#[97]⟩, ⟨#[83, 116, 114, 105, 110, 103]⟩, ⟨#[120]⟩⟩ (by decide) (by show 6 + 13 < k; omega)
  rw [h1]
  rw [show typeF ⟨#[78, 117, 109, 98, 101, 114, 46, 105, 110, 116]⟩ kindsL 3 0 = (2, true) by decide +kernel]
  rw [show nameB ⟨#[97, 46, 98]⟩ = true by decide +kernel, show nameB ⟨#[97, 46, 46, 98]⟩ = false by decide +kernel, show nameB ⟨#[65, 87, 83, 46, 120]⟩ = false by decide +kernel]
  rw [show numA (⟨#[45, 49, 46, 53, 101, 51]⟩ : ByteArray).data.toList = true by decide +kernel]
  simp only [Option.bind_some, if_true, Bool.false_eq_true, if_false]
  rw [h2]
  rfl
end Go.Proofs.YtolpefnedpgaaaaDoor.X

namespace Go.Proofs.YtolpefnedpgaaaaDoor.X
open Go.RowKit Go.Proofs.YtolpefnedpgaaaaDoorW.PrintWords Go.Proofs.YtolpefnedpgaaaaDoorW.PrintMore
set_option linter.unusedVariables false
set_option linter.unusedSimpArgs false
theorem getD_take (L : List S33) (n i : Nat) (hi : i < n) : (L.take n).getD i z33 = L.getD i z33 := by
  simp only [List.getD]
  rw [List.getElem?_take_of_lt hi]
theorem whyB_take (L : List S33) (n i : Nat) (hi : i < n) : whyB (L.take n) i = whyB L i := by
  unfold whyB
  rw [getD_take L n i hi, List.take_take, Nat.min_eq_left (by omega)]
theorem chkD_zero (L : List S33) : ∀ d i, (∀ j, i ≤ j → j < i + d → whyB L j = 0) → chkD L d i = (0, 0)
  | 0, _, _ => rfl
  | d + 1, i, h => by
    rw [chkD, if_pos (h i (by omega) (by omega))]
    exact chkD_zero L d (i + 1) (fun j h1 h2 => h j (by omega) (by omega))
theorem chkD_first (L : List S33) (j : Nat) (hj : whyB L j ≠ 0) : ∀ d i, i ≤ j → j < i + d → (∀ m, i ≤ m → m < j → whyB L m = 0) → chkD L d i = ((j : Int), whyB L j)
  | 0, _, h1, h2, _ => by omega
  | d + 1, i, h1, h2, h => by
    rw [chkD]
    by_cases e : i = j
    · subst e
      rw [if_neg hj]
    · rw [if_pos (h i (by omega) (by omega))]
      exact chkD_first L j hj d (i + 1) (by omega) (by omega) (fun m h3 h4 => h m (by omega) h4)
theorem chkD_cases (L : List S33) : ∀ d i, (∀ j, i ≤ j → j < i + d → whyB L j = 0) ∨ ∃ j, i ≤ j ∧ j < i + d ∧ (∀ m, i ≤ m → m < j → whyB L m = 0) ∧ whyB L j ≠ 0
  | 0, _ => .inl fun j h1 h2 => by omega
  | d + 1, i => by
    by_cases h0 : whyB L i = 0
    · rcases chkD_cases L d (i + 1) with h | ⟨j, h1, h2, h3, h4⟩
      · refine .inl fun j h1 h2 => ?_
        by_cases e : j = i
        · rw [e]; exact h0
        · exact h j (by omega) (by omega)
      · refine .inr ⟨j, by omega, by omega, fun m h5 h6 => ?_, h4⟩
        by_cases e : m = i
        · rw [e]; exact h0
        · exact h3 m (by omega) h6
    · exact .inr ⟨i, Nat.le_refl _, by omega, fun m h1 h2 => by omega, h0⟩
theorem whyB_ne7 (L : List S33) (i : Nat) : whyB L i ≠ 7 := by
  unfold whyB
  repeat (first | split | decide)
theorem small_take {L : List S33} (h : small L) (n : Nat) : small (L.take n) :=
  ⟨by rw [List.length_take]; have := h.1; omega, fun x hx => h.2 x (List.mem_of_mem_take hx)⟩
theorem whyB_zero {L : List S33} {i : Nat} (h : whyB L i = 0) : nameB (L.getD i z33).f0 = true ∧ (L.take i).any (named (L.getD i z33).f0) = false ∧ (typeF (L.getD i z33).f1 kindsL 3 0).2 = true ∧ ¬ ((L.getD i z33).f2.size : Int) < 1 := by
  unfold whyB at h
  refine ⟨?_, ?_, ?_, ?_⟩
  · cases hn : nameB (L.getD i z33).f0
    · rw [hn] at h; simp at h
    · rfl
  · cases hd : (L.take i).any (named (L.getD i z33).f0)
    · rfl
    · rw [hd] at h
      split at h <;> simp at h
  · cases ht : (typeF (L.getD i z33).f1 kindsL 3 0).2
    · rw [ht] at h
      repeat (split at h <;> try simp at h)
    · rfl
  · intro hlt
    rw [if_pos hlt] at h
    repeat (split at h <;> try simp at h)
/-- The three ways. -/
theorem may_ways (L : List S33) (hL : small L) : (L.length > 10 ∧ chkB L = (0, 7)) ∨
    (L.length ≤ 10 ∧ chkB L = (0, 0) ∧ (∀ i, i < L.length → whyB L i = 0) ∧ ∀ n, n ≤ L.length → chkB (L.take n) = (0, 0)) ∨
    (L.length ≤ 10 ∧ ∃ (j : Nat) (e : Int), j < L.length ∧ e ≠ 0 ∧ e ≠ 7 ∧ chkB L = ((j : Int), e) ∧ chkB (L.take j) = (0, 0) ∧ chkB (L.take (j + 1)) = ((j : Int), e)) := by
  by_cases h10 : L.length > 10
  · exact .inl ⟨h10, by unfold chkB; rw [if_pos h10]⟩
  · right
    have hz : ∀ n, n ≤ L.length → (∀ i, i < n → whyB L i = 0) → chkB (L.take n) = (0, 0) := by
      intro n hn h
      unfold chkB
      have hlen : (L.take n).length = n := by simp; omega
      rw [if_neg (by omega), hlen]
      exact chkD_zero _ _ _ (fun j _ h2 => by rw [whyB_take L n j (by omega)]; exact h j (by omega))
    have hfirst : ∀ n j, n ≤ L.length → j < n → whyB L j ≠ 0 → (∀ m, m < j → whyB L m = 0) → chkB (L.take n) = ((j : Int), whyB L j) := by
      intro n j hn hj hne h
      unfold chkB
      have hlen : (L.take n).length = n := by simp; omega
      rw [if_neg (by omega), hlen, chkD_first (L.take n) j (by rw [whyB_take L n j hj]; exact hne) n 0 (by omega) (by omega) (fun m _ h2 => by rw [whyB_take L n m (by omega)]; exact h m h2), whyB_take L n j hj]
    rcases chkD_cases L L.length 0 with h | ⟨j, _, h2, h3, h4⟩
    · left
      have hall : ∀ i, i < L.length → whyB L i = 0 := fun i hi => h i (by omega) (by omega)
      refine ⟨by omega, ?_, hall, fun n hn => hz n hn (fun i hi => hall i (by omega))⟩
      have := hz L.length (Nat.le_refl _) hall
      rwa [List.take_length] at this
    · right
      refine ⟨by omega, j, whyB L j, by omega, h4, whyB_ne7 L j, ?_, hz j (by omega) (fun i hi => h3 i (by omega) hi), hfirst (j + 1) j (by omega) (by omega) h4 (fun m hm => h3 m (by omega) hm)⟩
      have := hfirst L.length j (Nat.le_refl _) (by omega) h4 (fun m hm => h3 m (by omega) hm)
      rwa [List.take_length] at this
end Go.Proofs.YtolpefnedpgaaaaDoor.X

namespace Go.Proofs.YtolpefnedpgaaaaDoor.X
open Go.RowKit Go.Proofs.YtolpefnedpgaaaaDoorW.PrintWords Go.Proofs.YtolpefnedpgaaaaDoorW.PrintLast Go.Proofs.YtolpefnedpgaaaaDoorW.PrintMore
set_option linter.unusedVariables false
set_option linter.unusedSimpArgs false
/-- What holds behind few. -/
structure MayW (w wr : World) (A : Option Addr) (c : Nat) (L : List S33) : Prop where
  R : Kd.R k33 33 wr w.heap.size (fun _ => True) (.slice A L.length c) L
  F : GlobFp wr
  M : GlobMax wr
  B : Below w.heap.size w wr
theorem MayW.below {w wr wr' : World} {A : Option Addr} {c : Nat} {L : List S33} (h : MayW w wr A c L) (hb : Below wr.heap.size wr wr') : MayW w wr' A c L :=
  ⟨Kd.R_below h.R hb, h.F.below hb, h.M.below hb, below_step h.B hb⟩
theorem MayW.C {w wr : World} {A : Option Addr} {c : Nat} {L : List S33} (h : MayW w wr A c L) : Kd.C k33 wr A L.length L := (Kd.R_reads' h.R).2.2
theorem MayW.c {w wr : World} {A : Option Addr} {c : Nat} {L : List S33} (h : MayW w wr A c L) : L.length ≤ c := (Kd.R_reads' h.R).2.1
theorem C_take {w : World} {A : Option Addr} {L : List S33} (h : Kd.C k33 w A L.length L) (n : Nat) (hn : n ≤ L.length) : Kd.C k33 w A (L.take n).length (L.take n) := by
  have hlen : (L.take n).length = n := by simp; omega
  refine ⟨rfl, by rw [hlen]; have := h.2.1; omega, fun h0 => ?_⟩
  rw [hlen] at h0
  obtain ⟨ad, e, hc⟩ := h.2.2 (by omega)
  refine ⟨ad, e, fun j p hj => hc j p ?_⟩
  have hjn : j < n := by have := (List.getElem?_eq_some_iff.1 hj).1; omega
  rwa [List.getElem?_take_of_lt hjn] at hj
theorem MayW.check {w wr : World} {A : Option Addr} {c : Nat} {L : List S33} (h : MayW w wr A c L) (hL : small L) (n : Nat) (hn : n ≤ L.length) (r1 r2 : Int) (hr : chkB (L.take n) = (r1, r2)) :
    Calls Tryd.prog 23 #[.slice A n c] wr fun e w' => e = .returned (.tuple #[.int .i64 r1, .int .i64 r2]) ∧ Below wr.heap.size wr w' := by
  have hlen : (L.take n).length = n := by simp; omega
  have := attribute_Check.calls 8000 A c (L.take n) r1 r2 wr h.M (C_take h.C n hn) (by have := h.c; omega) (by rw [Check_eq _ (small_take hL n) 8000 (by omega), hr])
  rwa [hlen] at this
theorem MayW.works {w wr : World} {A : Option Addr} {c : Nat} {L : List S33} (h : MayW w wr A c L) :
    Calls Tryd.prog 16 #[] wr fun e w' => e = .returned (.bool true) ∧ Below wr.heap.size wr w' :=
  racewaylaw24_works.calls 8000 true wr h.F h.M (works_eq 8000 (by omega))
def racewaylaw24_AttributeMay.f (k : Nat) (l : List S33) (a : Int) : Option Bool := if -9223372036854775808 ≤ a ∧ a ≤ 9223372036854775807 then some true else none
set_option maxHeartbeats 8000000 in
set_option maxRecDepth 100000 in
theorem racewaylaw24_AttributeMay.calls (k : Nat) (A0 : Option Addr) (c0 : Nat) (l0 : List S33) (a1 : Int) (r : Bool) (w : World) (hGFp : GlobFp w) (hGMax : GlobMax w) (hr0 : Kd.C k33 w A0 l0.length l0) (hc0 : l0.length ≤ c0) (h : racewaylaw24_AttributeMay.f k l0 a1 = some r) :
    Calls Tryd.prog 6 #[.slice A0 l0.length c0, .int .i64 a1] w fun e w' => e = .returned (.bool r) ∧ Below w.heap.size w w' := by
  unfold racewaylaw24_AttributeMay.f at h
  split at h
  · rename_i hrange
    obtain rfl : true = r := by simpa using h
    clear h
    have HF := Lib.hid hGFp
    have HM := Lib.hid hGMax
    have HR := Lib.hid hr0
    have HC := Lib.hid hc0
    have HA := Lib.hid hrange
    clear hGFp hGMax hr0 hc0 hrange
    go_enter Tryd.func6, Tryd.ntmps6
    go_upto_region 2 with (go_at_call 17; refine (racewaylaw24_few.calls 8000 A0 c0 l0 (fewB l0) _ HR.out HC.out (few_eq l0 8000 (by omega))).mono ?_; rintro e w1 ⟨v1, rfl, ho1, hb1⟩; obtain ⟨A1, c1, rfl⟩ := Kd.R_slice ho1)
    have hL := fewB_small l0
    generalize fewB l0 = L at hL ho1
    have HL := Lib.hid hL
    have h14 : Hid (L.length ≤ 14) := Lib.hid hL.1
    have HW := Lib.hid (show MayW w w1 A1 c1 L from ⟨ho1, HF.out.below hb1, HM.out.below hb1, hb1⟩)
    have hways := may_ways L hL
    clear hL ho1 hb1 HR HC HF HM
    rcases hways with ⟨h10, hchk⟩ | ⟨h10, hchk, hz, hpre⟩ | ⟨h10, j, e, hj, he0, he7, hchk, hpre0, hpre1⟩
    · have hd10 : decide ((10 : Int) < (L.length : Int)) = true := decide_eq_true (by omega)
      go_wp2_with (first
        | (go_at_call 23; refine ((HW.out.check HL.out L.length (Nat.le_refl _) 0 7 (by rw [List.take_length]; exact hchk))).mono ?_; rintro e w2 ⟨rfl, hb2⟩; have HW2 := Lib.hid (HW.out.below hb2); clear hb2)
        | (go_at_call 16; refine (HW2.out.works).mono ?_; rintro e w3 ⟨rfl, hb3⟩))
      go_ret
      exact ⟨rfl, (HW2.out.below hb3).B⟩
    · have HCH := Lib.hid hchk
      have HZ := Lib.hid hz
      have HP := Lib.hid hpre
      have hd10 : decide ((L.length : Int) ≤ 10) = true := decide_eq_true (by omega)
      clear hchk hz hpre
      go_upto_region 9 with (go_at_call 23; refine ((HW.out.check HL.out L.length (Nat.le_refl _) 0 0 (by rw [List.take_length]; exact HCH.out))).mono ?_; rintro e2 w2 ⟨rfl, hb2⟩)
      have HW2 := Lib.hid (HW.out.below hb2)
      clear hb2
      go_wp2
      go_loopw [68] (fun i wr => ∃ n : Nat, i = .int .i64 n ∧ n ≤ L.length ∧ Hid (MayW w wr A1 c1 L)) (fun i _ => (L.length - intOf i).toNat)
      case atStart => exact ⟨0, rfl, Nat.zero_le _, HW2⟩
      case round =>
        clear HW2 HW
        obtain ⟨n, rfl, hn, HWr⟩ := hrel
        by_cases hlt : n < L.length
        · have hd : decide ((n : Int) < (L.length : Int)) = true := decide_eq_true (by omega)
          obtain ⟨ad, ea, x0, x1, x2⟩ := at_T33 HWr.out.C (n : Int) (by omega) (by omega)
          subst ea
          have hw0 := whyB_zero (HZ.out n hlt)
          simp only [Int.toNat_natCast] at x0 x1 x2
          have hx : Hid (L.getD n z33 = rd_T33 L (n : Int)) := Lib.hid rfl
          rw [hx.out] at hw0
          have hsz := small_at HL.out n hlt
          rw [hx.out] at hsz
          generalize rd_T33 L (n : Int) = x at x0 x1 x2 hx hw0 hsz
          have HW0 := Lib.hid hw0
          have HSZ := Lib.hid hsz
          have hc1 := HWr.out.c
          obtain ⟨ty1, hty⟩ : ∃ ty1, attribute_Type.f 8000 x.f1 = some (ty1, true) := ⟨_, (Type_eq x.f1 (by omega) 8000 (by omega)).trans (congrArg some (Prod.ext rfl hw0.2.2.1))⟩
          have HTY := Lib.hid hty
          clear hw0 hsz hty
          go_upto_region 11 with (fail)
          refine wp_region_lit ?_
          refine wpList_step (fun K hK => ?_)
          go_simp
          refine hK _ _ ?_
          clear hK K
          refine wpList_step (fun K hK => ?_)
          go_simp
          refine hK _ _ ?_
          clear hK K
          refine wpList_step (fun K hK => ?_)
          go_simp
          refine hK _ _ ?_
          clear hK K
          refine wpList_step (fun K hK => ?_)
          go_simp
          refine hK _ _ ?_
          clear hK K
          refine wpList_step (fun K hK => ?_)
          go_simp
          refine hK _ _ ?_
          clear hK K
          have hnew : (wr.alloc (.cells (cellsA [z33] ++ []).toArray 33 (0, 0))).heap[wr.heap.size]? = some (.cells (cellsA [z33] ++ []).toArray 33 (0, 0)) := heap_alloc_new wr _
          have hbel1 : Below wr.heap.size wr (wr.alloc (.cells (cellsA [z33] ++ []).toArray 33 (0, 0))) := (Below.refl _ _).alloc (Nat.le_refl _) _
          refine wpList_store_at rfl _ _ _ rfl ⟨wr.heap.size, 3 * 0, none⟩ rfl _ rfl (store_A hnew 0 x (by simp)) ?_
          have hset := (set_A hnew 0 x (by simp)).trans (show _ = some (Obj.cells (vA x).toArray 33 (0, 0)) from rfl)
          have hb2 : Below wr.heap.size wr ((wr.alloc (.cells (cellsA [z33] ++ []).toArray 33 (0, 0))).setCells wr.heap.size (3 * 0) (vA x)) := ((hbel1.setCell (Nat.le_refl _) _).setCell (Nat.le_refl _) _).setCell (Nat.le_refl _) _
          generalize (wr.alloc (.cells (cellsA [z33] ++ []).toArray 33 (0, 0))).setCells wr.heap.size (3 * 0) (vA x) = w3 at hset hb2
          clear hnew hbel1
          have HP := Lib.hid hset
          have HW3 := Lib.hid (HWr.out.below hb2)
          clear hset hb2 x0 x1 x2 HWr
          generalize wr.heap.size = B at HP
          have u0 : w3.cell? ⟨B, 0, none⟩ = some (.string x.f0) := (blk_cell HP.out 0).trans rfl
          have u1 : w3.cell? ⟨B, 1, none⟩ = some (.string x.f1) := (blk_cell HP.out 1).trans rfl
          have u2 : w3.cell? ⟨B, 2, none⟩ = some (.string x.f2) := (blk_cell HP.out 2).trans rfl
          refine wpList_nil ?_
          go_upto_region 13 with (go_at_call 10; refine (attribute_Type.calls 8000 _ _ _ _ HTY.out).mono ?_; rintro e2 w4 ⟨rfl, hb4⟩)
          have HW4 := Lib.hid (HW3.out.below hb4)
          have HP4 := Lib.hid ((hb4.block _ (Array.getElem?_eq_some_iff.mp HP.out).1).trans HP.out)
          clear hb4 u0 u1 u2 HW3 HP
          have u0 : w4.cell? ⟨B, 0, none⟩ = some (.string x.f0) := (blk_cell HP4.out 0).trans rfl
          have u1 : w4.cell? ⟨B, 1, none⟩ = some (.string x.f1) := (blk_cell HP4.out 1).trans rfl
          have u2 : w4.cell? ⟨B, 2, none⟩ = some (.string x.f2) := (blk_cell HP4.out 2).trans rfl
          have hz0 : ((x.f2.size : Int) == 0) = false := by rw [beq_eq_false_iff_ne]; have := HW0.out.2.2.2; omega
          have k1 : decide ((n : Int) ≤ (c1 : Int)) = true := decide_eq_true (by omega)
          have k2 : n ≤ c1 := by omega
          go_wp2_with (go_at_call 12; refine (attribute_Name.calls 8000 _ true _ HW4.out.M (by rw [Name_eq x.f0 (by have := HSZ.out.1; omega) 8000 (by have := HSZ.out.1; omega)]; exact congrArg some HW0.out.1)).mono ?_; rintro e2 w5 ⟨rfl, hd5⟩; have HW5 := Lib.hid (HW4.out.below hd5.below); have HP5 := Lib.hid ((hd5.below.block _ (Array.getElem?_eq_some_iff.mp HP4.out).1).trans HP4.out); clear hd5; have y2 : w5.cell? ⟨B, 2, none⟩ = some (.string x.f2) := (blk_cell HP5.out 2).trans rfl)
          clear u0 u1 u2 HW4 HP4
          go_loopw [97] (fun i wq => ∃ m : Nat, i = .int .i64 m ∧ m ≤ n ∧ Hid (MayW w wq (some ad) c1 L) ∧ Hid (wq.heap[B]? = some (Obj.cells (vA x).toArray 33 (0, 0)))) (fun i _ => (n - intOf i).toNat)
          case atStart => exact ⟨0, rfl, Nat.zero_le _, HW5, HP5⟩
          case round =>
            clear HW5 HP5 y2
            obtain ⟨m, rfl, hm, HWq, HPq⟩ := hrel
            by_cases hmlt : m < n
            · have hdm : decide ((m : Int) < (n : Int)) = true := decide_eq_true (by omega)
              obtain ⟨ad2, ea2, v0, v1, v2⟩ := at_T33 HWq.out.C (m : Int) (by omega) (by omega)
              cases ea2
              simp only [Int.toNat_natCast] at v0 v1 v2
              have hy : Hid (L.getD m z33 = rd_T33 L (m : Int)) := Lib.hid rfl
              generalize rd_T33 L (m : Int) = y at v0 v1 v2 hy
              have hne : (y.f0.toList == x.f0.toList) = false := by
                have h1 := HW0.out.2.1
                cases hq : (y.f0.toList == x.f0.toList) with
                | false => rfl
                | true =>
                  rw [any_take_true (named x.f0) L m n (by omega) hmlt (by rw [hy.out]; exact hq)] at h1
                  exact absurd h1 (by simp)
              go_upto_region 17 with (fail)
              refine wp_region_lit ?_
              refine wpList_step (fun K hK => ?_)
              go_simp
              refine hK _ _ ?_
              clear hK K
              refine wpList_step (fun K hK => ?_)
              go_simp
              refine hK _ _ ?_
              clear hK K
              refine wpList_step (fun K hK => ?_)
              go_simp
              refine hK _ _ ?_
              clear hK K
              have hnew : (wr.alloc (.cells (cellsA [z33] ++ []).toArray 33 (0, 0))).heap[wr.heap.size]? = some (.cells (cellsA [z33] ++ []).toArray 33 (0, 0)) := heap_alloc_new wr _
              have hbel1 : Below wr.heap.size wr (wr.alloc (.cells (cellsA [z33] ++ []).toArray 33 (0, 0))) := (Below.refl _ _).alloc (Nat.le_refl _) _
              refine wpList_store_at rfl _ _ _ rfl ⟨wr.heap.size, 3 * 0, none⟩ rfl _ rfl (store_A hnew 0 y (by simp)) ?_
              have hset := (set_A hnew 0 y (by simp)).trans (show _ = some (Obj.cells (vA y).toArray 33 (0, 0)) from rfl)
              have hb2 : Below wr.heap.size wr ((wr.alloc (.cells (cellsA [z33] ++ []).toArray 33 (0, 0))).setCells wr.heap.size (3 * 0) (vA y)) := ((hbel1.setCell (Nat.le_refl _) _).setCell (Nat.le_refl _) _).setCell (Nat.le_refl _) _
              generalize (wr.alloc (.cells (cellsA [z33] ++ []).toArray 33 (0, 0))).setCells wr.heap.size (3 * 0) (vA y) = w6 at hset hb2
              clear hnew hbel1
              have hPx := (hb2.block _ (Array.getElem?_eq_some_iff.mp HPq.out).1).trans HPq.out
              have HP6 := Lib.hid hPx
              have HW6 := Lib.hid (HWq.out.below hb2)
              have q0 : w6.cell? ⟨wr.heap.size, 0, none⟩ = some (.string y.f0) := (blk_cell hset 0).trans rfl
              have q1 : w6.cell? ⟨B, 0, none⟩ = some (.string x.f0) := (blk_cell hPx 0).trans rfl
              clear hset hb2 hPx v0 v1 v2 HWq HPq
              refine wpList_nil ?_
              go_wp2
              go_roundw
              case rel => exact ⟨m + 1, by go_num, by omega, HW6, HP6⟩
              case measure => simp [intOf]; omega
            · have hdm : decide ((m : Int) < (n : Int)) = false := decide_eq_false (by omega)
              have hmn : m = n := by omega
              go_wp2
              go_roundw
              case rel => exact ⟨n + 1, by go_num, by omega, HWq⟩
              case measure => simp [intOf]; omega
        · have hd : decide ((n : Int) < (L.length : Int)) = false := decide_eq_false (by omega)
          have hnn : n = L.length := by omega
          by_cases hpos : 0 < L.length
          · have hdp : decide ((0 : Int) < (L.length : Int)) = true := decide_eq_true (by omega)
            obtain ⟨ad, ea, _, _, _⟩ := at_T33 HWr.out.C 0 (by omega) (by omega)
            subst ea
            have hlz : ((L.length : Int) == 0) = false := by rw [beq_eq_false_iff_ne]; omega
            go_upto_region 25 with (fail)
            have hmod : ∃ q : Nat, q < L.length ∧ (wrap64 (a1.tmod (L.length : Int) + (L.length : Int))).tmod (L.length : Int) = (q : Int) := by
              have hpi : (0 : Int) < (L.length : Int) := by omega
              have t1 := Int.tmod_lt_of_pos a1 hpi
              have t0 : -(L.length : Int) < Int.tmod a1 (L.length : Int) := by
                have := Int.tmod_lt_of_pos (-a1) hpi
                rw [Int.neg_tmod] at this
                omega
              rw [w64 (by omega) (by omega)]
              have u1 := Int.tmod_lt_of_pos (a1.tmod (L.length : Int) + (L.length : Int)) hpi
              have u0 := Int.tmod_nonneg (L.length : Int) (show 0 ≤ a1.tmod (L.length : Int) + (L.length : Int) by omega)
              exact ⟨_, by omega, (Int.toNat_of_nonneg u0).symm⟩
            obtain ⟨q, hq1, hq2⟩ := hmod
            rw [hq2]
            have hc1 := HWr.out.c
            have k1 : decide ((q : Int) ≤ (c1 : Int)) = true := decide_eq_true (by omega)
            have k2 : q ≤ c1 := by omega
            clear hq2
            go_upto_region 26 with (go_at_call 23; refine ((HWr.out.check HL.out q (by omega) 0 0 (HP.out q (by omega)))).mono ?_; rintro e2 w3 ⟨rfl, hb3⟩)
            have HW3 := Lib.hid (HWr.out.below hb3)
            clear hb3
            go_wp2_with (go_at_call 16; refine (HW3.out.works).mono ?_; rintro e2 w5 ⟨rfl, hb5⟩)
            go_ret
            exact ⟨rfl, (HW3.out.below hb5).B⟩
          · have hdp : decide ((0 : Int) < (L.length : Int)) = false := decide_eq_false (by omega)
            have hn0 : L.length = 0 := by omega
            cases A1 with
            | none =>
              go_upto_region 26 with (go_at_call 23; refine ((HWr.out.check HL.out 0 (by omega) 0 0 (HP.out 0 (by omega)))).mono ?_; rintro e2 w3 ⟨rfl, hb3⟩)
              have HW3 := Lib.hid (HWr.out.below hb3)
              clear hb3
              go_wp2_with (go_at_call 16; refine (HW3.out.works).mono ?_; rintro e2 w5 ⟨rfl, hb5⟩)
              go_ret
              exact ⟨rfl, (HW3.out.below hb5).B⟩
            | some ad =>
              go_upto_region 26 with (go_at_call 23; refine ((HWr.out.check HL.out 0 (by omega) 0 0 (HP.out 0 (by omega)))).mono ?_; rintro e2 w3 ⟨rfl, hb3⟩)
              have HW3 := Lib.hid (HWr.out.below hb3)
              clear hb3
              go_wp2_with (go_at_call 16; refine (HW3.out.works).mono ?_; rintro e2 w5 ⟨rfl, hb5⟩)
              go_ret
              exact ⟨rfl, (HW3.out.below hb5).B⟩
    · obtain ⟨ad, ea, _, _, _⟩ := at_T33 HW.out.C (j : Int) (by omega) (by omega)
      subst ea
      have hc1 := HW.out.c
      have e0 : (e != 0) = true := by simpa using he0
      have e7 : (e == 7) = false := by simpa using he7
      have k1 : decide ((j : Int) ≤ (c1 : Int)) = true := decide_eq_true (by omega)
      have k2 : j ≤ c1 := by omega
      have k3 : j + 1 ≤ c1 := by omega
      have k4 : decide ((j : Int) + 1 ≤ (c1 : Int)) = true := decide_eq_true (by omega)
      have HP0 := Lib.hid hpre0
      have HP1 := Lib.hid hpre1
      have HCH := Lib.hid hchk
      clear hpre0 hpre1 hchk he0 he7
      go_upto_region 6 with (go_at_call 23; refine ((HW.out.check HL.out L.length (Nat.le_refl _) (j : Int) e (by rw [List.take_length]; exact HCH.out))).mono ?_; rintro e2 w2 ⟨rfl, hb2⟩)
      have HW2 := Lib.hid (HW.out.below hb2)
      clear hb2
      go_upto_region 7 with (go_at_call 23; refine ((HW2.out.check HL.out j (by omega) 0 0 HP0.out)).mono ?_; rintro e2 w3 ⟨rfl, hb3⟩)
      have HW3 := Lib.hid (HW2.out.below hb3)
      clear hb3
      go_upto_region 8 with (go_at_call 23; refine ((HW3.out.check HL.out (j + 1) (by omega) (j : Int) e HP1.out)).mono ?_; rintro e2 w4 ⟨rfl, hb4⟩)
      have HW4 := Lib.hid (HW3.out.below hb4)
      clear hb4
      go_wp2_with (go_at_call 16; refine (HW4.out.works).mono ?_; rintro e2 w5 ⟨rfl, hb5⟩)
      go_ret
      exact ⟨rfl, (HW4.out.below hb5).B⟩
  · exact absurd h (by simp)
end Go.Proofs.YtolpefnedpgaaaaDoor.X

namespace Go.Proofs.YtolpefnedpgaaaaDoor.Pure
open Go.RowKit Go.Proofs.YtolpefnedpgaaaaDoor.X Go.Proofs.YtolpefnedpgaaaaDoorW.PrintWords Go.Proofs.YtolpefnedpgaaaaDoorW.PrintLast
theorem AttributeMay : ∀ (l : List S33) (a : Int), l.length ≤ maxLen → (Lit.int .i64 a).wf = true → ∃ k, racewaylaw24_AttributeMay.f k l a = some true := by
  intro l a _ ha
  have hr : -9223372036854775808 ≤ a ∧ a ≤ 9223372036854775807 := by
    simp [Lit.wf, IntKind.min, IntKind.max, IntKind.signed, IntKind.bits] at ha
    omega
  exact ⟨0, if_pos hr⟩
end Go.Proofs.YtolpefnedpgaaaaDoor.Pure

namespace Go.Proofs.YtolpefnedpgaaaaDoor.X
open Go
set_option linter.unusedVariables false
section
variable {H : Type} {enc : TypeId × Value → H}
theorem handed_laid_shaped {a : Assume} {C : Checked} {os : Os} {f : FuncId} {fn : Func} {s : ChangeSpec} {conds : List PathCond} {apart fresh handsOn again : Bool} {X : World → Array Value → Prop}
    (hX : ∀ (w w' : World) (args : Array Value), w.heap = w'.heap → X w args → X w' args)
    (own : ownKnob C.prog.godebug = none) (started : os.Started) (noInit : C.prog.inits.idxOf? f = none) (hfn : C.prog.funcs[f]? = some fn)
    (witness : ∃ (w : World) (tape : Tape) (i : Input), w.os = os ∧ (w.forCall tape i).Shaped C.prog ∧ i.vars = [] ∧ Input.okWide C.prog (w.forCall tape i) .any w.heap.size f i ∧
      ((s.pre enc C.prog fn conds apart (w.forCall tape i).memory i.args ∧ X (w.forCall tape i).memory i.args) ∧ sizedMet enc C.prog fn (OpenSpec.ofChange s) apart (w.forCall tape i).memory i.args) ∧ a.holds C.prog (lone (Frame.enter C.prog f i.args .normal) [] (w.forCall tape i)))
    (contract : ∀ (W : World) (base : Nat) (args : Array Value) (ds gs : List (DataW H)) (before : List MemPlace),
      (∀ (j : Nat) t v, fn.params[j]? = some t → args[j]? = some v → Value.okWide C.prog W .any base t v) →
      DataW.Whole enc C.prog fn.params.toList s.vars apart W args.toList ds gs before →
      conds.all (PathCond.test C.prog ⟨fn.params.toList, ds, s.plain.varTypes C.prog, gs⟩) = true →
      (DataW.weightsEach C.prog (fn.params.toList ++ s.plain.varTypes C.prog) (ds ++ gs)).all (· ≤ reachBytes) = true → X W args → W.ShapedOpen C.prog →
      a.holds C.prog (lone (Frame.enter C.prog f args .normal) [] W) →
      Calls C.prog f args W fun e W' => ∃ v, e = .returned v ∧ s.post enc C.prog fn apart fresh handsOn again W args v W') :
    ReturnsInHanded a C os f .any (fun w args => (s.pre enc C.prog fn conds apart w args ∧ X w args) ∧ sizedMet enc C.prog fn (OpenSpec.ofChange s) apart w args) (s.post enc C.prog fn apart fresh handsOn again) := by
  refine returnsInHanded_of_calls own started noInit witness ?_
  intro w tape i _ hsh _ hok hpre hholds
  obtain ⟨_, _, _, fn', hfn', _, _, _, _, hval⟩ := hok
  have e : fn' = fn := Option.some.inj (hfn'.symm.trans hfn)
  subst e
  obtain ⟨⟨⟨ds, gs, before, hw, hc⟩, hx⟩, hz⟩ := hpre
  have hw' := DataW.Whole.of_heap (w' := w.forCall tape i) (by rfl) hw
  refine (contract (w.forCall tape i) w.heap.size i.args ds gs before hval hw' hc (hz.weights hw) (hX _ _ _ (by rfl) hx) hsh hholds).mono fun e W' ⟨v, he, hp⟩ => ?_
  subst he
  exact ChangeSpec.post_blind hp
end
end Go.Proofs.YtolpefnedpgaaaaDoor.X

namespace Go.Proofs.YtolpefnedpgaaaaDoor.X
open Go.RowKit Go.Proofs.YtolpefnedpgaaaaDoorW.PrintWords Go.Proofs.YtolpefnedpgaaaaDoorW.PrintLast Go.Proofs.YtolpefnedpgaaaaDoorW.PrintMore
open Go.Deep Go.ChangeShapes Go.WideShapes
set_option linter.unusedVariables false
set_option linter.unusedSimpArgs false
theorem cells9 : Tryd.prog.cellsOf 9 = 1 := by kernel_rfl
theorem cells33 : Tryd.prog.cellsOf 33 = 3 := by kernel_rfl
instance : Inhabited S33 := ⟨z33⟩
set_option maxRecDepth 100000 in
theorem open_attrs {H : Type} {enc : TypeId × Value → H} {W : World} {A : Option Addr} {len cap : Nat} {d : DataW H} {p : List MemPlace} (h : DataW.Trod enc Tryd.prog W 0 (fun _ => true) true 26 (.slice A len cap) d p) :
    ∃ l : List S33, l.length = len ∧ Kd.C k33 W A l.length l ∧ l.length ≤ cap ∧ l.length ≤ maxLen := by
  obtain ⟨fuel, hf⟩ := h
  rcases open_slice Tryd.underlying26 hf with ⟨hcs, _⟩ | ⟨a, l, c, m, n, D, Pl, hcs, _, hl, hm, hmm, _, hx⟩
  · simp [Value.cells] at hcs
    obtain ⟨rfl, rfl, rfl⟩ := hcs
    exact ⟨[], rfl, ⟨rfl, by simp, fun h => absurd h (by simp)⟩, Nat.le_refl _, Nat.zero_le _⟩
  · simp [Value.cells] at hcs
    obtain ⟨rfl, rfl, rfl⟩ := hcs
    simp only [if_true] at hmm
    have each : ∀ i, i < len → ∃ x : S33, W.cell? (a.add (i * 3)) = some (.string x.f0) ∧ W.cell? (a.add (i * 3 + 1)) = some (.string x.f1) ∧ W.cell? (a.add (i * 3 + 2)) = some (.string x.f2) := by
      intro i hi
      obtain ⟨cs', h1, h2⟩ := hx i (by omega)
      rw [cells33] at h1
      obtain ⟨_, hlen, hcell⟩ := World.cells?_some h1
      obtain ⟨xs, k, hk, hxy, _, hxl, hf⟩ := DataW.trod_struct Tryd.underlying33 h2
      match xs, hxl, cs', hlen with
      | [y0, y1, y2], _, [v0, v1, v2], _ =>
        have g0 := hf 0 _ rfl
        have g1 := hf 1 _ rfl
        have g2 := hf 2 _ rfl
        simp [cells9] at g0 g1 g2
        obtain ⟨s0, e0, _, _⟩ := DataW.trod_string Tryd.underlying9 g0
        obtain ⟨s1, e1, _, _⟩ := DataW.trod_string Tryd.underlying9 g1
        obtain ⟨s2, e2, _, _⟩ := DataW.trod_string Tryd.underlying9 g2
        have c0 := hcell 0 (by omega)
        have c1 := hcell 1 (by omega)
        have c2 := hcell 2 (by omega)
        rw [Go.Deep.add_add] at c0 c1 c2
        simp at e0 e1 e2 c0 c1 c2
        subst e0 e1 e2
        exact ⟨⟨s0, s1, s2⟩, c0, c1, c2⟩
    obtain ⟨q, hq⟩ := choose_lt each
    have hlen : ((List.range len).map q).length = len := by simp
    refine ⟨(List.range len).map q, hlen, ⟨rfl, ?_, fun _ => ⟨a, rfl, fun j x hj => ?_⟩⟩, by omega, by omega⟩
    · rw [hlen]; have : cap ≤ maxLen := hm; unfold maxLen at this; omega
    · have hjl : j < len := by
        have := (List.getElem?_eq_some_iff.1 hj).1
        simpa using this
      have hx : q j = x := by
        rw [List.getElem?_map, List.getElem?_range hjl] at hj
        simpa using hj
      subst hx
      obtain ⟨c0, c1, c2⟩ := hq j hjl
      refine ⟨[.string (q j).f0, .string (q j).f1, .string (q j).f2], rfl, k33_mk W (q j), fun i u hu => ?_⟩
      match i, hu with
      | 0, hu => simp at hu; subst hu; exact c0
      | 1, hu => simp at hu; subst hu; exact c1
      | 2, hu => simp at hu; subst hu; exact c2
end Go.Proofs.YtolpefnedpgaaaaDoor.X

namespace Go.Proofs.YtolpefnedpgaaaaDoor.X
open Go.RowKit Go.Proofs.YtolpefnedpgaaaaDoorW.PrintWords
set_option linter.unusedVariables false
set_option linter.unusedSimpArgs false
theorem heap_of_var {P : Program} {W : World} {name : String} {g : Nat} {zero : Array Value} {t : TypeId} {arr : Array Value} (hsh : W.ShapedOpen P) (hlt : g < P.globals.size)
    (hrow : (((begin P (fun _ _ => 0) default).world).heap[g]?).bind Obj.row? = some (zero, t)) (hg : P.globalNamed name = some g) (hv : W.var? P name = some arr) : W.heap[g]? = some (.cells arr t (0, 0)) := by
  obtain ⟨hs, _⟩ := hsh
  obtain ⟨cs', h1, _, _⟩ := hs g zero t hlt hrow
  unfold World.var? at hv
  rw [hg] at hv
  simp only [Option.bind_some, h1] at hv
  rw [h1]
  cases hv
  rfl
theorem chunk16 {α : Type} (cs : List α) (h : cs.length = 16) : cs = (cs.drop 0).take 4 ++ ((cs.drop 4).take 4 ++ ((cs.drop 8).take 4 ++ (cs.drop 12).take 4)) := by
  rw [List.drop_zero]
  have h1 := (List.take_append_drop 4 cs).symm
  have h2 := (List.take_append_drop 4 (cs.drop 4)).symm
  have h3 := (List.take_append_drop 4 (cs.drop 8)).symm
  rw [List.drop_drop] at h2 h3
  have h4 : (cs.drop 12).take 4 = cs.drop 12 := List.take_of_length_le (by simp; omega)
  rw [h4]
  conv => lhs; rw [h1, h2, h3]
theorem cells_of_tab4 {H : Type} {enc : TypeId × Value → H} {P : Program} {w : World} {base : Nat} {sp : Nat → Bool} {held : Bool} {fuel : Nat} {t e u : TypeId} {k : IntKind} {cs : List Value} {r0 r1 r2 r3 : List Int} {p : List MemPlace}
    (ht : P.underlying t = some (.array 4 e)) (he : P.underlying e = some (.array 4 u)) (hu : P.underlying u = some (.int k)) (hcu : P.cellsOf u = 1) (hce : P.cellsOf e = 4) (hct : P.cellsOf t = 16)
    (h : DataW.trod enc P w base sp held fuel t cs = some (.agg [Lib.tabData k r0, Lib.tabData k r1, Lib.tabData k r2, Lib.tabData k r3], p)) : cs = (r0 ++ (r1 ++ (r2 ++ r3))).map fun z => Value.int k z := by
  cases fuel with
  | zero => simp [DataW.trod] at h
  | succ fuel =>
    simp only [DataW.trod, ht, hct, hce] at h
    split at h
    · rename_i hl
      obtain ⟨xs, hm, hx⟩ := Option.map_eq_some_iff.1 h
      have hxs : xs.map (·.1) = [Lib.tabData k r0, Lib.tabData k r1, Lib.tabData k r2, Lib.tabData k r3] := by
        have := congrArg Prod.fst hx
        simpa using this
      have hrow : ∀ (i : Nat) (r : List Int), i < 4 → (xs.map (·.1))[i]? = some (Lib.tabData k r : DataW H) → (cs.drop (i * 4)).take 4 = r.map fun z => Value.int k z := by
        intro i r hi hr
        obtain ⟨b, hb, hf⟩ := Lib.mapM_at hm i i (by simp [hi])
        rw [List.getElem?_map, hb] at hr
        simp only [Option.map_some, Option.some.injEq] at hr
        obtain ⟨b1, b2⟩ := b
        simp only at hr
        subst hr
        exact Lib.cells_of_tab he hu hcu hce hf
      have e0 := hrow 0 r0 (by omega) (by rw [hxs]; rfl)
      have e1 := hrow 1 r1 (by omega) (by rw [hxs]; rfl)
      have e2 := hrow 2 r2 (by omega) (by rw [hxs]; rfl)
      have e3 := hrow 3 r3 (by omega) (by rw [hxs]; rfl)
      rw [chunk16 cs hl]
      rw [List.map_append, List.map_append, List.map_append, ← e0, ← e1, ← e2, ← e3]
    · cases h
theorem tab4_of_head {P : Program} {W : World} {name : String} {k : IntKind} {r0 r1 r2 r3 : List Int} {rest : List (String × DataW Unit)} {g : Nat} {t e u : TypeId}
    (hg : P.globalNamed name = some g) (hty : (P.globals[g]?).map (·.type) = some t) (ht : P.underlying t = some (.array 4 e)) (he : P.underlying e = some (.array 4 u)) (hu : P.underlying u = some (.int k)) (hcu : P.cellsOf u = 1) (hce : P.cellsOf e = 4) (hct : P.cellsOf t = 16)
    (h : laidMet P ((name, .agg [Lib.tabData k r0, Lib.tabData k r1, Lib.tabData k r2, Lib.tabData k r3]) :: rest) W) : Lib.TabIs P W name k (r0 ++ (r1 ++ (r2 ++ r3))) := by
  obtain ⟨ps, ⟨g', t', cs, fuel, p, q, hg', ht', hvar, hd, _, _⟩, _⟩ := h
  obtain rfl := Option.some.inj (hg.symm.trans hg')
  obtain rfl := Option.some.inj (hty.symm.trans ht')
  unfold Lib.TabIs
  rw [hvar, ← cells_of_tab4 ht he hu hcu hce hct hd]
set_option maxRecDepth 100000 in
theorem GlobFp.of {W : World} {l : List (String × DataW Unit)} (hsh : W.ShapedOpen Tryd.prog) (hL : laidMet Tryd.prog l W)
    (h1 : l.filter (fun x => x.1 == "raceway/fingerprint.sines") = [("raceway/fingerprint.sines", Lib.tabData .u32 sinesL)])
    (h2 : l.filter (fun x => x.1 == "raceway/fingerprint.turns") = [("raceway/fingerprint.turns", .agg [Lib.tabData .i64 [7, 12, 17, 22], Lib.tabData .i64 [5, 9, 14, 20], Lib.tabData .i64 [4, 11, 16, 23], Lib.tabData .i64 [6, 10, 15, 21]])]) : GlobFp W := by
  have s1 := hL.filter (fun x => x.1 == "raceway/fingerprint.sines")
  rw [h1] at s1
  have s2 := hL.filter (fun x => x.1 == "raceway/fingerprint.turns")
  rw [h2] at s2
  have g1 : Tryd.prog.globalNamed "raceway/fingerprint.sines" = some 1 := by kernel_rfl
  have g2 : Tryd.prog.globalNamed "raceway/fingerprint.turns" = some 2 := by kernel_rfl
  have t1 := Lib.tabIs_of_head (t := 116) (e := 93) (n := 64) g1 (by kernel_rfl) (by kernel_rfl) (by kernel_rfl) (by kernel_rfl) (by kernel_rfl) s1
  have t2 := tab4_of_head (t := 118) (e := 117) (u := 3) g2 (by kernel_rfl) (by kernel_rfl) (by kernel_rfl) (by kernel_rfl) (by kernel_rfl) (by kernel_rfl) (by kernel_rfl) s2
  refine ⟨?_, ?_⟩
  · have := heap_of_var (zero := Array.replicate 64 (.int .u32 0)) (t := 116) hsh (of_decide_eq_true (by kernel_rfl)) (by kernel_rfl) g1 t1
    exact this
  · have := heap_of_var (zero := Array.replicate 16 (.int .i64 0)) (t := 118) hsh (of_decide_eq_true (by kernel_rfl)) (by kernel_rfl) g2 t2
    exact this
end Go.Proofs.YtolpefnedpgaaaaDoor.X

