/-
  What the claim's law rests on, part 2 of 5: printed walks, externals, plain lemmas; conditions: none of its own.
-/
import Derived.ArgAppend
import Derived.Below
import Derived.BigQuiet
import Derived.Deep.AppendLies
import Derived.Deep.CutBlock
import Derived.Deep.DeepCutAuto
import Derived.Deep.Draws
import Derived.Deep.LoopGhost
import Derived.Deep.OwnRows
import Derived.Deep.QuietTactic
import Derived.Deep.RegionHeld3
import Derived.KernelRfl
import Derived.Laws.BitsLemmas
import Derived.Laws.BytesArg
import Derived.Laws.IdiomCopy
import Derived.Laws.MakeOwn
import Derived.Laws.OwnMore
import Derived.Laws.Rows
import Derived.Laws.Slices
import Derived.Lib.AppendStr
import Derived.Lib.Bytealg
import Derived.Lib.ConvBytes
import Derived.Lib.Hide
import Derived.Lib.SplitLaws
import Derived.Lib.Strings
import Derived.Maps.AppendAt
import Derived.OrdersHeld
import Derived.OwnWalk
import Derived.RowKit
import Derived.RowKit3
import Derived.Shelf.LaysM
import Derived.Shelf.Small.Strs
import Derived.Shelf.Small.Utf8
import Derived.Shelf.Small.Wraps
import Derived.Shelf.Strings.AsciiSet
import Derived.Shelf.Strings.Builder1
import Derived.Shelf.Strings.Builder2
import Derived.Shelf.Strings.Builder2Cap
import Derived.Shelf.Strings.BuilderCap
import Derived.Shelf.Strings.BuilderF
import Derived.Shelf.Strings.BuilderK
import Derived.Shelf.Strings.Count
import Derived.Shelf.Strings.Cut
import Derived.Shelf.Strings.Prefix
import Derived.Shelf.Strings.Replace
import Derived.Shelf.Strings.RuneCount
import Derived.Shelf.Strings.Runes
import Derived.Shelf.Strings.Search1
import Derived.Shelf.Strings.Search2
import Derived.Shelf.Strings.Search3
import Derived.Shelf.Strings.Shaped
import Derived.Shelf.Strings.Split
import Derived.Shelf.Strings.SplitShaped
import Derived.Shelf.Strings.Trim
import Derived.Shelf.Unicode.Decode
import Derived.Shelf.Utf8.RuneCount
import Derived.StillTailTactics
import Derived.Tactics
import Derived.Test.YtolpefnedpgaaaaDoorProg
import Derived.WalkKit
import Derived.WalkLawsBesides
import Derived.WalkSpells
import Derived.WideLaws
import Derived.Test.YtolpefnedpgaaaaDoorCo1
namespace Go.Proofs.YtolpefnedpgaaaaDoor.X
open Go.RowKit Go.Proofs.YtolpefnedpgaaaaDoorW.PrintWords Go.Proofs.YtolpefnedpgaaaaDoorW.PrintLast Go.Proofs.YtolpefnedpgaaaaDoorW.PrintMore
attribute [local go_sem] max2_int min2_int max_two min_two max_three min_three max_four min_four   -- for this text's walks alone
set_option linter.unusedVariables false
set_option linter.unusedSimpArgs false



def errW : Option Int → Value
  | none => .nilIface
  | some c => .iface 0 (.int .i64 c)
theorem errW_none : errW none = .nilIface := rfl
theorem errW_some (c : Int) : errW (some c) = .iface 0 (.int .i64 c) := rfl

theorem info33 : (Tryd.prog.info? 33).map (fun i => (i.zero, i.size, i.bytes)) = some (some (.agg #[(.string ⟨#[]⟩), (.string ⟨#[]⟩), (.string ⟨#[]⟩)]), 3, 48) := by kernel_rfl
structure S33 where
  f0 : ByteArray
  f1 : ByteArray
  f2 : ByteArray
def z33 : S33 := ⟨(⟨#[]⟩ : ByteArray), (⟨#[]⟩ : ByteArray), (⟨#[]⟩ : ByteArray)⟩
def k33 : Kd S33 := Kd.iso (Kd.pair Kd.string (Kd.pair Kd.string Kd.string)) (fun x : S33 => (x.f0, x.f1, x.f2))
theorem k33_open {w : World} {x : S33} {cs : List Value} (h : k33.K w x cs) : cs = [.string x.f0, .string x.f1, .string x.f2] := by
  obtain ⟨_, _, rfl, rfl, ⟨_, _, rfl, rfl, rfl⟩⟩ := h
  exact rfl
theorem k33_openM {w : World} {base : Nat} {ok : Nat → Prop} {x : S33} {cs : List Value} (h : k33.M w base ok x cs) : cs = [.string x.f0, .string x.f1, .string x.f2] := by
  obtain ⟨_, _, rfl, rfl, ⟨_, _, rfl, rfl, rfl⟩⟩ := h
  exact rfl
theorem k33_mk (w : World) (x : S33)  : k33.K w x [.string x.f0, .string x.f1, .string x.f2] := ⟨[.string x.f0], [.string x.f1, .string x.f2], rfl, rfl, ⟨[.string x.f1], [.string x.f2], rfl, rfl, rfl⟩⟩
theorem k33_mkM (w : World) (base : Nat) (ok : Nat → Prop) (x : S33)  : k33.M w base ok x [.string x.f0, .string x.f1, .string x.f2] := ⟨[.string x.f0], [.string x.f1, .string x.f2], rfl, rfl, ⟨[.string x.f1], [.string x.f2], rfl, rfl, rfl⟩⟩
def rd_T33 (xs : List S33) (i : Int) : S33 := xs.getD i.toNat z33
theorem at_T33 {w : World} {A : Option Addr} {n : Nat} {xs : List S33} (h : Kd.C k33 w A n xs) (i : Int) (h0 : 0 ≤ i) (h1 : i < n) : ∃ ad , A = some ad ∧ w.cell? (ad.add (i.toNat * 3)) = some (.string (rd_T33 xs i).f0) ∧ w.cell? ⟨(ad.add (i.toNat * 3)).block, (ad.add (i.toNat * 3)).off + 1, none⟩ = some (.string (rd_T33 xs i).f1) ∧ w.cell? ⟨(ad.add (i.toNat * 3)).block, (ad.add (i.toNat * 3)).off + 2, none⟩ = some (.string (rd_T33 xs i).f2) := by
  obtain ⟨ad, c, e, _, hK, hc0⟩ := Kd.C_get h z33 i h0 h1
  have hc : ∀ j u, c[j]? = some u → w.cell? (ad.add (i.toNat * 3 + j)) = some u := hc0
  obtain rfl := k33_open hK
  exact ⟨ad, e, hc 0 _ rfl, by rw [← add_field _ _ 1 (by omega)]; exact hc 1 _ rfl, by rw [← add_field _ _ 2 (by omega)]; exact hc 2 _ rfl⟩

end Go.Proofs.YtolpefnedpgaaaaDoor.X

namespace Go.Proofs
open Go.Shelf
def Tryd.lays161_ren : Go.Shelf.Ren := ⟨fun | 161 => 39 | 231 => 69 | 227 => 70 | 233 => 71 | 235 => 72 | 228 => 95 | 197 => 66 | 151 => 96 | 260 => 93 | 152 => 111 | 137 => 59 | 119 => 115 | 224 => 107 | 225 => 106 | 217 => 87 | 266 => 105 | n => n, fun | 9 => 9 | 4 => 4 | 3 => 3 | 5 => 5 | 117 => 88 | 116 => 87 | 0 => 0 | 124 => 91 | 105 => 81 | 21 => 21 | 119 => 123 | 46 => 99 | 139 => 126 | 138 => 125 | n => n, fun | 3 => 3 | 4 => 4 | n => n⟩
theorem Tryd.lays161 : Go.Proofs.Lays.n161 Tryd.prog Tryd.lays161_ren := {
  mixed := by kernel_rfl
  f119 := Tryd.func115.trans (congrArg some (by kernel_rfl))
  f137 := Tryd.func59.trans (congrArg some (by kernel_rfl))
  f151 := Tryd.func96.trans (congrArg some (by kernel_rfl))
  f152 := Tryd.func111.trans (congrArg some (by kernel_rfl))
  f161 := Tryd.func39.trans (congrArg some (by kernel_rfl))
  f197 := Tryd.func66.trans (congrArg some (by kernel_rfl))
  f217 := Tryd.func87.trans (congrArg some (by kernel_rfl))
  f224 := Tryd.func107.trans (congrArg some (by kernel_rfl))
  f225 := Tryd.func106.trans (congrArg some (by kernel_rfl))
  f227 := Tryd.func70.trans (congrArg some (by kernel_rfl))
  f228 := Tryd.func95.trans (congrArg some (by kernel_rfl))
  f231 := Tryd.func69.trans (congrArg some (by kernel_rfl))
  f233 := Tryd.func71.trans (congrArg some (by kernel_rfl))
  f235 := Tryd.func72.trans (congrArg some (by kernel_rfl))
  f260 := Tryd.func93.trans (congrArg some (by kernel_rfl))
  f266 := Tryd.func105.trans (congrArg some (by kernel_rfl))
  t0 := Tryd.underlying0
  a0 := Tryd.isAgg0
  z0 := Tryd.sizeOf0
  v0 := Tryd.zeroValue0
  t3 := Tryd.underlying3
  a3 := Tryd.isAgg3
  z3 := Tryd.sizeOf3
  v3 := Tryd.zeroValue3
  t4 := Tryd.underlying4
  a4 := Tryd.isAgg4
  z4 := Tryd.sizeOf4
  v4 := Tryd.zeroValue4
  t5 := Tryd.underlying5
  a5 := Tryd.isAgg5
  z5 := Tryd.sizeOf5
  v5 := Tryd.zeroValue5
  t9 := Tryd.underlying9
  a9 := Tryd.isAgg9
  z9 := Tryd.sizeOf9
  v9 := Tryd.zeroValue9
  t21 := Tryd.underlying21
  a21 := Tryd.isAgg21
  z21 := Tryd.sizeOf21
  v21 := Tryd.zeroValue21
  t46 := Tryd.underlying99
  a46 := Tryd.isAgg99
  z46 := Tryd.sizeOf99
  v46 := Tryd.zeroValue99
  t105 := Tryd.underlying81
  a105 := Tryd.isAgg81
  z105 := Tryd.sizeOf81
  v105 := Tryd.zeroValue81
  t116 := Tryd.underlying87
  a116 := Tryd.isAgg87
  z116 := Tryd.sizeOf87
  t117 := Tryd.underlying88
  a117 := Tryd.isAgg88
  z117 := Tryd.sizeOf88
  v117 := Tryd.zeroValue88
  t119 := Tryd.underlying123
  a119 := Tryd.isAgg123
  z119 := Tryd.sizeOf123
  t124 := Tryd.underlying91
  a124 := Tryd.isAgg91
  z124 := Tryd.sizeOf91
  v124 := Tryd.zeroValue91
  t138 := Tryd.underlying125
  a138 := Tryd.isAgg125
  z138 := Tryd.sizeOf125
  v138 := Tryd.zeroValue125
  t139 := Tryd.underlying126
  a139 := Tryd.isAgg126
  z139 := Tryd.sizeOf126
  v139 := Tryd.zeroValue126
  g3 := by kernel_rfl
  g4 := by kernel_rfl }
open Go.RowKit in
/-- strings.TrimLeft: "TrimLeft returns a slice of the string s with all leading Unicode code points contained in cutset removed.": AT A cutset OF ONE ASCII BYTE. The world is as it was. (LAID: no walk: one application.) -/
theorem Tryd.strings_TrimLeft_one (s : ByteArray) (c : UInt8) (hc : c.toNat < 128) (w : World) :
    Calls Tryd.prog 39 #[.string s, .string ⟨#[c]⟩] w fun e w' => e = .returned (.string ⟨(Lib.trimLeftB s.data.toList c).toArray⟩) ∧ w' = w := Any.strings_TrimLeft_one Tryd.lays161 s c hc w
def Tryd.lays106_ren : Go.Shelf.Ren := ⟨fun | 106 => 45 | 213 => 75 | 265 => 99 | n => n, fun | 9 => 9 | 3 => 3 | n => n, fun | n => n⟩
theorem Tryd.lays106 : Go.Proofs.Lays.n106 Tryd.prog Tryd.lays106_ren := {
  mixed := by kernel_rfl
  f106 := Tryd.func45.trans (congrArg some (by kernel_rfl))
  f213 := Tryd.func75.trans (congrArg some (by kernel_rfl))
  f265 := Tryd.func99.trans (congrArg some (by kernel_rfl))
  t3 := Tryd.underlying3
  a3 := Tryd.isAgg3
  z3 := Tryd.sizeOf3
  v3 := Tryd.zeroValue3
  t9 := Tryd.underlying9
  a9 := Tryd.isAgg9
  z9 := Tryd.sizeOf9
  v9 := Tryd.zeroValue9 }
open Go.RowKit in
/-- strings.Compare: "Compare returns an integer comparing two strings lexicographically. The result will be 0 if a == b, -1 if a < b, and +1 if a > b.": IT RETURNS 'Lib.compareBytes a b'; the world is as it was. (LAID: no walk: one application.) -/
theorem Tryd.strings_Compare (a b : ByteArray) (w : World) :
    Calls Tryd.prog 45 #[.string a, .string b] w fun e w' => e = .returned (.int .i64 (Lib.compareBytes a.data.toList b.data.toList)) ∧ w' = w := Any.strings_Compare Tryd.lays106 a b w
def Tryd.lays137_ren : Go.Shelf.Ren := ⟨fun | 137 => 59 | 217 => 87 | 266 => 105 | n => n, fun | 9 => 9 | 5 => 5 | 3 => 3 | n => n, fun | n => n⟩
theorem Tryd.lays137 : Go.Proofs.Lays.n137 Tryd.prog Tryd.lays137_ren := {
  mixed := by kernel_rfl
  f137 := Tryd.func59.trans (congrArg some (by kernel_rfl))
  f217 := Tryd.func87.trans (congrArg some (by kernel_rfl))
  f266 := Tryd.func105.trans (congrArg some (by kernel_rfl))
  t3 := Tryd.underlying3
  a3 := Tryd.isAgg3
  z3 := Tryd.sizeOf3
  v3 := Tryd.zeroValue3
  t5 := Tryd.underlying5
  a5 := Tryd.isAgg5
  z5 := Tryd.sizeOf5
  v5 := Tryd.zeroValue5
  t9 := Tryd.underlying9
  a9 := Tryd.isAgg9
  z9 := Tryd.sizeOf9
  v9 := Tryd.zeroValue9 }
open Go.RowKit in
/-- strings.IndexByte: "IndexByte returns the index of the first instance of c in s, or -1 if c is not present in s.": IT RETURNS 'Lib.indexByte s c'; the world is as it was. (LAID: no walk: one application.) -/
theorem Tryd.strings_IndexByte (s : ByteArray) (c : Int) (w : World) :
    Calls Tryd.prog 59 #[.string s, .int .u8 c] w fun e w' => e = .returned (.int .i64 (Lib.indexByte s.data.toList c.toNat.toUInt8)) ∧ w' = w := Any.strings_IndexByte Tryd.lays137 s c w
def Tryd.lays210_ren : Go.Shelf.Ren := ⟨fun | 210 => 58 | 206 => 73 | n => n, fun | 9 => 9 | 4 => 4 | 3 => 3 | n => n, fun | n => n⟩
theorem Tryd.lays210 : Go.Proofs.Lays.n210 Tryd.prog Tryd.lays210_ren := {
  mixed := by kernel_rfl
  f206 := Tryd.func73.trans (congrArg some (by kernel_rfl))
  f210 := Tryd.func58.trans (congrArg some (by kernel_rfl))
  t3 := Tryd.underlying3
  a3 := Tryd.isAgg3
  z3 := Tryd.sizeOf3
  v3 := Tryd.zeroValue3
  t4 := Tryd.underlying4
  a4 := Tryd.isAgg4
  z4 := Tryd.sizeOf4
  v4 := Tryd.zeroValue4
  t9 := Tryd.underlying9
  a9 := Tryd.isAgg9
  z9 := Tryd.sizeOf9
  v9 := Tryd.zeroValue9 }
open Go.RowKit in
/-- internal/stringslite.CutPrefix (what strings.CutPrefix calls). (LAID: no walk: one application.) -/
theorem Tryd.stringslite_CutPrefix (s p : ByteArray) (w : World) :
    Calls Tryd.prog 58 #[.string s, .string p] w fun e w' => e = .returned (.tuple #[.string ⟨(Lib.trimPrefix s.data.toList p.data.toList).toArray⟩, .bool (Lib.hasPrefix s.data.toList p.data.toList)]) ∧ w' = w := Any.stringslite_CutPrefix Tryd.lays210 s p w
def Tryd.lays103_ren : Go.Shelf.Ren := ⟨fun | 103 => 29 | 210 => 58 | 206 => 73 | n => n, fun | 9 => 9 | 4 => 4 | 24 => 45 | 3 => 3 | n => n, fun | n => n⟩
theorem Tryd.lays103 : Go.Proofs.Lays.n103 Tryd.prog Tryd.lays103_ren := {
  mixed := by kernel_rfl
  f103 := Tryd.func29.trans (congrArg some (by kernel_rfl))
  f206 := Tryd.func73.trans (congrArg some (by kernel_rfl))
  f210 := Tryd.func58.trans (congrArg some (by kernel_rfl))
  t3 := Tryd.underlying3
  a3 := Tryd.isAgg3
  z3 := Tryd.sizeOf3
  v3 := Tryd.zeroValue3
  t4 := Tryd.underlying4
  a4 := Tryd.isAgg4
  z4 := Tryd.sizeOf4
  v4 := Tryd.zeroValue4
  t9 := Tryd.underlying9
  a9 := Tryd.isAgg9
  z9 := Tryd.sizeOf9
  v9 := Tryd.zeroValue9
  t24 := Tryd.underlying45
  a24 := Tryd.isAgg45
  z24 := Tryd.sizeOf45
  v24 := Tryd.zeroValue45 }
open Go.RowKit in
/-- strings.CutPrefix: "CutPrefix returns s without the provided leading prefix string and reports whether it found the prefix. If s doesn't start with prefix, CutPrefix returns s, false. If prefix is the empty string, CutPrefix returns s, true.": IT RETURNS '(Lib.trimPrefix s p, Lib.hasPrefix s p)'; the world is as it was. (LAID: no walk: one application.) -/
theorem Tryd.strings_CutPrefix (s p : ByteArray) (w : World) :
    Calls Tryd.prog 29 #[.string s, .string p] w fun e w' => e = .returned (.tuple #[.string ⟨(Lib.trimPrefix s.data.toList p.data.toList).toArray⟩, .bool (Lib.hasPrefix s.data.toList p.data.toList)]) ∧ w' = w := Any.strings_CutPrefix Tryd.lays103 s p w
def Tryd.lays144_ren : Go.Shelf.Ren := ⟨fun | 144 => 32 | 143 => 60 | 219 => 88 | 217 => 87 | 225 => 106 | 224 => 107 | 267 => 108 | 266 => 105 | 314 => 114 | n => n, fun | 9 => 9 | 4 => 4 | 3 => 3 | 5 => 5 | 46 => 99 | 146 => 128 | 51 => 93 | n => n, fun | 1 => 0 | n => n⟩
theorem Tryd.lays144 : Go.Proofs.Lays.n144 Tryd.prog Tryd.lays144_ren := {
  mixed := by kernel_rfl
  f143 := Tryd.func60.trans (congrArg some (by kernel_rfl))
  f144 := Tryd.func32.trans (congrArg some (by kernel_rfl))
  f217 := Tryd.func87.trans (congrArg some (by kernel_rfl))
  f219 := Tryd.func88.trans (congrArg some (by kernel_rfl))
  f224 := Tryd.func107.trans (congrArg some (by kernel_rfl))
  f225 := Tryd.func106.trans (congrArg some (by kernel_rfl))
  f266 := Tryd.func105.trans (congrArg some (by kernel_rfl))
  f267 := Tryd.func108.trans (congrArg some (by kernel_rfl))
  f314 := Tryd.func114.trans (congrArg some (by kernel_rfl))
  t3 := Tryd.underlying3
  a3 := Tryd.isAgg3
  z3 := Tryd.sizeOf3
  v3 := Tryd.zeroValue3
  t4 := Tryd.underlying4
  a4 := Tryd.isAgg4
  z4 := Tryd.sizeOf4
  v4 := Tryd.zeroValue4
  t5 := Tryd.underlying5
  a5 := Tryd.isAgg5
  z5 := Tryd.sizeOf5
  v5 := Tryd.zeroValue5
  t9 := Tryd.underlying9
  a9 := Tryd.isAgg9
  z9 := Tryd.sizeOf9
  v9 := Tryd.zeroValue9
  t46 := Tryd.underlying99
  a46 := Tryd.isAgg99
  z46 := Tryd.sizeOf99
  v46 := Tryd.zeroValue99
  t51 := Tryd.underlying93
  a51 := Tryd.isAgg93
  z51 := Tryd.sizeOf93
  v51 := Tryd.zeroValue93
  t146 := Tryd.underlying128
  a146 := Tryd.isAgg128
  z146 := Tryd.sizeOf128
  v146 := Tryd.zeroValue128
  g1 := by kernel_rfl }
open Go.RowKit Go.Lib in
/-- strings.Contains: "Contains reports whether substr is within s.": IT RETURNS 'Lib.contains s substr'; the world is as it was. (LAID: no walk: one application.) -/
theorem Tryd.strings_Contains (s sub : ByteArray) (m : Int) (w : World) (hs : s.size < 4294967281) (hm : w.cell? ⟨0, 0, none⟩ = some (.int .i64 m)) :
    Calls Tryd.prog 32 #[.string s, .string sub] w fun e w' => e = .returned (.bool (Lib.contains s.data.toList sub.data.toList)) ∧ w' = w := Any.strings_Contains Tryd.lays144 s sub m w hs hm
def Tryd.lays145_ren : Go.Shelf.Ren := ⟨fun | 145 => 35 | 220 => 62 | 219 => 88 | 217 => 87 | 225 => 106 | 224 => 107 | 267 => 108 | 266 => 105 | 314 => 114 | n => n, fun | 9 => 9 | 4 => 4 | 59 => 50 | 3 => 3 | 5 => 5 | 46 => 99 | 146 => 128 | 51 => 93 | n => n, fun | 1 => 0 | n => n⟩
theorem Tryd.lays145 : Go.Proofs.Lays.n145 Tryd.prog Tryd.lays145_ren := {
  mixed := by kernel_rfl
  f145 := Tryd.func35.trans (congrArg some (by kernel_rfl))
  f217 := Tryd.func87.trans (congrArg some (by kernel_rfl))
  f219 := Tryd.func88.trans (congrArg some (by kernel_rfl))
  f220 := Tryd.func62.trans (congrArg some (by kernel_rfl))
  f224 := Tryd.func107.trans (congrArg some (by kernel_rfl))
  f225 := Tryd.func106.trans (congrArg some (by kernel_rfl))
  f266 := Tryd.func105.trans (congrArg some (by kernel_rfl))
  f267 := Tryd.func108.trans (congrArg some (by kernel_rfl))
  f314 := Tryd.func114.trans (congrArg some (by kernel_rfl))
  t3 := Tryd.underlying3
  a3 := Tryd.isAgg3
  z3 := Tryd.sizeOf3
  v3 := Tryd.zeroValue3
  t4 := Tryd.underlying4
  a4 := Tryd.isAgg4
  z4 := Tryd.sizeOf4
  v4 := Tryd.zeroValue4
  t5 := Tryd.underlying5
  a5 := Tryd.isAgg5
  z5 := Tryd.sizeOf5
  v5 := Tryd.zeroValue5
  t9 := Tryd.underlying9
  a9 := Tryd.isAgg9
  z9 := Tryd.sizeOf9
  v9 := Tryd.zeroValue9
  t46 := Tryd.underlying99
  a46 := Tryd.isAgg99
  z46 := Tryd.sizeOf99
  v46 := Tryd.zeroValue99
  t51 := Tryd.underlying93
  a51 := Tryd.isAgg93
  z51 := Tryd.sizeOf93
  v51 := Tryd.zeroValue93
  t59 := Tryd.underlying50
  a59 := Tryd.isAgg50
  z59 := Tryd.sizeOf50
  v59 := Tryd.zeroValue50
  t146 := Tryd.underlying128
  a146 := Tryd.isAgg128
  z146 := Tryd.sizeOf128
  v146 := Tryd.zeroValue128
  g1 := by kernel_rfl }
open Go.RowKit Go.Lib in
/-- strings.Cut: "Cut slices s around the first instance of sep, returning the text before and after sep. The found result reports whether sep appears in s. If sep does not appear in s, cut returns s, "", false.": IT RETURNS 'Lib.cut s sep'; the world is as it was but for the count of draws. (LAID: no walk: one application.) -/
theorem Tryd.strings_Cut (s sep : ByteArray) (m : Int) (w : World) (hs : s.size < 4294967281) (hm : w.cell? ⟨0, 0, none⟩ = some (.int .i64 m)) :
    Calls Tryd.prog 35 #[.string s, .string sep] w fun e w' => e = .returned (.tuple #[.string ⟨(Lib.cut s.data.toList sep.data.toList).1.toArray⟩, .string ⟨(Lib.cut s.data.toList sep.data.toList).2.1.toArray⟩, .bool (Lib.cut s.data.toList sep.data.toList).2.2]) ∧ ∃ n, w' = w.drewN n := Any.strings_Cut Tryd.lays145 s sep m w hs hm
def Tryd.laysM219_ren : Go.Shelf.Ren := ⟨fun | 219 => 88 | 217 => 87 | 225 => 106 | 224 => 107 | 267 => 108 | 266 => 105 | 314 => 114 | n => n, fun | 9 => 9 | 3 => 3 | 4 => 4 | 5 => 5 | 46 => 99 | 146 => 128 | 51 => 93 | n => n, fun | 1 => 0 | n => n⟩
theorem Tryd.laysM219 : Go.Proofs.LaysM.n219 Tryd.prog Tryd.laysM219_ren := {
  mixed := by kernel_rfl
  f217 := Tryd.func87.trans (congrArg some (by kernel_rfl))
  f219 := Tryd.func88.trans (congrArg some (by kernel_rfl))
  f224 := Tryd.func107.trans (congrArg some (by kernel_rfl))
  f225 := Tryd.func106.trans (congrArg some (by kernel_rfl))
  f266 := Tryd.func105.trans (congrArg some (by kernel_rfl))
  f267 := Tryd.func108.trans (congrArg some (by kernel_rfl))
  f314 := Tryd.func114.trans (congrArg some (by kernel_rfl))
  t3 := Tryd.underlying3
  a3 := Tryd.isAgg3
  z3 := Tryd.sizeOf3
  v3 := Tryd.zeroValue3
  t4 := Tryd.underlying4
  a4 := Tryd.isAgg4
  z4 := Tryd.sizeOf4
  v4 := Tryd.zeroValue4
  t5 := Tryd.underlying5
  a5 := Tryd.isAgg5
  z5 := Tryd.sizeOf5
  v5 := Tryd.zeroValue5
  t9 := Tryd.underlying9
  a9 := Tryd.isAgg9
  z9 := Tryd.sizeOf9
  v9 := Tryd.zeroValue9
  t46 := Tryd.underlying99
  a46 := Tryd.isAgg99
  z46 := Tryd.sizeOf99
  v46 := Tryd.zeroValue99
  t51 := Tryd.underlying93
  a51 := Tryd.isAgg93
  z51 := Tryd.sizeOf93
  v51 := Tryd.zeroValue93
  t146 := Tryd.underlying128
  a146 := Tryd.isAgg128
  z146 := Tryd.sizeOf128
  v146 := Tryd.zeroValue128
  g1 := by kernel_rfl
  i3 := by kernel_rfl
  i4 := by kernel_rfl
  i5 := by kernel_rfl
  i9 := by kernel_rfl
  i46 := by kernel_rfl
  i51 := by kernel_rfl
  i146 := by kernel_rfl
  m1 := by kernel_rfl
  s1_3 := fun w h => Go.Proofs.cell_of_shapedOpen_int (zero := #[.int .i64 0]) (t := 3) h (of_decide_eq_true (by kernel_rfl)) (by kernel_rfl) rfl (by kernel_rfl) (by kernel_rfl) Tryd.underlying3 }
def Tryd.lays206_ren : Go.Shelf.Ren := ⟨fun | 206 => 73 | n => n, fun | 9 => 9 | 4 => 4 | 3 => 3 | n => n, fun | n => n⟩
theorem Tryd.lays206 : Go.Proofs.Lays.n206 Tryd.prog Tryd.lays206_ren := {
  mixed := by kernel_rfl
  f206 := Tryd.func73.trans (congrArg some (by kernel_rfl))
  t3 := Tryd.underlying3
  a3 := Tryd.isAgg3
  z3 := Tryd.sizeOf3
  v3 := Tryd.zeroValue3
  t4 := Tryd.underlying4
  a4 := Tryd.isAgg4
  z4 := Tryd.sizeOf4
  v4 := Tryd.zeroValue4
  t9 := Tryd.underlying9
  a9 := Tryd.isAgg9
  z9 := Tryd.sizeOf9
  v9 := Tryd.zeroValue9 }
open Go.RowKit Go.Lib in
/-- internal/stringslite.HasPrefix (what strings.HasPrefix calls). (LAID: no walk: one application.) -/
theorem Tryd.stringslite_HasPrefix (s p : ByteArray) (w : World) :
    Calls Tryd.prog 73 #[.string s, .string p] w fun e w' => e = .returned (.bool (Lib.hasPrefix s.data.toList p.data.toList)) ∧ w' = w := Any.stringslite_HasPrefix Tryd.lays206 s p w
def Tryd.lays99_ren : Go.Shelf.Ren := ⟨fun | 99 => 40 | 206 => 73 | n => n, fun | 9 => 9 | 4 => 4 | 3 => 3 | n => n, fun | n => n⟩
theorem Tryd.lays99 : Go.Proofs.Lays.n99 Tryd.prog Tryd.lays99_ren := {
  mixed := by kernel_rfl
  f99 := Tryd.func40.trans (congrArg some (by kernel_rfl))
  f206 := Tryd.func73.trans (congrArg some (by kernel_rfl))
  t3 := Tryd.underlying3
  a3 := Tryd.isAgg3
  z3 := Tryd.sizeOf3
  v3 := Tryd.zeroValue3
  t4 := Tryd.underlying4
  a4 := Tryd.isAgg4
  z4 := Tryd.sizeOf4
  v4 := Tryd.zeroValue4
  t9 := Tryd.underlying9
  a9 := Tryd.isAgg9
  z9 := Tryd.sizeOf9
  v9 := Tryd.zeroValue9 }
open Go.RowKit Go.Lib in
/-- strings.HasPrefix: "HasPrefix reports whether the string s begins with prefix.": IT RETURNS 'Lib.hasPrefix s prefix'; the world is as it was. (LAID: no walk: one application.) -/
theorem Tryd.strings_HasPrefix (s p : ByteArray) (w : World) :
    Calls Tryd.prog 40 #[.string s, .string p] w fun e w' => e = .returned (.bool (Lib.hasPrefix s.data.toList p.data.toList)) ∧ w' = w := Any.strings_HasPrefix Tryd.lays99 s p w
def Tryd.lays101_ren : Go.Shelf.Ren := ⟨fun | 101 => 68 | 208 => 94 | 206 => 73 | n => n, fun | 9 => 9 | 4 => 4 | 3 => 3 | n => n, fun | n => n⟩
theorem Tryd.lays101 : Go.Proofs.Lays.n101 Tryd.prog Tryd.lays101_ren := {
  mixed := by kernel_rfl
  f101 := Tryd.func68.trans (congrArg some (by kernel_rfl))
  f206 := Tryd.func73.trans (congrArg some (by kernel_rfl))
  f208 := Tryd.func94.trans (congrArg some (by kernel_rfl))
  t3 := Tryd.underlying3
  a3 := Tryd.isAgg3
  z3 := Tryd.sizeOf3
  v3 := Tryd.zeroValue3
  t4 := Tryd.underlying4
  a4 := Tryd.isAgg4
  z4 := Tryd.sizeOf4
  v4 := Tryd.zeroValue4
  t9 := Tryd.underlying9
  a9 := Tryd.isAgg9
  z9 := Tryd.sizeOf9
  v9 := Tryd.zeroValue9 }
open Go.RowKit Go.Lib in
/-- strings.TrimPrefix: "TrimPrefix returns s without the provided leading prefix string. If s doesn't start with prefix, s is returned unchanged.": IT RETURNS 'Lib.trimPrefix s prefix'; the world is as it was. (LAID: no walk: one application.) -/
theorem Tryd.strings_TrimPrefix (s p : ByteArray) (w : World) :
    Calls Tryd.prog 68 #[.string s, .string p] w fun e w' => e = .returned (.string ⟨(Lib.trimPrefix s.data.toList p.data.toList).toArray⟩) ∧ w' = w := Any.strings_TrimPrefix Tryd.lays101 s p w
def Tryd.lays154_ren : Go.Shelf.Ren := ⟨fun | 154 => 36 | 138 => 63 | 165 => 64 | 143 => 60 | 166 => 65 | 197 => 66 | 169 => 67 | 195 => 89 | 218 => 90 | 240 => 91 | 241 => 92 | 219 => 88 | 260 => 93 | 276 => 109 | 277 => 110 | 217 => 87 | 225 => 106 | 224 => 107 | 267 => 108 | 266 => 105 | 314 => 114 | n => n, fun | 9 => 9 | 3 => 3 | 4 => 4 | 72 => 75 | 0 => 0 | 76 => 79 | 105 => 81 | 21 => 21 | 5 => 5 | 70 => 73 | 20 => 20 | 37 => 63 | 75 => 78 | 127 => 108 | 164 => 121 | 46 => 99 | 119 => 123 | 139 => 126 | 138 => 125 | 146 => 128 | 51 => 93 | 80 => 83 | n => n, fun | 1 => 0 | 3 => 3 | 4 => 4 | n => n⟩
theorem Tryd.lays154 : Go.Proofs.Lays.n154 Tryd.prog Tryd.lays154_ren := {
  mixed := by kernel_rfl
  f138 := Tryd.func63.trans (congrArg some (by kernel_rfl))
  f143 := Tryd.func60.trans (congrArg some (by kernel_rfl))
  f154 := Tryd.func36.trans (congrArg some (by kernel_rfl))
  f165 := Tryd.func64.trans (congrArg some (by kernel_rfl))
  f166 := Tryd.func65.trans (congrArg some (by kernel_rfl))
  f169 := Tryd.func67.trans (congrArg some (by kernel_rfl))
  f195 := Tryd.func89.trans (congrArg some (by kernel_rfl))
  f197 := Tryd.func66.trans (congrArg some (by kernel_rfl))
  f217 := Tryd.func87.trans (congrArg some (by kernel_rfl))
  f218 := Tryd.func90.trans (congrArg some (by kernel_rfl))
  f219 := Tryd.func88.trans (congrArg some (by kernel_rfl))
  f224 := Tryd.func107.trans (congrArg some (by kernel_rfl))
  f225 := Tryd.func106.trans (congrArg some (by kernel_rfl))
  f240 := Tryd.func91.trans (congrArg some (by kernel_rfl))
  f241 := Tryd.func92.trans (congrArg some (by kernel_rfl))
  f260 := Tryd.func93.trans (congrArg some (by kernel_rfl))
  f266 := Tryd.func105.trans (congrArg some (by kernel_rfl))
  f267 := Tryd.func108.trans (congrArg some (by kernel_rfl))
  f276 := Tryd.func109.trans (congrArg some (by kernel_rfl))
  f277 := Tryd.func110.trans (congrArg some (by kernel_rfl))
  f314 := Tryd.func114.trans (congrArg some (by kernel_rfl))
  t0 := Tryd.underlying0
  a0 := Tryd.isAgg0
  z0 := Tryd.sizeOf0
  v0 := Tryd.zeroValue0
  t3 := Tryd.underlying3
  a3 := Tryd.isAgg3
  z3 := Tryd.sizeOf3
  v3 := Tryd.zeroValue3
  t4 := Tryd.underlying4
  a4 := Tryd.isAgg4
  z4 := Tryd.sizeOf4
  v4 := Tryd.zeroValue4
  t5 := Tryd.underlying5
  a5 := Tryd.isAgg5
  z5 := Tryd.sizeOf5
  v5 := Tryd.zeroValue5
  t9 := Tryd.underlying9
  a9 := Tryd.isAgg9
  z9 := Tryd.sizeOf9
  v9 := Tryd.zeroValue9
  t20 := Tryd.underlying20
  a20 := Tryd.isAgg20
  z20 := Tryd.sizeOf20
  v20 := Tryd.zeroValue20
  t21 := Tryd.underlying21
  a21 := Tryd.isAgg21
  z21 := Tryd.sizeOf21
  v21 := Tryd.zeroValue21
  t37 := Tryd.underlying63
  a37 := Tryd.isAgg63
  z37 := Tryd.sizeOf63
  v37 := Tryd.zeroValue63
  t46 := Tryd.underlying99
  a46 := Tryd.isAgg99
  z46 := Tryd.sizeOf99
  v46 := Tryd.zeroValue99
  t51 := Tryd.underlying93
  a51 := Tryd.isAgg93
  z51 := Tryd.sizeOf93
  v51 := Tryd.zeroValue93
  t70 := Tryd.underlying73
  a70 := Tryd.isAgg73
  z70 := Tryd.sizeOf73
  v70 := Tryd.zeroValue73
  t72 := Tryd.underlying75
  a72 := Tryd.isAgg75
  z72 := Tryd.sizeOf75
  v72 := Tryd.zeroValue75
  t75 := Tryd.underlying78
  a75 := Tryd.isAgg78
  z75 := Tryd.sizeOf78
  v75 := Tryd.zeroValue78
  t76 := Tryd.underlying79
  a76 := Tryd.isAgg79
  z76 := Tryd.sizeOf79
  v76 := Tryd.zeroValue79
  t105 := Tryd.underlying81
  a105 := Tryd.isAgg81
  z105 := Tryd.sizeOf81
  v105 := Tryd.zeroValue81
  t119 := Tryd.underlying123
  a119 := Tryd.isAgg123
  z119 := Tryd.sizeOf123
  t127 := Tryd.underlying108
  a127 := Tryd.isAgg108
  z127 := Tryd.sizeOf108
  v127 := Tryd.zeroValue108
  t138 := Tryd.underlying125
  a138 := Tryd.isAgg125
  z138 := Tryd.sizeOf125
  v138 := Tryd.zeroValue125
  t139 := Tryd.underlying126
  a139 := Tryd.isAgg126
  z139 := Tryd.sizeOf126
  v139 := Tryd.zeroValue126
  t146 := Tryd.underlying128
  a146 := Tryd.isAgg128
  z146 := Tryd.sizeOf128
  v146 := Tryd.zeroValue128
  t164 := Tryd.underlying121
  a164 := Tryd.isAgg121
  z164 := Tryd.sizeOf121
  v164 := Tryd.zeroValue121
  g1 := by kernel_rfl
  g3 := by kernel_rfl
  g4 := by kernel_rfl }
theorem Tryd.Builder_Extra_154 : Builder.Extra Tryd.prog Tryd.lays154_ren := {
  sizeBuilder := by kernel_rfl
  liesBuilder := by kernel_rfl
  t5 := Tryd.underlying5
  a5 := Tryd.isAgg5
  z5 := Tryd.sizeOf5
  v5 := Tryd.zeroValue5
  infoByte := by kernel_rfl
  cellsByte := by kernel_rfl
  sizeByte := by kernel_rfl
  neB5 := by decide }
open Go.RowKit Go.Lib in
/-- strings.Replace: "Replace returns a copy of the string s with the first n non-overlapping instances of old replaced by new. .. If n < 0, there is no limit on the number of replacements.": AT AN old THAT IS NOT EMPTY: IT RETURNS 'Lib.replace s old new n'. Below the heap's end the world is as it was. IT ASKS, as strings.Index's contract: 'len(s) < 4294967281', 'hm'; and that what comes out has room: 'len(s) + Count(s, old) * len(new) ≤ 2^47'. (LAID: no walk: one application.) -/
theorem Tryd.strings_Replace (s old new : ByteArray) (n : Int) (m : Int) (w : World) (hs : s.size < 4294967281) (hm : w.cell? ⟨0, 0, none⟩ = some (.int .i64 m)) (h1 : 1 ≤ old.size) (hlen : s.size + Lib.countB s old * new.size ≤ 140737488355328) :
    Calls Tryd.prog 36 #[.string s, .string old, .string new, .int .i64 n] w fun e w' =>
      e = .returned (.string ⟨(Lib.replace s.data.toList old.data.toList new.data.toList n).toArray⟩) ∧ Below w.heap.size w w' := Any.strings_Replace Tryd.lays154 Tryd.Builder_Extra_154 s old new n m w hs hm h1 hlen
end Go.Proofs

namespace Go.Proofs.YtolpefnedpgaaaaDoor.X
open Go.RowKit Go.Proofs.YtolpefnedpgaaaaDoorW.PrintWords
set_option linter.unusedVariables false
set_option linter.unusedSimpArgs false
/-- strings.IndexByte. -/
def strings_IndexByte.f (s : ByteArray) (c : Int) : Option Int := some (Lib.indexByte s.data.toList c.toNat.toUInt8)
theorem strings_IndexByte.calls (a0 : ByteArray) (a1 : Int) (r : Int) (w : World) (h : strings_IndexByte.f a0 a1 = some r) :
    Calls Tryd.prog 59 #[.string a0, .int .u8 a1] w fun e w' => e = .returned (.int .i64 r) ∧ Drawn0 w w' := by
  obtain rfl := Option.some.inj h
  refine (Tryd.strings_IndexByte a0 a1 w).mono ?_
  rintro e w' ⟨rfl, rfl⟩
  exact ⟨rfl, Drawn0.refl _⟩
end Go.Proofs.YtolpefnedpgaaaaDoor.X

namespace Go.Proofs.YtolpefnedpgaaaaDoor.X
open Go.RowKit Go.Proofs.YtolpefnedpgaaaaDoorW.PrintWords Go.Proofs.YtolpefnedpgaaaaDoorW.PrintLast Go.Proofs.YtolpefnedpgaaaaDoorW.PrintMore
attribute [local go_sem] max2_int min2_int max_two min_two max_three min_three max_four min_four   -- for this text's walks alone
set_option linter.unusedVariables false
set_option linter.unusedSimpArgs false

def stringslite_HasPrefix.f (a0 : ByteArray) (a1 : ByteArray) : Option (Bool) := if (a0.size : Int) ≥ (a1.size : Int) then (if 0 ≤ (a1.size : Int) then (if (a1.size : Int) ≤ (a0.size : Int) then (some ((a0.extract 0 ((a1.size : Int) : Int).toNat).toList == a1.toList)) else (none)) else (none)) else (some false)
set_option maxHeartbeats 8000000 in
set_option maxRecDepth 100000 in
theorem stringslite_HasPrefix.calls (a0 : ByteArray) (a1 : ByteArray) (r : Bool) (w : World) (h : stringslite_HasPrefix.f a0 a1 = some r) :
    Calls Tryd.prog 73 #[.string a0, .string a1] w fun e w' => e = .returned (.bool r) ∧ Drawn0 w w' := by
  have H : (if (a0.size : Int) ≥ (a1.size : Int) then (if 0 ≤ (a1.size : Int) then (if (a1.size : Int) ≤ (a0.size : Int) then (some ((a0.extract 0 ((a1.size : Int) : Int).toNat).toList == a1.toList)) else (none)) else (none)) else (some false)) = some r := h
  clear h
  by_cases c3 : (a0.size : Int) ≥ (a1.size : Int)
  · rw [if_pos c3] at H
    have c3b0 : decide ((a1.size : Int) ≤ (a0.size : Int)) = true := decide_eq_true c3
    have c3b1 : decide (a1.size ≤ a0.size) = true := decide_eq_true (Int.ofNat_le.mp c3)
    clear c3
    by_cases c4 : 0 ≤ (a1.size : Int)
    · rw [if_pos c4] at H
      have c4b0 := eq_true c4
      have c4b1 : decide (0 ≤ (a1.size : Int)) = true := decide_eq_true c4
      clear c4
      by_cases c5 : (a1.size : Int) ≤ (a0.size : Int)
      · rw [if_pos c5] at H
        have c5b0 := eq_true c5
        have c5b1 : decide ((a1.size : Int) ≤ (a0.size : Int)) = true := decide_eq_true c5
        clear c5
        obtain rfl := Option.some.inj H
        go_enter Tryd.func73, Tryd.ntmps73
        go_wp2
        go_ret
        exact ⟨by first | rfl | (simp; done) | (simp; decide +kernel) | (simp [*]; done), by repeat (first | exact Drawn0.refl _ | apply Drawn0.step)⟩
      · rw [if_neg c5] at H
        exact absurd H (by simp)
    · rw [if_neg c4] at H
      exact absurd H (by simp)
  · rw [if_neg c3] at H
    have c3b0 : decide ((a1.size : Int) ≤ (a0.size : Int)) = false := decide_eq_false c3
    have c3b1 : decide (a1.size ≤ a0.size) = false := decide_eq_false (fun h => c3 (Int.ofNat_le.mpr h))
    clear c3
    obtain rfl := Option.some.inj H
    go_enter Tryd.func73, Tryd.ntmps73
    go_wp2
    go_ret
    exact ⟨by first | rfl | (simp; done) | (simp; decide +kernel) | (simp [*]; done), by repeat (first | exact Drawn0.refl _ | apply Drawn0.step)⟩

def stringslite_CutPrefix.f (a0 : ByteArray) (a1 : ByteArray) : Option (ByteArray × Bool) := (stringslite_HasPrefix.f a0 a1).bind fun t101 => (if t101 = true then (if 0 ≤ (a1.size : Int) then (if (a1.size : Int) ≤ (a0.size : Int) then (some (a0.extract ((a1.size : Int) : Int).toNat a0.size, true)) else (none)) else (none)) else (some (a0, false)))
set_option maxHeartbeats 8000000 in
set_option maxRecDepth 100000 in
theorem stringslite_CutPrefix.calls (a0 : ByteArray) (a1 : ByteArray) (r1 : ByteArray) (r2 : Bool) (w : World) (h : stringslite_CutPrefix.f a0 a1 = some (r1, r2)) :
    Calls Tryd.prog 58 #[.string a0, .string a1] w fun e w' => e = .returned (.tuple #[.string r1, .bool r2]) ∧ Drawn0 w w' := by
  have H : ((stringslite_HasPrefix.f a0 a1).bind fun t101 => (if t101 = true then (if 0 ≤ (a1.size : Int) then (if (a1.size : Int) ≤ (a0.size : Int) then (some (a0.extract ((a1.size : Int) : Int).toNat a0.size, true)) else (none)) else (none)) else (some (a0, false)))) = some (r1, r2) := h
  clear h
  replace H := Option.bind_eq_some_iff.mp H
  obtain ⟨t101, A30, H⟩ := H
  replace H : (if t101 = true then (if 0 ≤ (a1.size : Int) then (if (a1.size : Int) ≤ (a0.size : Int) then (some (a0.extract ((a1.size : Int) : Int).toNat a0.size, true)) else (none)) else (none)) else (some (a0, false))) = some (r1, r2) := H
  have A3 := Aside0.mk A30
  clear A30
  by_cases c4 : t101 = true
  · subst c4
    have H1 : (if 0 ≤ (a1.size : Int) then (if (a1.size : Int) ≤ (a0.size : Int) then (some (a0.extract ((a1.size : Int) : Int).toNat a0.size, true)) else (none)) else (none)) = some (r1, r2) := by rw [if_pos rfl] at H; exact H
    clear H
    have H := H1
    clear H1
    by_cases c5 : 0 ≤ (a1.size : Int)
    · rw [if_pos c5] at H
      have c5b0 := eq_true c5
      have c5b1 : decide (0 ≤ (a1.size : Int)) = true := decide_eq_true c5
      clear c5
      by_cases c6 : (a1.size : Int) ≤ (a0.size : Int)
      · rw [if_pos c6] at H
        have c6b0 := eq_true c6
        have c6b1 : decide ((a1.size : Int) ≤ (a0.size : Int)) = true := decide_eq_true c6
        clear c6
        simp only [Option.some.injEq, Prod.mk.injEq] at H
        obtain ⟨rfl, rfl⟩ := H
        go_enter Tryd.func58, Tryd.ntmps58
        go_wp2_with (first | ((with_reducible refine gate_callee (f := 73) rfl ?_); refine goesL_ (some 8) rfl rfl Tryd.func73 (by kernel_rfl) rfl #[.string a0, .string a1] rfl (by (try simp only [List.map_toArray, List.map_cons, List.map_nil]); first | done | rfl | (simp only [List.length_drop, List.length_take]; rfl)) ?_; (with_reducible refine (stringslite_HasPrefix.calls a0 a1 true _ A3.out).mono ?_); rintro e w' ⟨rfl, ⟨nd, rfl⟩⟩; refine ⟨_, rfl, ?_⟩))
        go_ret2
        exact ⟨by first | rfl | (simp; done) | (simp; decide +kernel) | (simp [*]; done), by repeat (first | exact Drawn0.refl _ | apply Drawn0.step)⟩
      · rw [if_neg c6] at H
        exact absurd H (by simp)
    · rw [if_neg c5] at H
      exact absurd H (by simp)
  · replace c4 := Bool.eq_false_iff.mpr c4
    subst c4
    have H1 : (some (a0, false)) = some (r1, r2) := by rw [if_neg (show ¬ (false = true) by decide)] at H; exact H
    clear H
    have H := H1
    clear H1
    simp only [Option.some.injEq, Prod.mk.injEq] at H
    obtain ⟨rfl, rfl⟩ := H
    go_enter Tryd.func58, Tryd.ntmps58
    go_wp2_with (first | ((with_reducible refine gate_callee (f := 73) rfl ?_); refine goesL_ (some 8) rfl rfl Tryd.func73 (by kernel_rfl) rfl #[.string a0, .string a1] rfl (by (try simp only [List.map_toArray, List.map_cons, List.map_nil]); first | done | rfl | (simp only [List.length_drop, List.length_take]; rfl)) ?_; (with_reducible refine (stringslite_HasPrefix.calls a0 a1 false _ A3.out).mono ?_); rintro e w' ⟨rfl, ⟨nd, rfl⟩⟩; refine ⟨_, rfl, ?_⟩))
    go_ret2
    exact ⟨by first | rfl | (simp; done) | (simp; decide +kernel) | (simp [*]; done), by repeat (first | exact Drawn0.refl _ | apply Drawn0.step)⟩

def strings_CutPrefix.f (a0 : ByteArray) (a1 : ByteArray) : Option (ByteArray × Bool) := (stringslite_CutPrefix.f a0 a1).bind fun bt102 => (some (bt102.1, bt102.2))
set_option maxHeartbeats 8000000 in
set_option maxRecDepth 100000 in
theorem strings_CutPrefix.calls (a0 : ByteArray) (a1 : ByteArray) (r1 : ByteArray) (r2 : Bool) (w : World) (h : strings_CutPrefix.f a0 a1 = some (r1, r2)) :
    Calls Tryd.prog 29 #[.string a0, .string a1] w fun e w' => e = .returned (.tuple #[.string r1, .bool r2]) ∧ Drawn0 w w' := by
  have H : ((stringslite_CutPrefix.f a0 a1).bind fun bt102 => (some (bt102.1, bt102.2))) = some (r1, r2) := h
  clear h
  replace H := Option.bind_eq_some_iff.mp H
  obtain ⟨⟨t102, t103⟩, A30, H⟩ := H
  replace H : (some (t102, t103)) = some (r1, r2) := H
  have A3 := Aside0.mk A30
  clear A30
  simp only [Option.some.injEq, Prod.mk.injEq] at H
  obtain ⟨rfl, rfl⟩ := H
  go_enter Tryd.func29, Tryd.ntmps29
  go_wp2_with (first | ((with_reducible refine gate_callee (f := 58) rfl ?_); refine goesL_ (some 8) rfl rfl Tryd.func58 (by kernel_rfl) rfl #[.string a0, .string a1] rfl (by (try simp only [List.map_toArray, List.map_cons, List.map_nil]); first | done | rfl | (simp only [List.length_drop, List.length_take]; rfl)) ?_; (with_reducible refine (stringslite_CutPrefix.calls a0 a1 t102 t103 _ A3.out).mono ?_); rintro e w' ⟨rfl, ⟨nd, rfl⟩⟩; refine ⟨_, rfl, ?_⟩))
  go_ret2
  exact ⟨by first | rfl | (simp; done) | (simp; decide +kernel) | (simp [*]; done), by repeat (first | exact Drawn0.refl _ | apply Drawn0.step)⟩

mutual
def attribute_all.j0 : Nat → ByteArray → ByteArray → Bool → Option (Bool)
  | 0, _, _, _ => none
  | k + 1, x0, x1, x16 => if x16 = true then (some false) else (attribute_all.l0 k x0 x1 (x0.size : Int) 0)
def attribute_all.l0 : Nat → ByteArray → ByteArray → Int → Int → Option (Bool)
  | 0, _, _, _, _ => none
  | k + 1, x0, x1, x18, x19 => if x19 < x18 then (if 0 ≤ x19 then (if x19 < (x0.size : Int) then ((strings_IndexByte.f x1 (bt x0 x19)).bind fun t104 => (if t104 < 0 then (some false) else (attribute_all.l0 k x0 x1 x18 (wrap64 (x19 + 1))))) else (none)) else (none)) else (some true)
end
def attribute_all.f (k : Nat) (a0 : ByteArray) (a1 : ByteArray) (a2 : Int) : Option (Bool) := if (a0.size : Int) < 1 then (attribute_all.j0 k a0 a1 true) else (attribute_all.j0 k a0 a1 (decide ((a0.size : Int) > a2)))
set_option maxHeartbeats 8000000 in
set_option maxRecDepth 100000 in
theorem attribute_all.calls (k : Nat) (a0 : ByteArray) (a1 : ByteArray) (a2 : Int) (r : Bool) (w : World) (h : attribute_all.f k a0 a1 a2 = some r) :
    Calls Tryd.prog 30 #[.string a0, .string a1, .int .i64 a2] w fun e w' => e = .returned (.bool r) ∧ Drawn0 w w' := by
  have H : (if (a0.size : Int) < 1 then (attribute_all.j0 k a0 a1 true) else (attribute_all.j0 k a0 a1 (decide ((a0.size : Int) > a2)))) = some r := h
  clear h
  have HC4 := Aside0.mk H
  clear H
  go_enter Tryd.func30, Tryd.ntmps30
  go_upto_region 1 with (fail)
  go_cut [16] (fun v16 wc => ∃ (kq : Nat) (x16_3 : Bool), v16 = .bool x16_3 ∧ Aside0 (attribute_all.j0 kq a0 a1 x16_3 = some r) ∧ Aside0 (kq ≤ k) ∧ Drawn0 w wc)
  case first =>
    have H := HC4.out
    clear HC4
    by_cases c5 : (a0.size : Int) < 1
    · rw [if_pos c5] at H
      have c5b0 : decide ((a0.size : Int) < 1) = true := decide_eq_true c5
      have c5b1 : decide (a0.size < 1) = true := decide_eq_true (by omega)
      clear c5
      (first | rw [c5b0] | (simp only [i64_w, i32_w]; rw [c5b0]) | skip)
      have H' := Aside0.mk H
      clear H
      go_wp2
      go_meet
      case rel => exact ⟨_, (true), (by first | rfl | (simp; done) | (simp; decide +kernel) | (simp [*]; done)), (by first | exact H' | (subst_vars; exact H')), ⟨by first | omega | exact Nat.le_refl _⟩, by repeat (first | exact Drawn0.refl _ | apply Drawn0.step)⟩
    · rw [if_neg c5] at H
      have c5b0 : decide ((a0.size : Int) < 1) = false := decide_eq_false c5
      have c5b1 : decide (a0.size < 1) = false := decide_eq_false (by omega)
      clear c5
      (first | rw [c5b0] | (simp only [i64_w, i32_w]; rw [c5b0]) | skip)
      have H' := Aside0.mk H
      clear H
      go_wp2
      go_meet
      case rel => exact ⟨_, (decide ((a0.size : Int) > a2)), (by first | rfl | (simp; done) | (simp; decide +kernel) | (simp [*]; done)), (by first | exact H' | (subst_vars; exact H')), ⟨by first | omega | exact Nat.le_refl _⟩, by repeat (first | exact Drawn0.refl _ | apply Drawn0.step)⟩
  case rest =>
    clear HC4
    try clear p2
    try clear c3
    try clear c5
    try clear c5b0
    try clear c5b1
    obtain ⟨kq, x16_3, rfl, HA, HJ3, ⟨mc3, rfl⟩⟩ := hcut
    cases kq with
    | zero => exact absurd HA.out (by simp [attribute_all.j0])
    | succ kj3 =>
      have H := HA.out
      clear HA
      simp only [attribute_all.j0] at H
      by_cases c6 : x16_3 = true
      · subst c6
        have H1 : (some false) = some r := by rw [if_pos rfl] at H; exact H
        clear H
        have H := H1
        clear H1
        obtain rfl := Option.some.inj H
        go_wp2
        go_ret
        exact ⟨by first | rfl | (simp; done) | (simp; decide +kernel) | (simp [*]; done), by repeat (first | exact Drawn0.refl _ | apply Drawn0.step)⟩
      · replace c6 := Bool.eq_false_iff.mpr c6
        subst c6
        have H1 : (attribute_all.l0 kj3 a0 a1 (a0.size : Int) 0) = some r := by rw [if_neg (show ¬ (false = true) by decide)] at H; exact H
        clear H
        have H := H1
        clear H1
        have H' := Aside0.mk H
        clear H
        go_wp2
        go_loopg [19] kj3 (fun kq v19 w' => ∃ (x19_2 : Int), v19 = .int .i64 x19_2 ∧ Aside0 (attribute_all.l0 kq a0 a1 (a0.size : Int) x19_2 = some r) ∧ Aside0 (kq ≤ kj3) ∧ Drawn0 w w')
        case atStart => exact ⟨(0), (by first | rfl | (simp; done) | (simp; decide +kernel) | (simp [*]; done)), (by first | exact H' | (subst_vars; exact H')), ⟨Nat.le_refl _⟩, by repeat (first | exact Drawn0.refl _ | apply Drawn0.step)⟩
        case round =>
          clear H'
          try clear p2
          try clear c3
          try clear c5
          try clear c5b0
          try clear c5b1
          try clear c6
          try clear p2
          obtain ⟨x19_2, rfl, HA, HK2, ⟨m2, rfl⟩⟩ := hrel
          cases gk with
          | zero => exact absurd HA.out (by simp [attribute_all.l0])
          | succ k2 =>
            have H := HA.out
            clear HA
            simp only [attribute_all.l0] at H
            by_cases c7 : x19_2 < (a0.size : Int)
            · rw [if_pos c7] at H
              have c7b0 : decide (x19_2 < (a0.size : Int)) = true := decide_eq_true c7
              clear c7
              by_cases c8 : 0 ≤ x19_2
              · rw [if_pos c8] at H
                have c8b0 : decide (0 ≤ x19_2) = true := decide_eq_true c8
                clear c8
                by_cases c9 : x19_2 < (a0.size : Int)
                · rw [if_pos c9] at H
                  have c9b0 : decide (x19_2 < (a0.size : Int)) = true := decide_eq_true c9
                  clear c9
                  replace H := Option.bind_eq_some_iff.mp H
                  obtain ⟨t104, A110, H⟩ := H
                  replace H : (if t104 < 0 then (some false) else (attribute_all.l0 k2 a0 a1 (a0.size : Int) (wrap64 (x19_2 + 1)))) = some r := H
                  have A11 := Aside0.mk A110
                  clear A110
                  by_cases c12 : t104 < 0
                  · rw [if_pos c12] at H
                    have c12b0 : decide (t104 < 0) = true := decide_eq_true c12
                    clear c12
                    obtain rfl := Option.some.inj H
                    have p10 : 0 ≤ (x19_2 : Int) := of_decide_eq_true (by first | (with_reducible assumption) | assumption)
                    have q10 : x19_2 < (a0.size : Int) := of_decide_eq_true (by first | (with_reducible assumption) | assumption)
                    have hx10 := bt_at a0 x19_2
                    replace p10 := eq_true p10
                    replace q10 := eq_true q10
                    go_wp2_with (first | ((with_reducible refine gate_callee (f := 59) rfl ?_); refine goesL_ (some 26) rfl rfl Tryd.func59 (by kernel_rfl) rfl #[.string a1, .int .u8 (bt a0 x19_2)] rfl (by (try simp only [List.map_toArray, List.map_cons, List.map_nil]); first | done | rfl | (simp only [List.length_drop, List.length_take]; rfl)) ?_; (with_reducible refine (strings_IndexByte.calls a1 (bt a0 x19_2) t104 _ A11.out).mono ?_); rintro e w' ⟨rfl, ⟨nd, rfl⟩⟩; refine ⟨_, rfl, ?_⟩))
                    go_ret
                    exact ⟨by first | rfl | (simp; done) | (simp; decide +kernel) | (simp [*]; done), by repeat (first | exact Drawn0.refl _ | apply Drawn0.step)⟩
                  · rw [if_neg c12] at H
                    have c12b0 : decide (t104 < 0) = false := decide_eq_false c12
                    clear c12
                    have H' := Aside0.mk H
                    clear H
                    have p10 : 0 ≤ (x19_2 : Int) := of_decide_eq_true (by first | (with_reducible assumption) | assumption)
                    have q10 : x19_2 < (a0.size : Int) := of_decide_eq_true (by first | (with_reducible assumption) | assumption)
                    have hx10 := bt_at a0 x19_2
                    replace p10 := eq_true p10
                    replace q10 := eq_true q10
                    go_wp2_with (first | ((with_reducible refine gate_callee (f := 59) rfl ?_); refine goesL_ (some 26) rfl rfl Tryd.func59 (by kernel_rfl) rfl #[.string a1, .int .u8 (bt a0 x19_2)] rfl (by (try simp only [List.map_toArray, List.map_cons, List.map_nil]); first | done | rfl | (simp only [List.length_drop, List.length_take]; rfl)) ?_; (with_reducible refine (strings_IndexByte.calls a1 (bt a0 x19_2) t104 _ A11.out).mono ?_); rintro e w' ⟨rfl, ⟨nd, rfl⟩⟩; refine ⟨_, rfl, ?_⟩))
                    go_roundg k2
                    case measure => have := HJ3.out; have := HK2.out; omega
                    case rel => exact ⟨(wrap64 (x19_2 + 1)), (by first | rfl | (simp; done) | (simp; decide +kernel) | (simp [*]; done)), (by first | exact H' | (subst_vars; exact H')), ⟨by have := HJ3.out; have := HK2.out; omega⟩, by repeat (first | exact Drawn0.refl _ | apply Drawn0.step)⟩
                · rw [if_neg c9] at H
                  exact absurd H (by simp)
              · rw [if_neg c8] at H
                exact absurd H (by simp)
            · rw [if_neg c7] at H
              have c7b0 : decide (x19_2 < (a0.size : Int)) = false := decide_eq_false c7
              clear c7
              obtain rfl := Option.some.inj H
              go_wp2
              go_ret
              exact ⟨by first | rfl | (simp; done) | (simp; decide +kernel) | (simp [*]; done), by repeat (first | exact Drawn0.refl _ | apply Drawn0.step)⟩

def attribute_Type.l0 : Nat → ByteArray → List ByteArray → Int → Int → Option (Int × Bool)
  | 0, _, _, _, _ => none
  | k + 1, x0, x8, x9, x10 => if x10 < x9 then (if 0 ≤ x10 then (if x10 < (x8.length : Int) then ((strings_CutPrefix.f x0 (rdOf ByteArray.empty x8 x10)).bind fun bt109 => (if bt109.2 = true then (if bt109.1.toList = ([] : List UInt8) then (some (wrap64 (x10 + 1), true)) else (if 0 < (bt109.1.size : Int) then (if (bt bt109.1 0) = 46 then (if 1 ≤ (bt109.1.size : Int) then ((attribute_all.f k (bt109.1.extract 1 bt109.1.size) (⟨#[65, 66, 67, 68, 69, 70, 71, 72, 73, 74, 75, 76, 77, 78, 79, 80, 81, 82, 83, 84, 85, 86, 87, 88, 89, 90, 97, 98, 99, 100, 101, 102, 103, 104, 105, 106, 107, 108, 109, 110, 111, 112, 113, 114, 115, 116, 117, 118, 119, 120, 121, 122, 48, 49, 50, 51, 52, 53, 54, 55, 56, 57, 95, 45, 46]⟩ : ByteArray) 32).bind fun t111 => (if t111 = true then (some (wrap64 (x10 + 1), true)) else (attribute_Type.l0 k x0 x8 x9 (wrap64 (x10 + 1))))) else (none)) else (attribute_Type.l0 k x0 x8 x9 (wrap64 (x10 + 1)))) else (none))) else (attribute_Type.l0 k x0 x8 x9 (wrap64 (x10 + 1))))) else (none)) else (none)) else (some (0, false))
def attribute_Type.f (k : Nat) (a0 : ByteArray) : Option (Int × Bool) := (some (([(⟨#[83, 116, 114, 105, 110, 103]⟩ : ByteArray), (⟨#[78, 117, 109, 98, 101, 114]⟩ : ByteArray), (⟨#[66, 105, 110, 97, 114, 121]⟩ : ByteArray)] : List ByteArray) : List ByteArray)).bind fun y105 => (attribute_Type.l0 k a0 y105 (y105.length : Int) 0)
set_option maxHeartbeats 8000000 in
set_option maxRecDepth 100000 in
theorem attribute_Type.calls (k : Nat) (a0 : ByteArray) (r1 : Int) (r2 : Bool) (w : World) (h : attribute_Type.f k a0 = some (r1, r2)) :
    Calls Tryd.prog 10 #[.string a0] w fun e w' => e = .returned (.tuple #[.int .i64 r1, .bool r2]) ∧ Below w.heap.size w w' := by
  have HB := Aside0.mk (Below.refl w.heap.size w)
  have H : ((some (([(⟨#[83, 116, 114, 105, 110, 103]⟩ : ByteArray), (⟨#[78, 117, 109, 98, 101, 114]⟩ : ByteArray), (⟨#[66, 105, 110, 97, 114, 121]⟩ : ByteArray)] : List ByteArray) : List ByteArray)).bind fun y105 => (attribute_Type.l0 k a0 y105 (y105.length : Int) 0)) = some (r1, r2) := h
  clear h
  obtain ⟨y105, hy105⟩ : ∃ y_ : List ByteArray, y_ = (([(⟨#[83, 116, 114, 105, 110, 103]⟩ : ByteArray), (⟨#[78, 117, 109, 98, 101, 114]⟩ : ByteArray), (⟨#[66, 105, 110, 97, 114, 121]⟩ : ByteArray)] : List ByteArray)) := ⟨_, rfl⟩
  replace H : (attribute_Type.l0 k a0 y105 (y105.length : Int) 0) = some (r1, r2) := by first | (rw [hy105]; with_reducible exact H) | (have H2_ := (Option.bind_some _ _).symm.trans H; rw [hy105]; with_reducible exact H2_) | (have H2_ := (Option.bind_some _ _).symm.trans H; with_reducible exact H2_) | with_reducible exact H | (rw [hy105]; exact H) | exact H
  have Ny105 := Aside0.mk hy105
  clear hy105
  have H' := Aside0.mk H
  clear H
  go_enter Tryd.func10, Tryd.ntmps10
  go_wp2_with (first | ((with_reducible refine gate_dst (N := 8) rfl ?_); refine Kd.R_lit Kd.string _ 9 ?hg (N := 8) ?hd (xs := ([(⟨#[83, 116, 114, 105, 110, 103]⟩ : ByteArray), (⟨#[78, 117, 109, 98, 101, 114]⟩ : ByteArray), (⟨#[66, 105, 110, 97, 114, 121]⟩ : ByteArray)] : List ByteArray)) (inner := [.string (⟨#[83, 116, 114, 105, 110, 103]⟩ : ByteArray), .string (⟨#[78, 117, 109, 98, 101, 114]⟩ : ByteArray), .string (⟨#[66, 105, 110, 97, 114, 121]⟩ : ByteArray)]) (ok := fun _ => True) (okp := fun _ => True) ?hr ?hp (fun _ hk => hk) trivial (Below.refl _ _) (Nat.le_refl _) (by simp) ?_; (case hd => rfl); (case hg => rfl); (case hr => first | (go_simp; done) | (go_simp; rfl)); (case hp => exact (Reps.one (show Kd.M Kd.string _ _ _ (⟨#[83, 116, 114, 105, 110, 103]⟩ : ByteArray) [.string (⟨#[83, 116, 114, 105, 110, 103]⟩ : ByteArray)] from rfl) (Reps.one (show Kd.M Kd.string _ _ _ (⟨#[78, 117, 109, 98, 101, 114]⟩ : ByteArray) [.string (⟨#[78, 117, 109, 98, 101, 114]⟩ : ByteArray)] from rfl) (Reps.one (show Kd.M Kd.string _ _ _ (⟨#[66, 105, 110, 97, 114, 121]⟩ : ByteArray) [.string (⟨#[66, 105, 110, 97, 114, 121]⟩ : ByteArray)] from rfl) (Reps.none _ _))))); intro v106 w2 ho3 hb hg_ hnew_; clear hg_ hnew_; (first | rw [← Ny105.out] at ho3 | (simp only [Int.reduceToNat] at ho3; rw [← Ny105.out] at ho3)); have n0_ := Aside0.mk (Kd.R_lower ho3 (below_size (by repeat (first | (with_reducible first | exact HB.out | apply below_alloc | apply pw_below_drewN | apply below_drew1) | exact HB.out)))); have n1_ := Aside0.mk (below_step (by repeat (first | (with_reducible first | exact HB.out | apply below_alloc | apply pw_below_drewN | apply below_drew1) | exact HB.out)) hb); clear HB; have HO107 := n0_; have HB := n1_; clear n0_ n1_; clear hb ho3; obtain ⟨Ao4, co4, eo4⟩ := Kd.R_slice HO107.out; subst eo4))
  go_loopg [10] k (fun kq v10 w' => ∃ (x10_1 : Int), v10 = .int .i64 x10_1 ∧ Aside0 (attribute_Type.l0 kq a0 y105 (y105.length : Int) x10_1 = some (r1, r2)) ∧ Aside0 (kq ≤ k) ∧ Aside0 (Kd.R Kd.string 9 w' w.heap.size (fun _ => True) (.slice Ao4 y105.length co4) y105) ∧ Aside0 (Below w.heap.size w w'))
  case atStart => exact ⟨(0), (by first | rfl | (simp; done) | (simp; decide +kernel) | (simp [*]; done)), (by first | exact H' | (subst_vars; exact H')), ⟨Nat.le_refl _⟩, ⟨by (with_reducible repeat (first | apply Kd.R_alloc | apply Kd.R_drewN | apply Kd.R_drew)); exact HO107.out⟩, ⟨by repeat (first | (with_reducible first | exact HB.out | apply below_alloc | apply pw_below_drewN | apply below_drew1) | exact HB.out)⟩⟩
  case round =>
    clear H'
    try clear c1
    try clear p2
    obtain ⟨x10_1, rfl, HA, HK1, HO_8, HB⟩ := hrel
    cases gk with
    | zero => exact absurd HA.out (by simp [attribute_Type.l0])
    | succ k1 =>
      have H := HA.out
      clear HA
      simp only [attribute_Type.l0] at H
      by_cases c5 : x10_1 < (y105.length : Int)
      · rw [if_pos c5] at H
        have c5b0 : decide (x10_1 < (y105.length : Int)) = true := decide_eq_true c5
        clear c5
        by_cases c6 : 0 ≤ x10_1
        · rw [if_pos c6] at H
          have c6b0 : decide (0 ≤ x10_1) = true := decide_eq_true c6
          clear c6
          by_cases c7 : x10_1 < (y105.length : Int)
          · rw [if_pos c7] at H
            have c7b0 : decide (x10_1 < (y105.length : Int)) = true := decide_eq_true c7
            clear c7
            replace H := Option.bind_eq_some_iff.mp H
            obtain ⟨⟨t109, t110⟩, A80, H⟩ := H
            replace H : (if t110 = true then (if t109.toList = ([] : List UInt8) then (some (wrap64 (x10_1 + 1), true)) else (if 0 < (t109.size : Int) then (if (bt t109 0) = 46 then (if 1 ≤ (t109.size : Int) then ((attribute_all.f k1 (t109.extract 1 t109.size) (⟨#[65, 66, 67, 68, 69, 70, 71, 72, 73, 74, 75, 76, 77, 78, 79, 80, 81, 82, 83, 84, 85, 86, 87, 88, 89, 90, 97, 98, 99, 100, 101, 102, 103, 104, 105, 106, 107, 108, 109, 110, 111, 112, 113, 114, 115, 116, 117, 118, 119, 120, 121, 122, 48, 49, 50, 51, 52, 53, 54, 55, 56, 57, 95, 45, 46]⟩ : ByteArray) 32).bind fun t111 => (if t111 = true then (some (wrap64 (x10_1 + 1), true)) else (attribute_Type.l0 k1 a0 y105 (y105.length : Int) (wrap64 (x10_1 + 1))))) else (none)) else (attribute_Type.l0 k1 a0 y105 (y105.length : Int) (wrap64 (x10_1 + 1)))) else (none))) else (attribute_Type.l0 k1 a0 y105 (y105.length : Int) (wrap64 (x10_1 + 1)))) = some (r1, r2) := H
            have A8 := Aside0.mk A80
            clear A80
            by_cases c9 : t110 = true
            · subst c9
              have H1 : (if t109.toList = ([] : List UInt8) then (some (wrap64 (x10_1 + 1), true)) else (if 0 < (t109.size : Int) then (if (bt t109 0) = 46 then (if 1 ≤ (t109.size : Int) then ((attribute_all.f k1 (t109.extract 1 t109.size) (⟨#[65, 66, 67, 68, 69, 70, 71, 72, 73, 74, 75, 76, 77, 78, 79, 80, 81, 82, 83, 84, 85, 86, 87, 88, 89, 90, 97, 98, 99, 100, 101, 102, 103, 104, 105, 106, 107, 108, 109, 110, 111, 112, 113, 114, 115, 116, 117, 118, 119, 120, 121, 122, 48, 49, 50, 51, 52, 53, 54, 55, 56, 57, 95, 45, 46]⟩ : ByteArray) 32).bind fun t111 => (if t111 = true then (some (wrap64 (x10_1 + 1), true)) else (attribute_Type.l0 k1 a0 y105 (y105.length : Int) (wrap64 (x10_1 + 1))))) else (none)) else (attribute_Type.l0 k1 a0 y105 (y105.length : Int) (wrap64 (x10_1 + 1)))) else (none))) = some (r1, r2) := by rw [if_pos rfl] at H; exact H
              clear H
              have H := H1
              clear H1
              by_cases c10 : t109.toList = ([] : List UInt8)
              · rw [if_pos c10] at H
                have c10b0 : (t109.toList == ([] : List UInt8)) = true := beq_iff_eq.mpr c10
                have c10b1 : (t109.toList != ([] : List UInt8)) = false := bne_eq_false_iff_eq.mpr c10
                clear c10
                simp only [Option.some.injEq, Prod.mk.injEq] at H
                obtain ⟨rfl, rfl⟩ := H
                have p108 : 0 ≤ (x10_1 : Int) := of_decide_eq_true (by first | (with_reducible assumption) | assumption)
                have q108 : x10_1 < (y105.length : Int) := of_decide_eq_true (by first | (with_reducible assumption) | assumption)
                obtain ⟨ad108, e108, hx108_0⟩ := Kd.at_string (Kd.R_reads' HO_8.out).2.2 x10_1 p108 q108
                cases e108
                replace p108 := eq_true p108
                replace q108 := eq_true q108
                go_wp2_with (first | ((with_reducible refine gate_callee (f := 29) rfl ?_); refine goesL_ (some 18) rfl rfl Tryd.func29 (by kernel_rfl) rfl #[.string a0, .string (rdOf ByteArray.empty y105 x10_1)] rfl (by (try simp only [List.map_toArray, List.map_cons, List.map_nil]); first | done | rfl | (simp only [List.length_drop, List.length_take]; rfl)) ?_; (with_reducible refine (strings_CutPrefix.calls a0 (rdOf ByteArray.empty y105 x10_1) t109 true _ A8.out).mono ?_); rintro e w' ⟨rfl, ⟨nd, rfl⟩⟩; refine ⟨_, rfl, ?_⟩))
                go_ret2
                exact ⟨by first | rfl | (simp [errW_none, errW_some] <;> rfl) | (simp [*, errW_none, errW_some] <;> rfl), by repeat (first | (with_reducible first | exact HB.out | apply below_alloc | apply pw_below_drewN | apply below_drew1) | exact HB.out)⟩
              · rw [if_neg c10] at H
                have c10b0 : (t109.toList == ([] : List UInt8)) = false := beq_eq_false_iff_ne.mpr c10
                have c10b1 : (t109.toList != ([] : List UInt8)) = true := bne_iff_ne.mpr c10
                by_cases c11 : 0 < (t109.size : Int)
                · rw [if_pos c11] at H
                  have c11b0 : decide (0 < (t109.size : Int)) = true := decide_eq_true c11
                  have c11b1 : decide (0 < t109.size) = true := decide_eq_true (by omega)
                  clear c11
                  by_cases c13 : (bt t109 0) = 46
                  · rw [if_pos c13] at H
                    have c13b0 : ((bt t109 0) == 46) = true := beq_iff_eq.mpr c13
                    have c13b1 : ((bt t109 0) != 46) = false := bne_eq_false_iff_eq.mpr c13
                    clear c13
                    by_cases c14 : 1 ≤ (t109.size : Int)
                    · rw [if_pos c14] at H
                      have c14b0 := eq_true c14
                      have c14b1 : decide (1 ≤ (t109.size : Int)) = true := decide_eq_true c14
                      clear c14
                      replace H := Option.bind_eq_some_iff.mp H
                      obtain ⟨t111, A150, H⟩ := H
                      replace H : (if t111 = true then (some (wrap64 (x10_1 + 1), true)) else (attribute_Type.l0 k1 a0 y105 (y105.length : Int) (wrap64 (x10_1 + 1)))) = some (r1, r2) := H
                      have A15 := Aside0.mk A150
                      clear A150
                      by_cases c16 : t111 = true
                      · subst c16
                        have H1 : (some (wrap64 (x10_1 + 1), true)) = some (r1, r2) := by rw [if_pos rfl] at H; exact H
                        clear H
                        have H := H1
                        clear H1
                        simp only [Option.some.injEq, Prod.mk.injEq] at H
                        obtain ⟨rfl, rfl⟩ := H
                        have p108 : 0 ≤ (x10_1 : Int) := of_decide_eq_true (by first | (with_reducible assumption) | assumption)
                        have q108 : x10_1 < (y105.length : Int) := of_decide_eq_true (by first | (with_reducible assumption) | assumption)
                        obtain ⟨ad108, e108, hx108_0⟩ := Kd.at_string (Kd.R_reads' HO_8.out).2.2 x10_1 p108 q108
                        cases e108
                        replace p108 := eq_true p108
                        replace q108 := eq_true q108
                        go_wp2_with (first | ((with_reducible refine gate_callee (f := 29) rfl ?_); refine goesL_ (some 18) rfl rfl Tryd.func29 (by kernel_rfl) rfl #[.string a0, .string (rdOf ByteArray.empty y105 x10_1)] rfl (by (try simp only [List.map_toArray, List.map_cons, List.map_nil]); first | done | rfl | (simp only [List.length_drop, List.length_take]; rfl)) ?_; (with_reducible refine (strings_CutPrefix.calls a0 (rdOf ByteArray.empty y105 x10_1) t109 true _ A8.out).mono ?_); rintro e w' ⟨rfl, ⟨nd, rfl⟩⟩; refine ⟨_, rfl, ?_⟩; have p12 : 0 ≤ (0 : Int) := (by omega); have q12 : 0 < t109.size := (by have : (0 : Int) < (t109.size : Int) := of_decide_eq_true (by first | (with_reducible assumption) | assumption); omega); have hx12 : ∀ h : 0 < t109.size, ((t109[0]'h).toNat : Int) = bt t109 0 := bt_at t109 0; clear p12; have qi12 : (0 < (t109.size : Int)) = True := eq_true (of_decide_eq_true (by first | (with_reducible assumption) | assumption)); replace q12 := eq_true q12) | (go_at_call 30; (with_reducible refine (attribute_all.calls k1 (t109.extract 1 t109.size) (⟨#[65, 66, 67, 68, 69, 70, 71, 72, 73, 74, 75, 76, 77, 78, 79, 80, 81, 82, 83, 84, 85, 86, 87, 88, 89, 90, 97, 98, 99, 100, 101, 102, 103, 104, 105, 106, 107, 108, 109, 110, 111, 112, 113, 114, 115, 116, 117, 118, 119, 120, 121, 122, 48, 49, 50, 51, 52, 53, 54, 55, 56, 57, 95, 45, 46]⟩ : ByteArray) 32 true _ A15.out).mono ?_); rintro e w' ⟨rfl, ⟨nd, rfl⟩⟩))
                        go_ret2
                        exact ⟨by first | rfl | (simp [errW_none, errW_some] <;> rfl) | (simp [*, errW_none, errW_some] <;> rfl), by repeat (first | (with_reducible first | exact HB.out | apply below_alloc | apply pw_below_drewN | apply below_drew1) | exact HB.out)⟩
                      · replace c16 := Bool.eq_false_iff.mpr c16
                        subst c16
                        have H1 : (attribute_Type.l0 k1 a0 y105 (y105.length : Int) (wrap64 (x10_1 + 1))) = some (r1, r2) := by rw [if_neg (show ¬ (false = true) by decide)] at H; exact H
                        clear H
                        have H := H1
                        clear H1
                        have H' := Aside0.mk H
                        clear H
                        have p108 : 0 ≤ (x10_1 : Int) := of_decide_eq_true (by first | (with_reducible assumption) | assumption)
                        have q108 : x10_1 < (y105.length : Int) := of_decide_eq_true (by first | (with_reducible assumption) | assumption)
                        obtain ⟨ad108, e108, hx108_0⟩ := Kd.at_string (Kd.R_reads' HO_8.out).2.2 x10_1 p108 q108
                        cases e108
                        replace p108 := eq_true p108
                        replace q108 := eq_true q108
                        go_wp2_with (first | ((with_reducible refine gate_callee (f := 29) rfl ?_); refine goesL_ (some 18) rfl rfl Tryd.func29 (by kernel_rfl) rfl #[.string a0, .string (rdOf ByteArray.empty y105 x10_1)] rfl (by (try simp only [List.map_toArray, List.map_cons, List.map_nil]); first | done | rfl | (simp only [List.length_drop, List.length_take]; rfl)) ?_; (with_reducible refine (strings_CutPrefix.calls a0 (rdOf ByteArray.empty y105 x10_1) t109 true _ A8.out).mono ?_); rintro e w' ⟨rfl, ⟨nd, rfl⟩⟩; refine ⟨_, rfl, ?_⟩; have p12 : 0 ≤ (0 : Int) := (by omega); have q12 : 0 < t109.size := (by have : (0 : Int) < (t109.size : Int) := of_decide_eq_true (by first | (with_reducible assumption) | assumption); omega); have hx12 : ∀ h : 0 < t109.size, ((t109[0]'h).toNat : Int) = bt t109 0 := bt_at t109 0; clear p12; have qi12 : (0 < (t109.size : Int)) = True := eq_true (of_decide_eq_true (by first | (with_reducible assumption) | assumption)); replace q12 := eq_true q12) | (go_at_call 30; (with_reducible refine (attribute_all.calls k1 (t109.extract 1 t109.size) (⟨#[65, 66, 67, 68, 69, 70, 71, 72, 73, 74, 75, 76, 77, 78, 79, 80, 81, 82, 83, 84, 85, 86, 87, 88, 89, 90, 97, 98, 99, 100, 101, 102, 103, 104, 105, 106, 107, 108, 109, 110, 111, 112, 113, 114, 115, 116, 117, 118, 119, 120, 121, 122, 48, 49, 50, 51, 52, 53, 54, 55, 56, 57, 95, 45, 46]⟩ : ByteArray) 32 false _ A15.out).mono ?_); rintro e w' ⟨rfl, ⟨nd, rfl⟩⟩))
                        go_roundg k1
                        case measure => have := HK1.out; omega
                        case rel => exact ⟨(wrap64 (x10_1 + 1)), (by first | rfl | (simp; done) | (simp; decide +kernel) | (simp [*]; done)), (by first | exact H' | (subst_vars; exact H')), ⟨by have := HK1.out; omega⟩, ⟨by (with_reducible repeat (first | apply Kd.R_alloc | apply Kd.R_drewN | apply Kd.R_drew)); exact HO_8.out⟩, ⟨by repeat (first | (with_reducible first | exact HB.out | apply below_alloc | apply pw_below_drewN | apply below_drew1) | exact HB.out)⟩⟩
                    · rw [if_neg c14] at H
                      exact absurd H (by simp)
                  · rw [if_neg c13] at H
                    have c13b0 : ((bt t109 0) == 46) = false := beq_eq_false_iff_ne.mpr c13
                    have c13b1 : ((bt t109 0) != 46) = true := bne_iff_ne.mpr c13
                    have H' := Aside0.mk H
                    clear H
                    have p108 : 0 ≤ (x10_1 : Int) := of_decide_eq_true (by first | (with_reducible assumption) | assumption)
                    have q108 : x10_1 < (y105.length : Int) := of_decide_eq_true (by first | (with_reducible assumption) | assumption)
                    obtain ⟨ad108, e108, hx108_0⟩ := Kd.at_string (Kd.R_reads' HO_8.out).2.2 x10_1 p108 q108
                    cases e108
                    replace p108 := eq_true p108
                    replace q108 := eq_true q108
                    go_wp2_with (first | ((with_reducible refine gate_callee (f := 29) rfl ?_); refine goesL_ (some 18) rfl rfl Tryd.func29 (by kernel_rfl) rfl #[.string a0, .string (rdOf ByteArray.empty y105 x10_1)] rfl (by (try simp only [List.map_toArray, List.map_cons, List.map_nil]); first | done | rfl | (simp only [List.length_drop, List.length_take]; rfl)) ?_; (with_reducible refine (strings_CutPrefix.calls a0 (rdOf ByteArray.empty y105 x10_1) t109 true _ A8.out).mono ?_); rintro e w' ⟨rfl, ⟨nd, rfl⟩⟩; refine ⟨_, rfl, ?_⟩; have p12 : 0 ≤ (0 : Int) := (by omega); have q12 : 0 < t109.size := (by have : (0 : Int) < (t109.size : Int) := of_decide_eq_true (by first | (with_reducible assumption) | assumption); omega); have hx12 : ∀ h : 0 < t109.size, ((t109[0]'h).toNat : Int) = bt t109 0 := bt_at t109 0; clear p12; have qi12 : (0 < (t109.size : Int)) = True := eq_true (of_decide_eq_true (by first | (with_reducible assumption) | assumption)); replace q12 := eq_true q12))
                    go_roundg k1
                    case measure => have := HK1.out; omega
                    case rel => exact ⟨(wrap64 (x10_1 + 1)), (by first | rfl | (simp; done) | (simp; decide +kernel) | (simp [*]; done)), (by first | exact H' | (subst_vars; exact H')), ⟨by have := HK1.out; omega⟩, ⟨by (with_reducible repeat (first | apply Kd.R_alloc | apply Kd.R_drewN | apply Kd.R_drew)); exact HO_8.out⟩, ⟨by repeat (first | (with_reducible first | exact HB.out | apply below_alloc | apply pw_below_drewN | apply below_drew1) | exact HB.out)⟩⟩
                · rw [if_neg c11] at H
                  exact absurd H (by simp)
            · replace c9 := Bool.eq_false_iff.mpr c9
              subst c9
              have H1 : (attribute_Type.l0 k1 a0 y105 (y105.length : Int) (wrap64 (x10_1 + 1))) = some (r1, r2) := by rw [if_neg (show ¬ (false = true) by decide)] at H; exact H
              clear H
              have H := H1
              clear H1
              have H' := Aside0.mk H
              clear H
              have p108 : 0 ≤ (x10_1 : Int) := of_decide_eq_true (by first | (with_reducible assumption) | assumption)
              have q108 : x10_1 < (y105.length : Int) := of_decide_eq_true (by first | (with_reducible assumption) | assumption)
              obtain ⟨ad108, e108, hx108_0⟩ := Kd.at_string (Kd.R_reads' HO_8.out).2.2 x10_1 p108 q108
              cases e108
              replace p108 := eq_true p108
              replace q108 := eq_true q108
              go_wp2_with (first | ((with_reducible refine gate_callee (f := 29) rfl ?_); refine goesL_ (some 18) rfl rfl Tryd.func29 (by kernel_rfl) rfl #[.string a0, .string (rdOf ByteArray.empty y105 x10_1)] rfl (by (try simp only [List.map_toArray, List.map_cons, List.map_nil]); first | done | rfl | (simp only [List.length_drop, List.length_take]; rfl)) ?_; (with_reducible refine (strings_CutPrefix.calls a0 (rdOf ByteArray.empty y105 x10_1) t109 false _ A8.out).mono ?_); rintro e w' ⟨rfl, ⟨nd, rfl⟩⟩; refine ⟨_, rfl, ?_⟩))
              go_roundg k1
              case measure => have := HK1.out; omega
              case rel => exact ⟨(wrap64 (x10_1 + 1)), (by first | rfl | (simp; done) | (simp; decide +kernel) | (simp [*]; done)), (by first | exact H' | (subst_vars; exact H')), ⟨by have := HK1.out; omega⟩, ⟨by (with_reducible repeat (first | apply Kd.R_alloc | apply Kd.R_drewN | apply Kd.R_drew)); exact HO_8.out⟩, ⟨by repeat (first | (with_reducible first | exact HB.out | apply below_alloc | apply pw_below_drewN | apply below_drew1) | exact HB.out)⟩⟩
          · rw [if_neg c7] at H
            exact absurd H (by simp)
        · rw [if_neg c6] at H
          exact absurd H (by simp)
      · rw [if_neg c5] at H
        have c5b0 : decide (x10_1 < (y105.length : Int)) = false := decide_eq_false c5
        clear c5
        simp only [Option.some.injEq, Prod.mk.injEq] at H
        obtain ⟨rfl, rfl⟩ := H
        go_wp2
        go_ret2
        exact ⟨by first | rfl | (simp [errW_none, errW_some] <;> rfl) | (simp [*, errW_none, errW_some] <;> rfl), by repeat (first | (with_reducible first | exact HB.out | apply below_alloc | apply pw_below_drewN | apply below_drew1) | exact HB.out)⟩

end Go.Proofs.YtolpefnedpgaaaaDoor.X

namespace Go.Proofs.YtolpefnedpgaaaaDoor.X
open Go.RowKit Go.Proofs.YtolpefnedpgaaaaDoorW.PrintWords Go.Proofs.YtolpefnedpgaaaaDoorW.PrintLast Go.Proofs.YtolpefnedpgaaaaDoorW.PrintMore
attribute [local go_sem] max2_int min2_int max_two min_two max_three min_three max_four min_four   -- for this text's walks alone
set_option linter.unusedVariables false
set_option linter.unusedSimpArgs false

mutual
def attribute_begins.l0 : Nat → ByteArray → ByteArray → Int → Int → Option (Bool)
  | 0, _, _, _, _ => none
  | k + 1, x0, x1, x13, x14 => if x14 < x13 then (if 0 ≤ x14 then (if x14 < (x0.size : Int) then (if (bt x0 x14) ≥ 65 then (attribute_begins.j1 k x0 x1 x14 (bt x0 x14) x13 x14 (decide ((bt x0 x14) ≤ 90))) else (attribute_begins.j1 k x0 x1 x14 (bt x0 x14) x13 x14 false)) else (none)) else (none)) else (some true)
def attribute_begins.j1 : Nat → ByteArray → ByteArray → Int → Int → Int → Int → Bool → Option (Bool)
  | 0, _, _, _, _, _, _, _ => none
  | k + 1, x0, x1, x5, x6, x13, x14, x25 => if x25 = true then (if 0 ≤ x5 then (if x5 < (x1.size : Int) then (if ((x6 + 32) % 256) = (bt x1 x5) then (attribute_begins.l0 k x0 x1 x13 (wrap64 (x14 + 1))) else (some false)) else (none)) else (none)) else (if 0 ≤ x5 then (if x5 < (x1.size : Int) then (if x6 = (bt x1 x5) then (attribute_begins.l0 k x0 x1 x13 (wrap64 (x14 + 1))) else (some false)) else (none)) else (none))
end
def attribute_begins.f (k : Nat) (a0 : ByteArray) (a1 : ByteArray) : Option (Bool) := if (a0.size : Int) < (a1.size : Int) then (some false) else (attribute_begins.l0 k a0 a1 (a1.size : Int) 0)
set_option maxHeartbeats 8000000 in
set_option maxRecDepth 100000 in
theorem attribute_begins.calls (k : Nat) (a0 : ByteArray) (a1 : ByteArray) (r : Bool) (w : World) (h : attribute_begins.f k a0 a1 = some r) :
    Calls Tryd.prog 33 #[.string a0, .string a1] w fun e w' => e = .returned (.bool r) ∧ Drawn0 w w' := by
  have H : (if (a0.size : Int) < (a1.size : Int) then (some false) else (attribute_begins.l0 k a0 a1 (a1.size : Int) 0)) = some r := h
  clear h
  by_cases c3 : (a0.size : Int) < (a1.size : Int)
  · rw [if_pos c3] at H
    have c3b0 : decide ((a0.size : Int) < (a1.size : Int)) = true := decide_eq_true c3
    have c3b1 : decide (a0.size < a1.size) = true := decide_eq_true (Int.ofNat_lt.mp c3)
    clear c3
    obtain rfl := Option.some.inj H
    go_enter Tryd.func33, Tryd.ntmps33
    go_wp2
    go_ret
    exact ⟨by first | rfl | (simp; done) | (simp; decide +kernel) | (simp [*]; done), by repeat (first | exact Drawn0.refl _ | apply Drawn0.step)⟩
  · rw [if_neg c3] at H
    have c3b0 : decide ((a0.size : Int) < (a1.size : Int)) = false := decide_eq_false c3
    have c3b1 : decide (a0.size < a1.size) = false := decide_eq_false (fun h => c3 (Int.ofNat_lt.mpr h))
    clear c3
    have H' := Aside0.mk H
    clear H
    go_enter Tryd.func33, Tryd.ntmps33
    go_wp2
    go_loopg [14] k (fun kq v14 w' => ∃ (x14_1 : Int), v14 = .int .i64 x14_1 ∧ Aside0 (attribute_begins.l0 kq a0 a1 (a1.size : Int) x14_1 = some r) ∧ Aside0 (kq ≤ k) ∧ Drawn0 w w')
    case atStart => exact ⟨(0), (by first | rfl | (simp; done) | (simp; decide +kernel) | (simp [*]; done)), (by first | exact H' | (subst_vars; exact H')), ⟨Nat.le_refl _⟩, by repeat (first | exact Drawn0.refl _ | apply Drawn0.step)⟩
    case round =>
      clear H'
      try clear p2
      try clear c3
      try clear c3b0
      try clear c3b1
      obtain ⟨x14_1, rfl, HA, HK1, ⟨m1, rfl⟩⟩ := hrel
      cases gk with
      | zero => exact absurd HA.out (by simp [attribute_begins.l0])
      | succ k1 =>
        have H := HA.out
        clear HA
        simp only [attribute_begins.l0] at H
        by_cases c4 : x14_1 < (a1.size : Int)
        · rw [if_pos c4] at H
          have c4b0 : decide (x14_1 < (a1.size : Int)) = true := decide_eq_true c4
          clear c4
          by_cases c5 : 0 ≤ x14_1
          · rw [if_pos c5] at H
            have c5b0 : decide (0 ≤ x14_1) = true := decide_eq_true c5
            clear c5
            by_cases c6 : x14_1 < (a0.size : Int)
            · rw [if_pos c6] at H
              have c6b0 : decide (x14_1 < (a0.size : Int)) = true := decide_eq_true c6
              clear c6
              have HC8 := Aside0.mk H
              clear H
              have p7 : 0 ≤ (x14_1 : Int) := of_decide_eq_true (by first | (with_reducible assumption) | assumption)
              have q7 : x14_1 < (a0.size : Int) := of_decide_eq_true (by first | (with_reducible assumption) | assumption)
              have hx7 := bt_at a0 x14_1
              replace p7 := eq_true p7
              replace q7 := eq_true q7
              go_upto_region 7 with (fail)
              go_cut [25] (fun v25 wc => ∃ (kq : Nat) (x25_7 : Bool), v25 = .bool x25_7 ∧ Aside0 (attribute_begins.j1 kq a0 a1 x14_1 (bt a0 x14_1) (a1.size : Int) x14_1 x25_7 = some r) ∧ Aside0 (kq ≤ k1) ∧ Drawn0 w wc)
              case first =>
                have H := HC8.out
                clear HC8
                by_cases c9 : (bt a0 x14_1) ≥ 65
                · rw [if_pos c9] at H
                  have c9b0 : decide (65 ≤ (bt a0 x14_1)) = true := decide_eq_true c9
                  clear c9
                  (first | rw [c9b0] | (simp only [i64_w, i32_w]; rw [c9b0]) | skip)
                  have H' := Aside0.mk H
                  clear H
                  go_wp2
                  go_meet
                  case rel => exact ⟨_, (decide ((bt a0 x14_1) ≤ 90)), (by first | rfl | (simp; done) | (simp; decide +kernel) | (simp [*]; done)), (by first | exact H' | (subst_vars; exact H')), ⟨by have := HK1.out; first | omega | exact Nat.le_refl _⟩, by repeat (first | exact Drawn0.refl _ | apply Drawn0.step)⟩
                · rw [if_neg c9] at H
                  have c9b0 : decide (65 ≤ (bt a0 x14_1)) = false := decide_eq_false c9
                  clear c9
                  (first | rw [c9b0] | (simp only [i64_w, i32_w]; rw [c9b0]) | skip)
                  have H' := Aside0.mk H
                  clear H
                  go_wp2
                  go_meet
                  case rel => exact ⟨_, (false), (by first | rfl | (simp; done) | (simp; decide +kernel) | (simp [*]; done)), (by first | exact H' | (subst_vars; exact H')), ⟨by have := HK1.out; first | omega | exact Nat.le_refl _⟩, by repeat (first | exact Drawn0.refl _ | apply Drawn0.step)⟩
              case rest =>
                clear HC8
                try clear p2
                try clear c3
                try clear c3b0
                try clear c3b1
                try clear c4
                try clear c4b0
                try clear c5
                try clear c5b0
                try clear c6
                try clear c6b0
                try clear p7
                try clear q7
                try clear hx7
                try clear c9
                try clear c9b0
                try clear p2
                try clear p7
                try clear q7
                obtain ⟨kq, x25_7, rfl, HA, HJ7, ⟨mc7, rfl⟩⟩ := hcut
                cases kq with
                | zero => exact absurd HA.out (by simp [attribute_begins.j1])
                | succ kj7 =>
                  have H := HA.out
                  clear HA
                  simp only [attribute_begins.j1] at H
                  by_cases c10 : x25_7 = true
                  · subst c10
                    have H1 : (if 0 ≤ x14_1 then (if x14_1 < (a1.size : Int) then (if (((bt a0 x14_1) + 32) % 256) = (bt a1 x14_1) then (attribute_begins.l0 kj7 a0 a1 (a1.size : Int) (wrap64 (x14_1 + 1))) else (some false)) else (none)) else (none)) = some r := by rw [if_pos rfl] at H; exact H
                    clear H
                    have H := H1
                    clear H1
                    by_cases c11 : 0 ≤ x14_1
                    · rw [if_pos c11] at H
                      have c11b0 : decide (0 ≤ x14_1) = true := decide_eq_true c11
                      clear c11
                      by_cases c12 : x14_1 < (a1.size : Int)
                      · rw [if_pos c12] at H
                        have c12b0 : decide (x14_1 < (a1.size : Int)) = true := decide_eq_true c12
                        clear c12
                        by_cases c14 : (((bt a0 x14_1) + 32) % 256) = (bt a1 x14_1)
                        · rw [if_pos c14] at H
                          have c14b0 : ((((bt a0 x14_1) + 32) % 256) == (bt a1 x14_1)) = true := beq_iff_eq.mpr c14
                          have c14b1 : ((((bt a0 x14_1) + 32) % 256) != (bt a1 x14_1)) = false := bne_eq_false_iff_eq.mpr c14
                          clear c14
                          have H' := Aside0.mk H
                          clear H
                          have p13 : 0 ≤ (x14_1 : Int) := of_decide_eq_true (by first | (with_reducible assumption) | assumption)
                          have q13 : x14_1 < (a1.size : Int) := of_decide_eq_true (by first | (with_reducible assumption) | assumption)
                          have hx13 := bt_at a1 x14_1
                          replace p13 := eq_true p13
                          replace q13 := eq_true q13
                          go_wp2
                          go_roundg kj7
                          case measure => have := HK1.out; have := HJ7.out; omega
                          case rel => exact ⟨(wrap64 (x14_1 + 1)), (by first | rfl | (simp; done) | (simp; decide +kernel) | (simp [*]; done)), (by first | exact H' | (subst_vars; exact H')), ⟨by have := HK1.out; have := HJ7.out; omega⟩, by repeat (first | exact Drawn0.refl _ | apply Drawn0.step)⟩
                        · rw [if_neg c14] at H
                          have c14b0 : ((((bt a0 x14_1) + 32) % 256) == (bt a1 x14_1)) = false := beq_eq_false_iff_ne.mpr c14
                          have c14b1 : ((((bt a0 x14_1) + 32) % 256) != (bt a1 x14_1)) = true := bne_iff_ne.mpr c14
                          obtain rfl := Option.some.inj H
                          have p13 : 0 ≤ (x14_1 : Int) := of_decide_eq_true (by first | (with_reducible assumption) | assumption)
                          have q13 : x14_1 < (a1.size : Int) := of_decide_eq_true (by first | (with_reducible assumption) | assumption)
                          have hx13 := bt_at a1 x14_1
                          replace p13 := eq_true p13
                          replace q13 := eq_true q13
                          go_wp2
                          go_ret
                          exact ⟨by first | rfl | (simp; done) | (simp; decide +kernel) | (simp [*]; done), by repeat (first | exact Drawn0.refl _ | apply Drawn0.step)⟩
                      · rw [if_neg c12] at H
                        exact absurd H (by simp)
                    · rw [if_neg c11] at H
                      exact absurd H (by simp)
                  · replace c10 := Bool.eq_false_iff.mpr c10
                    subst c10
                    have H1 : (if 0 ≤ x14_1 then (if x14_1 < (a1.size : Int) then (if (bt a0 x14_1) = (bt a1 x14_1) then (attribute_begins.l0 kj7 a0 a1 (a1.size : Int) (wrap64 (x14_1 + 1))) else (some false)) else (none)) else (none)) = some r := by rw [if_neg (show ¬ (false = true) by decide)] at H; exact H
                    clear H
                    have H := H1
                    clear H1
                    by_cases c15 : 0 ≤ x14_1
                    · rw [if_pos c15] at H
                      have c15b0 : decide (0 ≤ x14_1) = true := decide_eq_true c15
                      clear c15
                      by_cases c16 : x14_1 < (a1.size : Int)
                      · rw [if_pos c16] at H
                        have c16b0 : decide (x14_1 < (a1.size : Int)) = true := decide_eq_true c16
                        clear c16
                        by_cases c18 : (bt a0 x14_1) = (bt a1 x14_1)
                        · rw [if_pos c18] at H
                          have c18b0 : ((bt a0 x14_1) == (bt a1 x14_1)) = true := beq_iff_eq.mpr c18
                          have c18b1 : ((bt a0 x14_1) != (bt a1 x14_1)) = false := bne_eq_false_iff_eq.mpr c18
                          clear c18
                          have H' := Aside0.mk H
                          clear H
                          have p17 : 0 ≤ (x14_1 : Int) := of_decide_eq_true (by first | (with_reducible assumption) | assumption)
                          have q17 : x14_1 < (a1.size : Int) := of_decide_eq_true (by first | (with_reducible assumption) | assumption)
                          have hx17 := bt_at a1 x14_1
                          replace p17 := eq_true p17
                          replace q17 := eq_true q17
                          go_wp2
                          go_roundg kj7
                          case measure => have := HK1.out; have := HJ7.out; omega
                          case rel => exact ⟨(wrap64 (x14_1 + 1)), (by first | rfl | (simp; done) | (simp; decide +kernel) | (simp [*]; done)), (by first | exact H' | (subst_vars; exact H')), ⟨by have := HK1.out; have := HJ7.out; omega⟩, by repeat (first | exact Drawn0.refl _ | apply Drawn0.step)⟩
                        · rw [if_neg c18] at H
                          have c18b0 : ((bt a0 x14_1) == (bt a1 x14_1)) = false := beq_eq_false_iff_ne.mpr c18
                          have c18b1 : ((bt a0 x14_1) != (bt a1 x14_1)) = true := bne_iff_ne.mpr c18
                          obtain rfl := Option.some.inj H
                          have p17 : 0 ≤ (x14_1 : Int) := of_decide_eq_true (by first | (with_reducible assumption) | assumption)
                          have q17 : x14_1 < (a1.size : Int) := of_decide_eq_true (by first | (with_reducible assumption) | assumption)
                          have hx17 := bt_at a1 x14_1
                          replace p17 := eq_true p17
                          replace q17 := eq_true q17
                          go_wp2
                          go_ret
                          exact ⟨by first | rfl | (simp; done) | (simp; decide +kernel) | (simp [*]; done), by repeat (first | exact Drawn0.refl _ | apply Drawn0.step)⟩
                      · rw [if_neg c16] at H
                        exact absurd H (by simp)
                    · rw [if_neg c15] at H
                      exact absurd H (by simp)
            · rw [if_neg c6] at H
              exact absurd H (by simp)
          · rw [if_neg c5] at H
            exact absurd H (by simp)
        · rw [if_neg c4] at H
          have c4b0 : decide (x14_1 < (a1.size : Int)) = false := decide_eq_false c4
          clear c4
          obtain rfl := Option.some.inj H
          go_wp2
          go_ret
          exact ⟨by first | rfl | (simp; done) | (simp; decide +kernel) | (simp [*]; done), by repeat (first | exact Drawn0.refl _ | apply Drawn0.step)⟩

end Go.Proofs.YtolpefnedpgaaaaDoor.X

namespace Go.Proofs.YtolpefnedpgaaaaDoor.X
open Go.RowKit Go.Proofs.YtolpefnedpgaaaaDoorW.PrintWords
set_option linter.unusedVariables false
set_option linter.unusedSimpArgs false
theorem and31 (k : Int) (h0 : 0 ≤ k) (h1 : k < 32) : bits .and .u64 k 31 = k := by
  obtain ⟨m, rfl⟩ := Int.eq_ofNat_of_zero_le h0
  have : ∀ k : Fin 32, bits .and .u64 ((k.val : Nat) : Int) 31 = ((k.val : Nat) : Int) := by decide +kernel
  exact this ⟨m, by omega⟩
/-- A word turned left. -/
def rotl (x k : Int) : Int := bits .or .u32 (IntKind.u32.wrap (x * 2 ^ k.toNat)) (x / 2 ^ (32 - k).toNat)
set_option maxHeartbeats 1000000 in
set_option maxRecDepth 100000 in
theorem rotl_calls (x k : Int) (h0 : 0 ≤ k) (h1 : k < 32) (w : World) : Calls Tryd.prog 101 #[.int .u32 x, .int .i64 k] w fun e w' => e = .returned (.int .u32 (rotl x k)) ∧ w' = w := by
  have hb := and31 k h0 h1
  have hw : ∀ n : Int, IntKind.u32.wrap n = n % 4294967296 := fun n => rfl
  unfold rotl
  rw [hw]
  clear hw
  go_enter Tryd.func101, Tryd.ntmps101
  go_wp2
  go_ret
  exact ⟨rfl, rfl⟩
def not32 (x : Int) : Int := bits .xor .u32 IntKind.u32.max x
/-- What a step makes of three words, and which word of the block it takes. -/
def fstep (i b c d : Int) : Int × Int :=
  if i / 16 = 0 then (bits .or .u32 (bits .and .u32 b c) (bits .and .u32 (not32 b) d), i)
  else if i / 16 = 1 then (bits .or .u32 (bits .and .u32 d b) (bits .and .u32 (not32 d) c), (5 * i + 1) % 16)
  else if i / 16 = 2 then (bits .xor .u32 (bits .xor .u32 b c) d, (3 * i + 5) % 16)
  else (bits .xor .u32 c (bits .or .u32 b (not32 d)), 7 * i % 16)
theorem u32_signed : IntKind.u32.signed = false := rfl
set_option maxHeartbeats 2000000 in
set_option maxRecDepth 100000 in
theorem fstep_calls (i b c d : Int) (h0 : 0 ≤ i) (h1 : i < 64) (w : World) : Calls Tryd.prog 100 #[.int .i64 i, .int .u32 b, .int .u32 c, .int .u32 d] w fun e w' => e = .returned (.tuple #[.int .u32 (fstep i b c d).1, .int .i64 (fstep i b c d).2]) ∧ w' = w := by
  have hsg := u32_signed
  unfold fstep
  go_enter Tryd.func100, Tryd.ntmps100
  by_cases h2 : i / 16 = 0
  · rw [if_pos h2]
    go_wp2
    go_ret2
    exact ⟨rfl, rfl⟩
  · rw [if_neg h2]
    have q2 : (i / 16 == 0) = false := by simpa using h2
    by_cases h3 : i / 16 = 1
    · rw [if_pos h3]
      go_wp2
      go_ret2
      exact ⟨rfl, rfl⟩
    · rw [if_neg h3]
      have q3 : (i / 16 == 1) = false := by simpa using h3
      by_cases h4 : i / 16 = 2
      · rw [if_pos h4]
        go_wp2
        go_ret2
        exact ⟨rfl, rfl⟩
      · rw [if_neg h4]
        have q4 : (i / 16 == 2) = false := by simpa using h4
        go_wp2
        go_ret2
        exact ⟨rfl, rfl⟩
end Go.Proofs.YtolpefnedpgaaaaDoor.X

namespace Go.Proofs.YtolpefnedpgaaaaDoor.X
open Go.RowKit Go.Proofs.YtolpefnedpgaaaaDoorW.PrintWords
set_option linter.unusedVariables false
set_option linter.unusedSimpArgs false
def sinesL : List Int := [0xd76aa478, 0xe8c7b756, 0x242070db, 0xc1bdceee, 0xf57c0faf, 0x4787c62a, 0xa8304613, 0xfd469501, 0x698098d8, 0x8b44f7af, 0xffff5bb1, 0x895cd7be, 0x6b901122, 0xfd987193, 0xa679438e, 0x49b40821, 0xf61e2562, 0xc040b340, 0x265e5a51, 0xe9b6c7aa, 0xd62f105d, 0x02441453, 0xd8a1e681, 0xe7d3fbc8, 0x21e1cde6, 0xc33707d6, 0xf4d50d87, 0x455a14ed, 0xa9e3e905, 0xfcefa3f8, 0x676f02d9, 0x8d2a4c8a, 0xfffa3942, 0x8771f681, 0x6d9d6122, 0xfde5380c, 0xa4beea44, 0x4bdecfa9, 0xf6bb4b60, 0xbebfbc70, 0x289b7ec6, 0xeaa127fa, 0xd4ef3085, 0x04881d05, 0xd9d4d039, 0xe6db99e5, 0x1fa27cf8, 0xc4ac5665, 0xf4292244, 0x432aff97, 0xab9423a7, 0xfc93a039, 0x655b59c3, 0x8f0ccc92, 0xffeff47d, 0x85845dd1, 0x6fa87e4f, 0xfe2ce6e0, 0xa3014314, 0x4e0811a1, 0xf7537e82, 0xbd3af235, 0x2ad7d2bb, 0xeb86d391]
def turnsL : List Int := [7, 12, 17, 22, 5, 9, 14, 20, 4, 11, 16, 23, 6, 10, 15, 21]
/-- What the two tables hold. -/
def FpTables (w : World) : Prop := w.heap[1]? = some (.cells (nums .u32 sinesL).toArray 116 (0, 0)) ∧ w.heap[2]? = some (.cells (nums .i64 turnsL).toArray 118 (0, 0))
/-- The state's cells. -/
def fpCells (ws bl : List Int) (n : Int) : List Value := .bool true :: (nums .u32 ws ++ (nums .u8 bl ++ [.int .i64 n]))
/-- A word of a block. -/
def word4 (b0 b1 b2 b3 : Int) : Int := bits .or .u32 (bits .or .u32 (bits .or .u32 (b0 % 4294967296) (b1 % 4294967296 * 256 % 4294967296)) (b2 % 4294967296 * 65536 % 4294967296)) (b3 % 4294967296 * 16777216 % 4294967296)
def fpWord (bl : List Int) (i : Nat) : Int := word4 (bl.getD (4 * i) 0) (bl.getD (4 * i + 1) 0) (bl.getD (4 * i + 2) 0) (bl.getD (4 * i + 3) 0)
def fpM (bl : List Int) (i : Nat) : List Int := (List.range i).map (fpWord bl) ++ List.replicate (16 - i) 0
theorem nums_set32 (d : List Int) (j : Nat) (x : Int) : (nums .u32 d).toArray.setIfInBounds j (.int .u32 x) = (nums .u32 (d.set j x)).toArray := by
  simp [nums, List.map_set]
theorem fpM_set (bl : List Int) (k : Nat) (h : k < 16) : (fpM bl k).set k (fpWord bl k) = fpM bl (k + 1) := by
  unfold fpM
  rw [List.set_append, if_neg (by simp), show 16 - k = (16 - (k + 1)) + 1 by omega, List.replicate_succ, List.range_succ]
  simp
/-- One of the 64 steps. -/
def fpStep (m : List Int) (i : Nat) (s : Int × Int × Int × Int) : Int × Int × Int × Int :=
  (s.2.2.2, (s.2.1 + rotl (((((fstep i s.2.1 s.2.2.1 s.2.2.2).1 + s.1) % 4294967296 + sinesL.getD i 0) % 4294967296 + m.getD (fstep i s.2.1 s.2.2.1 s.2.2.2).2.toNat 0) % 4294967296) (turnsL.getD (4 * (i / 16) + i % 4) 0)) % 4294967296, s.2.1, s.2.2.1)
def fpRun (m : List Int) (s : Int × Int × Int × Int) : Nat → Int × Int × Int × Int
  | 0 => s
  | i + 1 => fpStep m i (fpRun m s i)
theorem fstep_snd (i b c d : Int) (h0 : 0 ≤ i) (h1 : i < 64) : 0 ≤ (fstep i b c d).2 ∧ (fstep i b c d).2 < 16 := by
  unfold fstep
  split
  · simp only; omega
  · split
    · simp only; omega
    · split
      · simp only; omega
      · simp only; omega
theorem turns_lt (j : Nat) (h : j < 16) : 0 ≤ turnsL.getD j 0 ∧ turnsL.getD j 0 < 32 := by
  have : ∀ j : Fin 16, 0 ≤ turnsL.getD j.val 0 ∧ turnsL.getD j.val 0 < 32 := by decide
  exact this ⟨j, h⟩
theorem four_of {l : List Int} (h : l.length = 4) : ∃ a b c d, l = [a, b, c, d] := by
  match l, h with
  | [a, b, c, d], _ => exact ⟨a, b, c, d, rfl⟩
/-- What a block makes of the words. -/
def mixW (ws bl : List Int) : List Int :=
  [(ws.getD 0 0 + (fpRun (fpM bl 16) (ws.getD 0 0, ws.getD 1 0, ws.getD 2 0, ws.getD 3 0) 64).1) % 4294967296,
   (ws.getD 1 0 + (fpRun (fpM bl 16) (ws.getD 0 0, ws.getD 1 0, ws.getD 2 0, ws.getD 3 0) 64).2.1) % 4294967296,
   (ws.getD 2 0 + (fpRun (fpM bl 16) (ws.getD 0 0, ws.getD 1 0, ws.getD 2 0, ws.getD 3 0) 64).2.2.1) % 4294967296,
   (ws.getD 3 0 + (fpRun (fpM bl 16) (ws.getD 0 0, ws.getD 1 0, ws.getD 2 0, ws.getD 3 0) 64).2.2.2) % 4294967296]
/-- A block alone, of the elder ones, has been written. -/
structure Upd (B : Nat) (w w' : World) : Prop where
  os : w'.os = w.os
  tape : w'.tape = w.tape
  output : w'.output = w.output
  size : w.heap.size ≤ w'.heap.size
  block : ∀ k, k < w.heap.size → k ≠ B → w'.heap[k]? = w.heap[k]?
theorem Upd.refl (B : Nat) (w : World) : Upd B w w := ⟨rfl, rfl, rfl, Nat.le_refl _, fun _ _ _ => rfl⟩
theorem Upd.trans {B : Nat} {a b c : World} (h : Upd B a b) (k : Upd B b c) : Upd B a c :=
  ⟨k.os.trans h.os, k.tape.trans h.tape, k.output.trans h.output, Nat.le_trans h.size k.size, fun i hi hb => (k.block i (Nat.lt_of_lt_of_le hi h.size) hb).trans (h.block i hi hb)⟩
theorem Upd.of_below {B : Nat} {w w' : World} (h : Below w.heap.size w w') : Upd B w w' := ⟨h.os, h.tape, h.output, h.size, fun k hk _ => h.block k hk⟩
theorem Upd.set {B : Nat} {w w' : World} (h : Upd B w w') (j : Nat) (u : Value) : Upd B w (w'.setCell ⟨B, j, none⟩ u) :=
  ⟨h.os, h.tape, h.output, by simpa [World.setCell] using h.size, fun k hk hb => (Below.heap_setCell w' ⟨B, j, none⟩ u k hb).trans (h.block k hk hb)⟩
theorem Upd.below {B base : Nat} {w w' : World} (h : Upd B w w') (hb : base ≤ B) (hs : base ≤ w.heap.size) : Below base w w' := ⟨h.os, h.tape, h.output, h.size, fun k hk => h.block k (by omega) (by omega)⟩
theorem at_array (t : TypeId) (len B o : Nat) (i : Int) (j : Nat) (W : World) (hj : i = j) (hl : j < len) (ht : Tryd.prog.underlying t = some (.array (Tryd.prog.arrayLen t) (Tryd.prog.elem t))) (hn : Tryd.prog.arrayLen t = len) (hs : ∀ W, (sizeOf (Tryd.prog.elem t)).run Tryd.prog W = .ok 1 W) :
    (Instr.indexAt t (.pointer (some ⟨B, o, none⟩)) (.int .i64 i)).run Tryd.prog W = .ok (.pointer (some ⟨B, o + j, none⟩)) W := by
  rw [run_indexAt_array W t ⟨B, o, none⟩ .i64 i ht, hn, hs, if_pos (by omega)]
  simp only [Result.andThen]
  subst hj
  simp only [Int.toNat_natCast, Nat.mul_one]
  unfold Addr.add
  split
  · rename_i hz
    rw [hz, Nat.add_zero]
  · rfl
theorem at_block (B : Nat) (i : Int) (j : Nat) (W : World) (hj : i = j) (hl : j < 64) :
    (Instr.indexAt 95 (.pointer (some ⟨B, 5, none⟩)) (.int .i64 i)).run Tryd.prog W = .ok (.pointer (some ⟨B, 5 + j, none⟩)) W :=
  at_array 95 64 B 5 i j W hj hl (by kernel_rfl) (by kernel_rfl) (fun W => by kernel_rfl)
theorem at_m (B : Nat) (i : Int) (j : Nat) (W : World) (hj : i = j) (hl : j < 16) :
    (Instr.indexAt 112 (.pointer (some ⟨B, 0, none⟩)) (.int .i64 i)).run Tryd.prog W = .ok (.pointer (some ⟨B, j, none⟩)) W := by
  have := at_array 112 16 B 0 i j W hj hl (by kernel_rfl) (by kernel_rfl) (fun W => by kernel_rfl)
  rw [Nat.zero_add] at this
  exact this
theorem at_sines (i : Int) (j : Nat) (W : World) (hj : i = j) (hl : j < 64) :
    (Instr.indexAt 116 (.pointer (some ⟨1, 0, none⟩)) (.int .i64 i)).run Tryd.prog W = .ok (.pointer (some ⟨1, j, none⟩)) W := by
  have := at_array 116 64 1 0 i j W hj hl (by kernel_rfl) (by kernel_rfl) (fun W => by kernel_rfl)
  rw [Nat.zero_add] at this
  exact this
theorem at_turns (i : Int) (j : Nat) (W : World) (hj : i = j) (hl : j < 4) :
    (Instr.indexAt 118 (.pointer (some ⟨2, 0, none⟩)) (.int .i64 i)).run Tryd.prog W = .ok (.pointer (some ⟨2, 4 * j, none⟩)) W := by
  have hs : ∀ W, (sizeOf (Tryd.prog.elem 118)).run Tryd.prog W = .ok 4 W := fun W => by kernel_rfl
  have hn : Tryd.prog.arrayLen 118 = 4 := by kernel_rfl
  rw [run_indexAt_array W 118 ⟨2, 0, none⟩ .i64 i (by kernel_rfl), hn, hs, if_pos (by omega)]
  simp only [Result.andThen]
  subst hj
  simp only [Int.toNat_natCast]
  unfold Addr.add
  split
  · rename_i hz
    rw [show 4 * j = 0 by omega]
  · simp [Nat.mul_comm]
set_option maxHeartbeats 2000000 in
set_option maxRecDepth 100000 in
theorem mix_calls (B : Nat) (ws bl : List Int) (n : Int) (w : World) (hw : ws.length = 4) (hbl : bl.length = 64) (hT : FpTables w) (hB : w.heap[B]? = some (.cells (fpCells ws bl n).toArray 97 (0, 0))) :
    Calls Tryd.prog 78 #[.pointer (some ⟨B, 0, none⟩)] w fun e w' => e = .returned (.tuple #[]) ∧ w'.heap[B]? = some (.cells (fpCells (mixW ws bl) bl n).toArray 97 (0, 0)) ∧ Upd B w w' := by
  have hBlt : B < w.heap.size := (Array.getElem?_eq_some_iff.mp hB).1
  go_enter Tryd.func78, Tryd.ntmps78
  go_wp2
  go_loopw [11] (fun i wr => ∃ (k : Nat), i = .int .i64 k ∧ k ≤ 16 ∧ wr.heap[w.heap.size]? = some (.cells (nums .u32 (fpM bl k)).toArray 112 (0, 0)) ∧ Below w.heap.size w wr)
    (fun i _ => (16 - intOf i).toNat)
  case atStart => exact ⟨0, rfl, by omega, heap_alloc_new w _, (Below.refl _ _).alloc (Nat.le_refl _) _⟩
  case round =>
    obtain ⟨k, rfl, hk, hm, hbel⟩ := hrel
    by_cases h16 : k < 16
    · have hlt : decide ((k : Int) < 16) = true := by simp; omega
      have hBr : wr.heap[B]? = some (.cells (fpCells ws bl n).toArray 97 (0, 0)) := by rw [hbel.block B hBlt]; exact hB
      have hd : wr.drew.heap[B]? = some (.cells (fpCells ws bl n).toArray 97 (0, 0)) := hBr
      have cell : ∀ j, j < 64 → (fpCells ws bl n).toArray[5 + j]? = some (.int .u8 (bl.getD j 0)) := by
        intro j hj
        simp only [fpCells, nums, List.getElem?_toArray]
        rw [show 5 + j = (4 + j) + 1 by omega, List.getElem?_cons_succ, List.getElem?_append_right (by simp; omega), List.getElem?_append_left (by simp; omega)]
        simp only [List.length_map, hw, List.getElem?_map, List.getD_eq_getElem?_getD]
        rw [show 4 + j - 4 = j by omega, List.getElem?_eq_getElem (by omega)]
        rfl
      have hword : fpWord bl k = word4 (bl.getD (4 * k) 0) (bl.getD (4 * k + 1) 0) (bl.getD (4 * k + 2) 0) (bl.getD (4 * k + 3) 0) := rfl
      have c0 : wr.drew.cell? ⟨B, 5 + 4 * k, none⟩ = some (.int .u8 (bl.getD (4 * k) 0)) := by rw [blk_cell hd]; exact cell _ (by omega)
      have c1 : wr.drew.cell? ⟨B, 5 + (4 * k + 1), none⟩ = some (.int .u8 (bl.getD (4 * k + 1) 0)) := by rw [blk_cell hd]; exact cell _ (by omega)
      have c2 : wr.drew.cell? ⟨B, 5 + (4 * k + 2), none⟩ = some (.int .u8 (bl.getD (4 * k + 2) 0)) := by rw [blk_cell hd]; exact cell _ (by omega)
      have c3 : wr.drew.cell? ⟨B, 5 + (4 * k + 3), none⟩ = some (.int .u8 (bl.getD (4 * k + 3) 0)) := by rw [blk_cell hd]; exact cell _ (by omega)
      have hmd : wr.drew.heap[w.heap.size]? = some (.cells (nums .u32 (fpM bl k)).toArray 112 (0, 0)) := hm
      have hbeld : Below w.heap.size w wr.drew := ⟨hbel.os, hbel.tape, hbel.output, hbel.size, hbel.block⟩
      have hlen : (fpM bl k).length = 16 := by simp [fpM]; omega
      have hset : (fpM bl k).set k (fpWord bl k) = fpM bl (k + 1) := fpM_set bl k h16
      have hcm : wr.drew.cell? ⟨w.heap.size, k, none⟩ = some (.int .u32 ((fpM bl k).getD k 0)) := by
        rw [blk_cell hmd]
        simp only [nums, List.getElem?_toArray, List.getElem?_map, List.getD_eq_getElem?_getD]
        rw [List.getElem?_eq_getElem (by omega)]
        rfl
      have hfr : wr.drew.frozen? ⟨w.heap.size, k, none⟩ = false := blk_frozen hmd _
      have hb2 : (wr.drew.setCell ⟨w.heap.size, k, none⟩ (.int .u32 (fpWord bl k))).heap[w.heap.size]? = some (.cells (nums .u32 (fpM bl (k + 1))).toArray 112 (0, 0)) := by
        rw [← hset, ← nums_set32]; exact blk_set hmd _ _
      generalize bl.getD (4 * k) 0 = b0 at *
      generalize bl.getD (4 * k + 1) 0 = b1 at *
      generalize bl.getD (4 * k + 2) 0 = b2 at *
      generalize bl.getD (4 * k + 3) 0 = b3 at *
      rw [hword] at hb2
      have HM := Lib.hid hb2
      clear hb2 hset hword hmd hm hd hBr
      have e0 : IntKind.i64.wrap (4 * (k : Int)) = 4 * (k : Int) := IntWalk.i64_in _ (by omega)
      have e1 : IntKind.i64.wrap (4 * (k : Int) + 1) = 4 * (k : Int) + 1 := IntWalk.i64_in _ (by omega)
      have e2 : IntKind.i64.wrap (4 * (k : Int) + 2) = 4 * (k : Int) + 2 := IntWalk.i64_in _ (by omega)
      have e3 : IntKind.i64.wrap (4 * (k : Int) + 3) = 4 * (k : Int) + 3 := IntWalk.i64_in _ (by omega)
      have l0 := fun W => at_block B (4 * (k : Int)) (4 * k) W (by omega) (by omega)
      have l1 := fun W => at_block B (4 * (k : Int) + 1) (4 * k + 1) W (by omega) (by omega)
      have l2 := fun W => at_block B (4 * (k : Int) + 2) (4 * k + 2) W (by omega) (by omega)
      have l3 := fun W => at_block B (4 * (k : Int) + 3) (4 * k + 3) W (by omega) (by omega)
      have lm := fun W => at_m w.heap.size (k : Int) k W (by omega) (by omega)
      go_wp2
      go_still_tail 43, (by kernel_rfl)
      change wpList _ _ _ _ _ wr.drew
      generalize wr.drew = w2 at *
      go_wp2
      go_roundw
      case rel => exact ⟨k + 1, rfl, by omega, HM.out, hbeld.setCell (by simp) _⟩
      case measure => simp [intOf]; omega
    · have hk16 : k = 16 := by omega
      subst hk16
      clear h16 hk
      have hcell : ∀ W : World, W.heap[B]? = some (.cells (fpCells ws bl n).toArray 97 (0, 0)) → ∀ j, j < 4 → W.cell? ⟨B, 1 + j, none⟩ = some (.int .u32 (ws.getD j 0)) := by
        intro W hW j hj
        rw [blk_cell hW]
        simp only [fpCells, nums, List.getElem?_toArray]
        rw [show 1 + j = j + 1 by omega, List.getElem?_cons_succ, List.getElem?_append_left (by simp; omega)]
        simp only [List.getElem?_map, List.getD_eq_getElem?_getD]
        rw [List.getElem?_eq_getElem (by omega)]
        rfl
      have hBr : wr.heap[B]? = some (.cells (fpCells ws bl n).toArray 97 (0, 0)) := by rw [hbel.block B hBlt]; exact hB
      have c0 := hcell wr.drew hBr 0 (by omega)
      have c1 := hcell wr.drew hBr 1 (by omega)
      have c2 := hcell wr.drew hBr 2 (by omega)
      have c3 := hcell wr.drew hBr 3 (by omega)
      obtain ⟨v0, hv0⟩ : ∃ v, ws.getD 0 0 = v := ⟨_, rfl⟩
      rw [hv0] at c0
      obtain ⟨v1, hv1⟩ : ∃ v, ws.getD 1 0 = v := ⟨_, rfl⟩
      rw [hv1] at c1
      obtain ⟨v2, hv2⟩ : ∃ v, ws.getD 2 0 = v := ⟨_, rfl⟩
      rw [hv2] at c2
      obtain ⟨v3, hv3⟩ : ∃ v, ws.getD 3 0 = v := ⟨_, rfl⟩
      rw [hv3] at c3
      go_wp2
      go_still (by kernel_rfl)
      have hbeld : Below w.heap.size w wr.drew := hbel.drew
      have hmd : wr.drew.heap[w.heap.size]? = some (.cells (nums .u32 (fpM bl 16)).toArray 112 (0, 0)) := hm
      clear c0 c1 c2 c3 hBr hm hbel
      change Exit.then _ _ Exit.normal _ wr.drew
      generalize wr.drew = w2 at *
      clear wr
      have hml : (fpM bl 16).length = 16 := by simp [fpM]
      obtain ⟨m, hmm⟩ : ∃ m, fpM bl 16 = m := ⟨_, rfl⟩
      rw [hmm] at hmd hml
      go_wp2
      go_loopw [4, 5, 6, 7, 78] (fun a b c d i wr => ∃ (k : Nat) (s : Int × Int × Int × Int), i = .int .i64 k ∧ k ≤ 64 ∧ s = fpRun m (v0, v1, v2, v3) k ∧ a = .int .u32 s.1 ∧ b = .int .u32 s.2.1 ∧ c = .int .u32 s.2.2.1 ∧ d = .int .u32 s.2.2.2 ∧ wr.heap[w.heap.size]? = some (.cells (nums .u32 m).toArray 112 (0, 0)) ∧ Below w.heap.size w wr)
        (fun _ _ _ _ i _ => (64 - intOf i).toNat)
      case atStart => exact ⟨0, _, rfl, by omega, rfl, rfl, rfl, rfl, rfl, hmd, hbeld⟩
      case round =>
        obtain ⟨k, ⟨a, b, c, d⟩, rfl, hk, hs, rfl, rfl, rfl, rfl, hm, hbel⟩ := hrel
        simp only
        by_cases h64 : k < 64
        · have hlt : decide ((k : Int) < 64) = true := by simp; omega
          have hfc := fun W => fstep_calls (k : Int) b c d (by omega) (by omega) W
          obtain ⟨g0, g1⟩ := fstep_snd (k : Int) b c d (by omega) (by omega)
          have hst : fpStep m k (a, b, c, d) = fpRun m (v0, v1, v2, v3) (k + 1) := by rw [fpRun, hs]
          unfold fpStep at hst
          simp only at hst
          obtain ⟨⟨f, g⟩, hfg⟩ : ∃ p, fstep (k : Int) b c d = p := ⟨_, rfl⟩
          rw [hfg] at hfc g0 g1 hst
          simp only at hfc g0 g1 hst
          obtain ⟨g, rfl⟩ := Int.eq_ofNat_of_zero_le g0
          simp only [Int.toNat_natCast] at hst
          obtain ⟨t0, t1⟩ := turns_lt (4 * (k / 16) + k % 4) (by omega)
          have hs1 : wr.drew.cell? ⟨1, k, none⟩ = some (.int .u32 (sinesL.getD k 0)) := by
            rw [blk_cell (t := 116) (cs := (nums .u32 sinesL).toArray) (by rw [World.drew]; rw [hbel.block _ (Array.getElem?_eq_some_iff.mp hT.1).1]; exact hT.1)]
            simp only [nums, List.getElem?_toArray, List.getElem?_map, List.getD_eq_getElem?_getD]
            rw [List.getElem?_eq_getElem (show k < sinesL.length from h64)]
            rfl
          have ht1 : wr.drew.cell? ⟨2, 4 * (k / 16) + k % 4, none⟩ = some (.int .i64 (turnsL.getD (4 * (k / 16) + k % 4) 0)) := by
            rw [blk_cell (t := 118) (cs := (nums .i64 turnsL).toArray) (by rw [World.drew]; rw [hbel.block _ (Array.getElem?_eq_some_iff.mp hT.2).1]; exact hT.2)]
            simp only [nums, List.getElem?_toArray, List.getElem?_map, List.getD_eq_getElem?_getD]
            rw [List.getElem?_eq_getElem (show 4 * (k / 16) + k % 4 < turnsL.length from (by have : turnsL.length = 16 := rfl; omega))]
            rfl
          have hm1 : wr.drew.cell? ⟨w.heap.size, g, none⟩ = some (.int .u32 (m.getD g 0)) := by
            rw [blk_cell (t := 112) (cs := (nums .u32 m).toArray) (w := wr.drew) hm]
            simp only [nums, List.getElem?_toArray, List.getElem?_map, List.getD_eq_getElem?_getD]
            rw [List.getElem?_eq_getElem (show g < m.length by omega)]
            rfl
          have ls : ∀ W, (Instr.indexAt 116 (.pointer (some ⟨1, 0, none⟩)) (.int .i64 (k : Int))).run Tryd.prog W = .ok (.pointer (some ⟨1, k, none⟩)) W := fun W => at_sines (k : Int) k W rfl h64
          have lt1 : ∀ W, (Instr.indexAt 118 (.pointer (some ⟨2, 0, none⟩)) (.int .i64 ((k : Int) / 16))).run Tryd.prog W = .ok (.pointer (some ⟨2, 4 * (k / 16), none⟩)) W := fun W => at_turns ((k : Int) / 16) (k / 16) W (by omega) (by omega)
          have lt2 : ∀ W, (Instr.indexAt 117 (.pointer (some ⟨2, 4 * (k / 16), none⟩)) (.int .i64 ((k : Int) % 4))).run Tryd.prog W = .ok (.pointer (some ⟨2, 4 * (k / 16) + k % 4, none⟩)) W := fun W => at_array 117 4 2 (4 * (k / 16)) ((k : Int) % 4) (k % 4) W (by omega) (by omega) (by kernel_rfl) (by kernel_rfl) (fun W => by kernel_rfl)
          have lm := fun W => at_m w.heap.size (g : Int) g W rfl (by omega)
          have ww : IntKind.i64.wrap ((k : Int) / 16) = (k : Int) / 16 := IntWalk.i64_in _ (by omega)
          have wd : (k : Int).tdiv 16 = (k : Int) / 16 := Int.tdiv_eq_ediv_of_nonneg (by omega)
          have wm : (k : Int).tmod 4 = (k : Int) % 4 := Int.tmod_eq_emod_of_nonneg (by omega)
          generalize sinesL.getD k 0 = sn at *
          generalize turnsL.getD (4 * (k / 16) + k % 4) 0 = tn at *
          generalize m.getD g 0 = mg at *
          go_wp2_with (go_at_call 100; refine (hfc _).mono ?_; rintro e w1 ⟨rfl, rfl⟩)
          refine wp_region_still_lit (by kernel_rfl) (by kernel_rfl) ?_
          repeat still_step
          still_call (rotl_calls _ _ t0 t1 _)
          repeat still_step
          refine wpStill_nil ?_
          change Exit.then _ _ Exit.normal _ w1.drew
          have hmd : w1.drew.heap[w.heap.size]? = some (.cells (nums .u32 m).toArray 112 (0, 0)) := hm
          have hbeld : Below w.heap.size w w1.drew := hbel.drew
          clear hs1 ht1 hm1 hm hbel
          generalize w1.drew = w3 at *
          go_wp2
          go_roundw
          case rel => exact ⟨k + 1, _, rfl, by omega, hst, rfl, rfl, rfl, rfl, hmd, hbeld⟩
          case measure => simp [intOf]; omega
        · have hk64 : k = 64 := by omega
          subst hk64
          clear h64 hk
          have hBr : wr.heap[B]? = some (.cells (fpCells ws bl n).toArray 97 (0, 0)) := by rw [hbel.block B hBlt]; exact hB
          have c0 := hcell wr.drew hBr 0 (by omega)
          have c1 := hcell wr.drew hBr 1 (by omega)
          have c2 := hcell wr.drew hBr 2 (by omega)
          have c3 := hcell wr.drew hBr 3 (by omega)
          rw [hv0] at c0
          rw [hv1] at c1
          rw [hv2] at c2
          rw [hv3] at c3
          go_wp2
          go_still_tail 32, (by kernel_rfl)
          change wpList _ _ _ _ _ wr.drew
          have hBd : wr.drew.heap[B]? = some (.cells (fpCells ws bl n).toArray 97 (0, 0)) := hBr
          have hbd : Below w.heap.size w wr.drew := hbel.drew
          clear hBr hm hmd
          generalize wr.drew = w3 at *
          have f0 : w3.frozen? ⟨B, 1, none⟩ = false := blk_frozen hBd 1
          have hs0 : (w3.setCell ⟨B, 1, none⟩ (.int .u32 ((v0 + a) % 4294967296))).heap[B]? = some (.cells ((fpCells ws bl n).toArray.setIfInBounds 1 (.int .u32 ((v0 + a) % 4294967296))) 97 (0, 0)) := blk_set hBd 1 _
          have e1 := blk_frozen hBd 2
          have e2 := blk_frozen hBd 3
          have e3 := blk_frozen hBd 4
          have f1 := blk_frozen hs0 2
          have g1 : ((w3.setCell ⟨B, 1, none⟩ (.int .u32 ((v0 + a) % 4294967296))).cell? ⟨B, 2, none⟩).isSome = true := by rw [blk_cell hs0]; simp [fpCells, nums, hw]; omega
          have hs1 := blk_set hs0 2 (.int .u32 ((v1 + b) % 4294967296))
          have f2 := blk_frozen hs1 3
          have hs2 := blk_set hs1 3 (.int .u32 ((v2 + c) % 4294967296))
          have f3 := blk_frozen hs2 4
          have hs3 := blk_set hs2 4 (.int .u32 ((v3 + d) % 4294967296))
          have hfin : ((((fpCells ws bl n).toArray.setIfInBounds 1 (.int .u32 ((v0 + a) % 4294967296))).setIfInBounds 2 (.int .u32 ((v1 + b) % 4294967296))).setIfInBounds 3 (.int .u32 ((v2 + c) % 4294967296))).setIfInBounds 4 (.int .u32 ((v3 + d) % 4294967296)) = (fpCells (mixW ws bl) bl n).toArray := by
            obtain ⟨y0, y1, y2, y3, rfl⟩ := four_of hw
            unfold mixW
            rw [hv0, hv1, hv2, hv3, hmm, ← hs]
            simp [fpCells, nums]
          have HF := Lib.hid hs3
          have HN := Lib.hid hfin
          clear hs0 hs1 hs2 hs3 hBd hfin
          go_wp2
          go_end0
          exact ⟨rfl, by rw [← HN.out]; exact HF.out, ((((Upd.of_below hbd).set 1 _).set 2 _).set 3 _).set 4 _⟩
end Go.Proofs.YtolpefnedpgaaaaDoor.X

namespace Go.Proofs.YtolpefnedpgaaaaDoor.X
open Go.RowKit Go.Proofs.YtolpefnedpgaaaaDoorW.PrintWords
set_option linter.unusedVariables false
/-- internal/bytealg.MaxLen holds some int. -/
def GlobMax (w : World) : Prop := 0 < w.heap.size ∧ ∃ m, w.cell? ⟨0, 0, none⟩ = some (.int .i64 m)
theorem GlobMax.below {w w' : World} (h : GlobMax w) (hb : Below w.heap.size w w') : GlobMax w' := by
  obtain ⟨h1, m, h2⟩ := h
  exact ⟨Nat.lt_of_lt_of_le h1 hb.size, m, (hb.cell (p := ⟨0, 0, none⟩) h1).trans h2⟩
theorem GlobMax.of {w : World} (h : ∃ m, w.cell? ⟨0, 0, none⟩ = some (.int .i64 m)) : GlobMax w := by
  refine ⟨?_, h⟩
  obtain ⟨m, hm⟩ := h
  unfold World.cell? at hm
  split at hm
  · rename_i hh
    exact (Array.getElem?_eq_some_iff.mp hh).1
  · cases hm
theorem GlobMax.drawn {w w' : World} (h : GlobMax w) (hb : Drawn0 w w') : GlobMax w' := by
  obtain ⟨n, rfl⟩ := hb.out
  exact h
/-- The fingerprint's two tables. -/
def GlobFp (w : World) : Prop := FpTables w
theorem GlobFp.below {w w' : World} (h : GlobFp w) (hb : Below w.heap.size w w') : GlobFp w' :=
  ⟨(hb.block _ (Array.getElem?_eq_some_iff.mp h.1).1).trans h.1, (hb.block _ (Array.getElem?_eq_some_iff.mp h.2).1).trans h.2⟩
theorem GlobFp.drawn {w w' : World} (h : GlobFp w) (hb : Drawn0 w w') : GlobFp w' := by
  obtain ⟨n, rfl⟩ := hb.out
  exact h
end Go.Proofs.YtolpefnedpgaaaaDoor.X

namespace Go.Proofs.YtolpefnedpgaaaaDoor.X
open Go.RowKit Go.Proofs.YtolpefnedpgaaaaDoorW.PrintWords
set_option linter.unusedVariables false
set_option linter.unusedSimpArgs false
/-- strings.Contains. -/
def strings_Contains.f (s p : ByteArray) : Option Bool := if s.size < 4294967281 then some (Lib.contains s.data.toList p.data.toList) else none
theorem strings_Contains.calls (a0 a1 : ByteArray) (r : Bool) (w : World) (hGMax : GlobMax w) (h : strings_Contains.f a0 a1 = some r) :
    Calls Tryd.prog 32 #[.string a0, .string a1] w fun e w' => e = .returned (.bool r) ∧ Drawn0 w w' := by
  unfold strings_Contains.f at h
  split at h
  · rename_i hh
    obtain rfl := Option.some.inj h
    obtain ⟨_, m, hm⟩ := hGMax
    refine (Tryd.strings_Contains a0 a1 m w hh hm).mono ?_
    rintro e w' ⟨rfl, rfl⟩
    exact ⟨rfl, Drawn0.refl _⟩
  · exact absurd h (by simp)
/-- strings.Cut. -/
def strings_Cut.f (s p : ByteArray) : Option (ByteArray × ByteArray × Bool) :=
  if s.size < 4294967281 then some (⟨(Lib.cut s.data.toList p.data.toList).1.toArray⟩, ⟨(Lib.cut s.data.toList p.data.toList).2.1.toArray⟩, (Lib.cut s.data.toList p.data.toList).2.2) else none
theorem strings_Cut.calls (a0 a1 : ByteArray) (r1 r2 : ByteArray) (r3 : Bool) (w : World) (hGMax : GlobMax w) (h : strings_Cut.f a0 a1 = some (r1, r2, r3)) :
    Calls Tryd.prog 35 #[.string a0, .string a1] w fun e w' => e = .returned (.tuple #[.string r1, .string r2, .bool r3]) ∧ Drawn0 w w' := by
  unfold strings_Cut.f at h
  split at h
  · rename_i hh
    have h' := Option.some.inj h
    simp only [Prod.mk.injEq] at h'
    obtain ⟨rfl, rfl, rfl⟩ := h'
    obtain ⟨_, m, hm⟩ := hGMax
    refine (Tryd.strings_Cut a0 a1 m w hh hm).mono ?_
    rintro e w' ⟨rfl, n, rfl⟩
    exact ⟨rfl, (Drawn0.refl _).step n⟩
  · exact absurd h (by simp)
end Go.Proofs.YtolpefnedpgaaaaDoor.X

namespace Go.Proofs.YtolpefnedpgaaaaDoor.X
open Go.RowKit Go.Proofs.YtolpefnedpgaaaaDoorW.PrintWords Go.Proofs.YtolpefnedpgaaaaDoorW.PrintLast Go.Proofs.YtolpefnedpgaaaaDoorW.PrintMore
attribute [local go_sem] max2_int min2_int max_two min_two max_three min_three max_four min_four   -- for this text's walks alone
set_option linter.unusedVariables false
set_option linter.unusedSimpArgs false

def attribute_Name.f (k : Nat) (a0 : ByteArray) : Option (Bool) := (attribute_all.f k a0 (⟨#[65, 66, 67, 68, 69, 70, 71, 72, 73, 74, 75, 76, 77, 78, 79, 80, 81, 82, 83, 84, 85, 86, 87, 88, 89, 90, 97, 98, 99, 100, 101, 102, 103, 104, 105, 106, 107, 108, 109, 110, 111, 112, 113, 114, 115, 116, 117, 118, 119, 120, 121, 122, 48, 49, 50, 51, 52, 53, 54, 55, 56, 57, 95, 45, 46]⟩ : ByteArray) 64).bind fun t119 => (if t119 = true then (if 0 < (a0.size : Int) then (if (bt a0 0) = 46 then (some false) else (if 0 ≤ (wrap64 ((a0.size : Int) - 1)) then (if (wrap64 ((a0.size : Int) - 1)) < (a0.size : Int) then (if (bt a0 (wrap64 ((a0.size : Int) - 1))) = 46 then (some false) else ((strings_Contains.f a0 (⟨#[46, 46]⟩ : ByteArray)).bind fun t120 => (if t120 = true then (some false) else ((attribute_begins.f k a0 (⟨#[97, 119, 115, 46]⟩ : ByteArray)).bind fun t121 => (if t121 = true then (some false) else ((attribute_begins.f k a0 (⟨#[97, 109, 97, 122, 111, 110, 46]⟩ : ByteArray)).bind fun t122 => (some (!t122)))))))) else (none)) else (none))) else (none)) else (some false))
set_option maxHeartbeats 8000000 in
set_option maxRecDepth 100000 in
theorem attribute_Name.calls (k : Nat) (a0 : ByteArray) (r : Bool) (w : World) (hGMax : GlobMax w) (h : attribute_Name.f k a0 = some r) :
    Calls Tryd.prog 12 #[.string a0] w fun e w' => e = .returned (.bool r) ∧ Drawn0 w w' := by
  have HGMax := Aside0.mk hGMax
  clear hGMax
  have H : ((attribute_all.f k a0 (⟨#[65, 66, 67, 68, 69, 70, 71, 72, 73, 74, 75, 76, 77, 78, 79, 80, 81, 82, 83, 84, 85, 86, 87, 88, 89, 90, 97, 98, 99, 100, 101, 102, 103, 104, 105, 106, 107, 108, 109, 110, 111, 112, 113, 114, 115, 116, 117, 118, 119, 120, 121, 122, 48, 49, 50, 51, 52, 53, 54, 55, 56, 57, 95, 45, 46]⟩ : ByteArray) 64).bind fun t119 => (if t119 = true then (if 0 < (a0.size : Int) then (if (bt a0 0) = 46 then (some false) else (if 0 ≤ (wrap64 ((a0.size : Int) - 1)) then (if (wrap64 ((a0.size : Int) - 1)) < (a0.size : Int) then (if (bt a0 (wrap64 ((a0.size : Int) - 1))) = 46 then (some false) else ((strings_Contains.f a0 (⟨#[46, 46]⟩ : ByteArray)).bind fun t120 => (if t120 = true then (some false) else ((attribute_begins.f k a0 (⟨#[97, 119, 115, 46]⟩ : ByteArray)).bind fun t121 => (if t121 = true then (some false) else ((attribute_begins.f k a0 (⟨#[97, 109, 97, 122, 111, 110, 46]⟩ : ByteArray)).bind fun t122 => (some (!t122)))))))) else (none)) else (none))) else (none)) else (some false))) = some r := h
  clear h
  replace H := Option.bind_eq_some_iff.mp H
  obtain ⟨t119, A20, H⟩ := H
  replace H : (if t119 = true then (if 0 < (a0.size : Int) then (if (bt a0 0) = 46 then (some false) else (if 0 ≤ (wrap64 ((a0.size : Int) - 1)) then (if (wrap64 ((a0.size : Int) - 1)) < (a0.size : Int) then (if (bt a0 (wrap64 ((a0.size : Int) - 1))) = 46 then (some false) else ((strings_Contains.f a0 (⟨#[46, 46]⟩ : ByteArray)).bind fun t120 => (if t120 = true then (some false) else ((attribute_begins.f k a0 (⟨#[97, 119, 115, 46]⟩ : ByteArray)).bind fun t121 => (if t121 = true then (some false) else ((attribute_begins.f k a0 (⟨#[97, 109, 97, 122, 111, 110, 46]⟩ : ByteArray)).bind fun t122 => (some (!t122)))))))) else (none)) else (none))) else (none)) else (some false)) = some r := H
  have A2 := Aside0.mk A20
  clear A20
  by_cases c3 : t119 = true
  · subst c3
    have H1 : (if 0 < (a0.size : Int) then (if (bt a0 0) = 46 then (some false) else (if 0 ≤ (wrap64 ((a0.size : Int) - 1)) then (if (wrap64 ((a0.size : Int) - 1)) < (a0.size : Int) then (if (bt a0 (wrap64 ((a0.size : Int) - 1))) = 46 then (some false) else ((strings_Contains.f a0 (⟨#[46, 46]⟩ : ByteArray)).bind fun t120 => (if t120 = true then (some false) else ((attribute_begins.f k a0 (⟨#[97, 119, 115, 46]⟩ : ByteArray)).bind fun t121 => (if t121 = true then (some false) else ((attribute_begins.f k a0 (⟨#[97, 109, 97, 122, 111, 110, 46]⟩ : ByteArray)).bind fun t122 => (some (!t122)))))))) else (none)) else (none))) else (none)) = some r := by rw [if_pos rfl] at H; exact H
    clear H
    have H := H1
    clear H1
    by_cases c4 : 0 < (a0.size : Int)
    · rw [if_pos c4] at H
      have c4b0 : decide (0 < (a0.size : Int)) = true := decide_eq_true c4
      have c4b1 : decide (0 < a0.size) = true := decide_eq_true (by omega)
      clear c4
      by_cases c6 : (bt a0 0) = 46
      · rw [if_pos c6] at H
        have c6b0 : ((bt a0 0) == 46) = true := beq_iff_eq.mpr c6
        have c6b1 : ((bt a0 0) != 46) = false := bne_eq_false_iff_eq.mpr c6
        clear c6
        obtain rfl := Option.some.inj H
        go_enter Tryd.func12, Tryd.ntmps12
        go_wp2_with (first | ((with_reducible refine gate_callee (f := 30) rfl ?_); refine goesL_ (some 4) rfl rfl Tryd.func30 (by kernel_rfl) rfl #[.string a0, .string (⟨#[65, 66, 67, 68, 69, 70, 71, 72, 73, 74, 75, 76, 77, 78, 79, 80, 81, 82, 83, 84, 85, 86, 87, 88, 89, 90, 97, 98, 99, 100, 101, 102, 103, 104, 105, 106, 107, 108, 109, 110, 111, 112, 113, 114, 115, 116, 117, 118, 119, 120, 121, 122, 48, 49, 50, 51, 52, 53, 54, 55, 56, 57, 95, 45, 46]⟩ : ByteArray), .int .i64 64] rfl (by (try simp only [List.map_toArray, List.map_cons, List.map_nil]); first | done | rfl | (simp only [List.length_drop, List.length_take]; rfl)) ?_; (with_reducible refine (attribute_all.calls k a0 (⟨#[65, 66, 67, 68, 69, 70, 71, 72, 73, 74, 75, 76, 77, 78, 79, 80, 81, 82, 83, 84, 85, 86, 87, 88, 89, 90, 97, 98, 99, 100, 101, 102, 103, 104, 105, 106, 107, 108, 109, 110, 111, 112, 113, 114, 115, 116, 117, 118, 119, 120, 121, 122, 48, 49, 50, 51, 52, 53, 54, 55, 56, 57, 95, 45, 46]⟩ : ByteArray) 64 true _ A2.out).mono ?_); rintro e w' ⟨rfl, ⟨nd, rfl⟩⟩; refine ⟨_, rfl, ?_⟩; have p5 : 0 ≤ (0 : Int) := (by omega); have q5 : 0 < a0.size := (by have : (0 : Int) < (a0.size : Int) := of_decide_eq_true (by first | (with_reducible assumption) | assumption); omega); have hx5 : ∀ h : 0 < a0.size, ((a0[0]'h).toNat : Int) = bt a0 0 := bt_at a0 0; clear p5; have qi5 : (0 < (a0.size : Int)) = True := eq_true (of_decide_eq_true (by first | (with_reducible assumption) | assumption)); replace q5 := eq_true q5))
        go_ret
        exact ⟨by first | rfl | (simp; done) | (simp; decide +kernel) | (simp [*]; done), by repeat (first | exact Drawn0.refl _ | apply Drawn0.step)⟩
      · rw [if_neg c6] at H
        have c6b0 : ((bt a0 0) == 46) = false := beq_eq_false_iff_ne.mpr c6
        have c6b1 : ((bt a0 0) != 46) = true := bne_iff_ne.mpr c6
        obtain ⟨ji7, hji7⟩ : ∃ j_ : Int, (wrap64 ((a0.size : Int) - 1)) = j_ := ⟨_, rfl⟩
        replace H : (if 0 ≤ (ji7) then (if (ji7) < (a0.size : Int) then (if (bt a0 (ji7)) = 46 then (some false) else ((strings_Contains.f a0 (⟨#[46, 46]⟩ : ByteArray)).bind fun t120 => (if t120 = true then (some false) else ((attribute_begins.f k a0 (⟨#[97, 119, 115, 46]⟩ : ByteArray)).bind fun t121 => (if t121 = true then (some false) else ((attribute_begins.f k a0 (⟨#[97, 109, 97, 122, 111, 110, 46]⟩ : ByteArray)).bind fun t122 => (some (!t122)))))))) else (none)) else (none)) = some r := by first | (rw [hji7] at H; exact H) | (simp only [hji7] at H ⊢; exact H)
        (try rw [hji7] at A2)
        have hji7w : (IntKind.i64.wrap ((a0.size : Int) - 1)) = ji7 := (i64_w _).trans hji7
        by_cases c8 : 0 ≤ (ji7)
        · rw [if_pos c8] at H
          have c8b0 : decide (0 ≤ (ji7)) = true := decide_eq_true c8
          clear c8
          by_cases c9 : (ji7) < (a0.size : Int)
          · rw [if_pos c9] at H
            have c9b0 : decide ((ji7) < (a0.size : Int)) = true := decide_eq_true c9
            clear c9
            by_cases c11 : (bt a0 (ji7)) = 46
            · rw [if_pos c11] at H
              have c11b0 : ((bt a0 (ji7)) == 46) = true := beq_iff_eq.mpr c11
              have c11b1 : ((bt a0 (ji7)) != 46) = false := bne_eq_false_iff_eq.mpr c11
              clear c11
              obtain rfl := Option.some.inj H
              go_enter Tryd.func12, Tryd.ntmps12
              go_wp2_with (first | ((with_reducible refine gate_callee (f := 30) rfl ?_); refine goesL_ (some 4) rfl rfl Tryd.func30 (by kernel_rfl) rfl #[.string a0, .string (⟨#[65, 66, 67, 68, 69, 70, 71, 72, 73, 74, 75, 76, 77, 78, 79, 80, 81, 82, 83, 84, 85, 86, 87, 88, 89, 90, 97, 98, 99, 100, 101, 102, 103, 104, 105, 106, 107, 108, 109, 110, 111, 112, 113, 114, 115, 116, 117, 118, 119, 120, 121, 122, 48, 49, 50, 51, 52, 53, 54, 55, 56, 57, 95, 45, 46]⟩ : ByteArray), .int .i64 64] rfl (by (try simp only [List.map_toArray, List.map_cons, List.map_nil]); first | done | rfl | (simp only [List.length_drop, List.length_take]; rfl)) ?_; (with_reducible refine (attribute_all.calls k a0 (⟨#[65, 66, 67, 68, 69, 70, 71, 72, 73, 74, 75, 76, 77, 78, 79, 80, 81, 82, 83, 84, 85, 86, 87, 88, 89, 90, 97, 98, 99, 100, 101, 102, 103, 104, 105, 106, 107, 108, 109, 110, 111, 112, 113, 114, 115, 116, 117, 118, 119, 120, 121, 122, 48, 49, 50, 51, 52, 53, 54, 55, 56, 57, 95, 45, 46]⟩ : ByteArray) 64 true _ A2.out).mono ?_); rintro e w' ⟨rfl, ⟨nd, rfl⟩⟩; refine ⟨_, rfl, ?_⟩; have p5 : 0 ≤ (0 : Int) := (by omega); have q5 : 0 < a0.size := (by have : (0 : Int) < (a0.size : Int) := of_decide_eq_true (by first | (with_reducible assumption) | assumption); omega); have hx5 : ∀ h : 0 < a0.size, ((a0[0]'h).toNat : Int) = bt a0 0 := bt_at a0 0; clear p5; have qi5 : (0 < (a0.size : Int)) = True := eq_true (of_decide_eq_true (by first | (with_reducible assumption) | assumption)); replace q5 := eq_true q5; have p10 : 0 ≤ ((ji7) : Int) := of_decide_eq_true (by first | (with_reducible assumption) | assumption); have q10 : (ji7) < (a0.size : Int) := of_decide_eq_true (by first | (with_reducible assumption) | assumption); have hx10 := bt_at a0 (ji7); replace p10 := eq_true p10; replace q10 := eq_true q10))
              go_ret
              exact ⟨by first | rfl | (simp; done) | (simp only [← hji7] <;> (first | rfl | simp)) | (simp [*]; done), by repeat (first | exact Drawn0.refl _ | apply Drawn0.step)⟩
            · rw [if_neg c11] at H
              have c11b0 : ((bt a0 (ji7)) == 46) = false := beq_eq_false_iff_ne.mpr c11
              have c11b1 : ((bt a0 (ji7)) != 46) = true := bne_iff_ne.mpr c11
              replace H := Option.bind_eq_some_iff.mp H
              obtain ⟨t120, A120, H⟩ := H
              replace H : (if t120 = true then (some false) else ((attribute_begins.f k a0 (⟨#[97, 119, 115, 46]⟩ : ByteArray)).bind fun t121 => (if t121 = true then (some false) else ((attribute_begins.f k a0 (⟨#[97, 109, 97, 122, 111, 110, 46]⟩ : ByteArray)).bind fun t122 => (some (!t122)))))) = some r := H
              have A12 := Aside0.mk A120
              clear A120
              by_cases c13 : t120 = true
              · subst c13
                have H1 : (some false) = some r := by rw [if_pos rfl] at H; exact H
                clear H
                have H := H1
                clear H1
                obtain rfl := Option.some.inj H
                go_enter Tryd.func12, Tryd.ntmps12
                go_wp2_with (first | ((with_reducible refine gate_callee (f := 30) rfl ?_); refine goesL_ (some 4) rfl rfl Tryd.func30 (by kernel_rfl) rfl #[.string a0, .string (⟨#[65, 66, 67, 68, 69, 70, 71, 72, 73, 74, 75, 76, 77, 78, 79, 80, 81, 82, 83, 84, 85, 86, 87, 88, 89, 90, 97, 98, 99, 100, 101, 102, 103, 104, 105, 106, 107, 108, 109, 110, 111, 112, 113, 114, 115, 116, 117, 118, 119, 120, 121, 122, 48, 49, 50, 51, 52, 53, 54, 55, 56, 57, 95, 45, 46]⟩ : ByteArray), .int .i64 64] rfl (by (try simp only [List.map_toArray, List.map_cons, List.map_nil]); first | done | rfl | (simp only [List.length_drop, List.length_take]; rfl)) ?_; (with_reducible refine (attribute_all.calls k a0 (⟨#[65, 66, 67, 68, 69, 70, 71, 72, 73, 74, 75, 76, 77, 78, 79, 80, 81, 82, 83, 84, 85, 86, 87, 88, 89, 90, 97, 98, 99, 100, 101, 102, 103, 104, 105, 106, 107, 108, 109, 110, 111, 112, 113, 114, 115, 116, 117, 118, 119, 120, 121, 122, 48, 49, 50, 51, 52, 53, 54, 55, 56, 57, 95, 45, 46]⟩ : ByteArray) 64 true _ A2.out).mono ?_); rintro e w' ⟨rfl, ⟨nd, rfl⟩⟩; refine ⟨_, rfl, ?_⟩; have p5 : 0 ≤ (0 : Int) := (by omega); have q5 : 0 < a0.size := (by have : (0 : Int) < (a0.size : Int) := of_decide_eq_true (by first | (with_reducible assumption) | assumption); omega); have hx5 : ∀ h : 0 < a0.size, ((a0[0]'h).toNat : Int) = bt a0 0 := bt_at a0 0; clear p5; have qi5 : (0 < (a0.size : Int)) = True := eq_true (of_decide_eq_true (by first | (with_reducible assumption) | assumption)); replace q5 := eq_true q5; have p10 : 0 ≤ ((ji7) : Int) := of_decide_eq_true (by first | (with_reducible assumption) | assumption); have q10 : (ji7) < (a0.size : Int) := of_decide_eq_true (by first | (with_reducible assumption) | assumption); have hx10 := bt_at a0 (ji7); replace p10 := eq_true p10; replace q10 := eq_true q10) | (go_at_call 32; (with_reducible refine (strings_Contains.calls a0 (⟨#[46, 46]⟩ : ByteArray) true _ ?side1 A12.out).mono ?_); (case side1 => first | exact HGMax.out | exact GlobMax.drawn HGMax.out (by repeat (first | exact Drawn0.refl _ | apply Drawn0.step))); rintro e w' ⟨rfl, ⟨nd, rfl⟩⟩))
                go_ret
                exact ⟨by first | rfl | (simp; done) | (simp only [← hji7] <;> (first | rfl | simp)) | (simp [*]; done), by repeat (first | exact Drawn0.refl _ | apply Drawn0.step)⟩
              · replace c13 := Bool.eq_false_iff.mpr c13
                subst c13
                have H1 : ((attribute_begins.f k a0 (⟨#[97, 119, 115, 46]⟩ : ByteArray)).bind fun t121 => (if t121 = true then (some false) else ((attribute_begins.f k a0 (⟨#[97, 109, 97, 122, 111, 110, 46]⟩ : ByteArray)).bind fun t122 => (some (!t122))))) = some r := by rw [if_neg (show ¬ (false = true) by decide)] at H; exact H
                clear H
                have H := H1
                clear H1
                replace H := Option.bind_eq_some_iff.mp H
                obtain ⟨t121, A140, H⟩ := H
                replace H : (if t121 = true then (some false) else ((attribute_begins.f k a0 (⟨#[97, 109, 97, 122, 111, 110, 46]⟩ : ByteArray)).bind fun t122 => (some (!t122)))) = some r := H
                have A14 := Aside0.mk A140
                clear A140
                by_cases c15 : t121 = true
                · subst c15
                  have H1 : (some false) = some r := by rw [if_pos rfl] at H; exact H
                  clear H
                  have H := H1
                  clear H1
                  obtain rfl := Option.some.inj H
                  go_enter Tryd.func12, Tryd.ntmps12
                  go_wp2_with (first | ((with_reducible refine gate_callee (f := 30) rfl ?_); refine goesL_ (some 4) rfl rfl Tryd.func30 (by kernel_rfl) rfl #[.string a0, .string (⟨#[65, 66, 67, 68, 69, 70, 71, 72, 73, 74, 75, 76, 77, 78, 79, 80, 81, 82, 83, 84, 85, 86, 87, 88, 89, 90, 97, 98, 99, 100, 101, 102, 103, 104, 105, 106, 107, 108, 109, 110, 111, 112, 113, 114, 115, 116, 117, 118, 119, 120, 121, 122, 48, 49, 50, 51, 52, 53, 54, 55, 56, 57, 95, 45, 46]⟩ : ByteArray), .int .i64 64] rfl (by (try simp only [List.map_toArray, List.map_cons, List.map_nil]); first | done | rfl | (simp only [List.length_drop, List.length_take]; rfl)) ?_; (with_reducible refine (attribute_all.calls k a0 (⟨#[65, 66, 67, 68, 69, 70, 71, 72, 73, 74, 75, 76, 77, 78, 79, 80, 81, 82, 83, 84, 85, 86, 87, 88, 89, 90, 97, 98, 99, 100, 101, 102, 103, 104, 105, 106, 107, 108, 109, 110, 111, 112, 113, 114, 115, 116, 117, 118, 119, 120, 121, 122, 48, 49, 50, 51, 52, 53, 54, 55, 56, 57, 95, 45, 46]⟩ : ByteArray) 64 true _ A2.out).mono ?_); rintro e w' ⟨rfl, ⟨nd, rfl⟩⟩; refine ⟨_, rfl, ?_⟩; have p5 : 0 ≤ (0 : Int) := (by omega); have q5 : 0 < a0.size := (by have : (0 : Int) < (a0.size : Int) := of_decide_eq_true (by first | (with_reducible assumption) | assumption); omega); have hx5 : ∀ h : 0 < a0.size, ((a0[0]'h).toNat : Int) = bt a0 0 := bt_at a0 0; clear p5; have qi5 : (0 < (a0.size : Int)) = True := eq_true (of_decide_eq_true (by first | (with_reducible assumption) | assumption)); replace q5 := eq_true q5; have p10 : 0 ≤ ((ji7) : Int) := of_decide_eq_true (by first | (with_reducible assumption) | assumption); have q10 : (ji7) < (a0.size : Int) := of_decide_eq_true (by first | (with_reducible assumption) | assumption); have hx10 := bt_at a0 (ji7); replace p10 := eq_true p10; replace q10 := eq_true q10) | (go_at_call 32; (with_reducible refine (strings_Contains.calls a0 (⟨#[46, 46]⟩ : ByteArray) false _ ?side1 A12.out).mono ?_); (case side1 => first | exact HGMax.out | exact GlobMax.drawn HGMax.out (by repeat (first | exact Drawn0.refl _ | apply Drawn0.step))); rintro e w' ⟨rfl, ⟨nd, rfl⟩⟩) | (go_at_call 33; (with_reducible refine (attribute_begins.calls k a0 (⟨#[97, 119, 115, 46]⟩ : ByteArray) true _ A14.out).mono ?_); rintro e w' ⟨rfl, ⟨nd, rfl⟩⟩))
                  go_ret
                  exact ⟨by first | rfl | (simp; done) | (simp only [← hji7] <;> (first | rfl | simp)) | (simp [*]; done), by repeat (first | exact Drawn0.refl _ | apply Drawn0.step)⟩
                · replace c15 := Bool.eq_false_iff.mpr c15
                  subst c15
                  have H1 : ((attribute_begins.f k a0 (⟨#[97, 109, 97, 122, 111, 110, 46]⟩ : ByteArray)).bind fun t122 => (some (!t122))) = some r := by rw [if_neg (show ¬ (false = true) by decide)] at H; exact H
                  clear H
                  have H := H1
                  clear H1
                  replace H := Option.bind_eq_some_iff.mp H
                  obtain ⟨t122, A160, H⟩ := H
                  replace H : (some (!t122)) = some r := H
                  have A16 := Aside0.mk A160
                  clear A160
                  obtain rfl := Option.some.inj H
                  go_enter Tryd.func12, Tryd.ntmps12
                  go_wp2_with (first | ((with_reducible refine gate_callee (f := 30) rfl ?_); refine goesL_ (some 4) rfl rfl Tryd.func30 (by kernel_rfl) rfl #[.string a0, .string (⟨#[65, 66, 67, 68, 69, 70, 71, 72, 73, 74, 75, 76, 77, 78, 79, 80, 81, 82, 83, 84, 85, 86, 87, 88, 89, 90, 97, 98, 99, 100, 101, 102, 103, 104, 105, 106, 107, 108, 109, 110, 111, 112, 113, 114, 115, 116, 117, 118, 119, 120, 121, 122, 48, 49, 50, 51, 52, 53, 54, 55, 56, 57, 95, 45, 46]⟩ : ByteArray), .int .i64 64] rfl (by (try simp only [List.map_toArray, List.map_cons, List.map_nil]); first | done | rfl | (simp only [List.length_drop, List.length_take]; rfl)) ?_; (with_reducible refine (attribute_all.calls k a0 (⟨#[65, 66, 67, 68, 69, 70, 71, 72, 73, 74, 75, 76, 77, 78, 79, 80, 81, 82, 83, 84, 85, 86, 87, 88, 89, 90, 97, 98, 99, 100, 101, 102, 103, 104, 105, 106, 107, 108, 109, 110, 111, 112, 113, 114, 115, 116, 117, 118, 119, 120, 121, 122, 48, 49, 50, 51, 52, 53, 54, 55, 56, 57, 95, 45, 46]⟩ : ByteArray) 64 true _ A2.out).mono ?_); rintro e w' ⟨rfl, ⟨nd, rfl⟩⟩; refine ⟨_, rfl, ?_⟩; have p5 : 0 ≤ (0 : Int) := (by omega); have q5 : 0 < a0.size := (by have : (0 : Int) < (a0.size : Int) := of_decide_eq_true (by first | (with_reducible assumption) | assumption); omega); have hx5 : ∀ h : 0 < a0.size, ((a0[0]'h).toNat : Int) = bt a0 0 := bt_at a0 0; clear p5; have qi5 : (0 < (a0.size : Int)) = True := eq_true (of_decide_eq_true (by first | (with_reducible assumption) | assumption)); replace q5 := eq_true q5; have p10 : 0 ≤ ((ji7) : Int) := of_decide_eq_true (by first | (with_reducible assumption) | assumption); have q10 : (ji7) < (a0.size : Int) := of_decide_eq_true (by first | (with_reducible assumption) | assumption); have hx10 := bt_at a0 (ji7); replace p10 := eq_true p10; replace q10 := eq_true q10) | (go_at_call 32; (with_reducible refine (strings_Contains.calls a0 (⟨#[46, 46]⟩ : ByteArray) false _ ?side1 A12.out).mono ?_); (case side1 => first | exact HGMax.out | exact GlobMax.drawn HGMax.out (by repeat (first | exact Drawn0.refl _ | apply Drawn0.step))); rintro e w' ⟨rfl, ⟨nd, rfl⟩⟩) | (go_at_call 33; (with_reducible refine (attribute_begins.calls k a0 (⟨#[97, 119, 115, 46]⟩ : ByteArray) false _ A14.out).mono ?_); rintro e w' ⟨rfl, ⟨nd, rfl⟩⟩) | (go_at_call 33; (with_reducible refine (attribute_begins.calls k a0 (⟨#[97, 109, 97, 122, 111, 110, 46]⟩ : ByteArray) t122 _ A16.out).mono ?_); rintro e w' ⟨rfl, ⟨nd, rfl⟩⟩))
                  go_ret
                  exact ⟨by first | rfl | (simp; done) | (simp only [← hji7] <;> (first | rfl | simp)) | (simp [*]; done), by repeat (first | exact Drawn0.refl _ | apply Drawn0.step)⟩
          · rw [if_neg c9] at H
            exact absurd H (by simp)
        · rw [if_neg c8] at H
          exact absurd H (by simp)
    · rw [if_neg c4] at H
      exact absurd H (by simp)
  · replace c3 := Bool.eq_false_iff.mpr c3
    subst c3
    have H1 : (some false) = some r := by rw [if_neg (show ¬ (false = true) by decide)] at H; exact H
    clear H
    have H := H1
    clear H1
    obtain rfl := Option.some.inj H
    go_enter Tryd.func12, Tryd.ntmps12
    go_wp2_with (first | ((with_reducible refine gate_callee (f := 30) rfl ?_); refine goesL_ (some 4) rfl rfl Tryd.func30 (by kernel_rfl) rfl #[.string a0, .string (⟨#[65, 66, 67, 68, 69, 70, 71, 72, 73, 74, 75, 76, 77, 78, 79, 80, 81, 82, 83, 84, 85, 86, 87, 88, 89, 90, 97, 98, 99, 100, 101, 102, 103, 104, 105, 106, 107, 108, 109, 110, 111, 112, 113, 114, 115, 116, 117, 118, 119, 120, 121, 122, 48, 49, 50, 51, 52, 53, 54, 55, 56, 57, 95, 45, 46]⟩ : ByteArray), .int .i64 64] rfl (by (try simp only [List.map_toArray, List.map_cons, List.map_nil]); first | done | rfl | (simp only [List.length_drop, List.length_take]; rfl)) ?_; (with_reducible refine (attribute_all.calls k a0 (⟨#[65, 66, 67, 68, 69, 70, 71, 72, 73, 74, 75, 76, 77, 78, 79, 80, 81, 82, 83, 84, 85, 86, 87, 88, 89, 90, 97, 98, 99, 100, 101, 102, 103, 104, 105, 106, 107, 108, 109, 110, 111, 112, 113, 114, 115, 116, 117, 118, 119, 120, 121, 122, 48, 49, 50, 51, 52, 53, 54, 55, 56, 57, 95, 45, 46]⟩ : ByteArray) 64 false _ A2.out).mono ?_); rintro e w' ⟨rfl, ⟨nd, rfl⟩⟩; refine ⟨_, rfl, ?_⟩))
    go_ret
    exact ⟨by first | rfl | (simp; done) | (simp; decide +kernel) | (simp [*]; done), by repeat (first | exact Drawn0.refl _ | apply Drawn0.step)⟩

def strings_HasPrefix.f (a0 : ByteArray) (a1 : ByteArray) : Option (Bool) := (stringslite_HasPrefix.f a0 a1).bind fun t127 => (some t127)
set_option maxHeartbeats 8000000 in
set_option maxRecDepth 100000 in
theorem strings_HasPrefix.calls (a0 : ByteArray) (a1 : ByteArray) (r : Bool) (w : World) (h : strings_HasPrefix.f a0 a1 = some r) :
    Calls Tryd.prog 40 #[.string a0, .string a1] w fun e w' => e = .returned (.bool r) ∧ Drawn0 w w' := by
  have H : ((stringslite_HasPrefix.f a0 a1).bind fun t127 => (some t127)) = some r := h
  clear h
  replace H := Option.bind_eq_some_iff.mp H
  obtain ⟨t127, A30, H⟩ := H
  replace H : (some t127) = some r := H
  have A3 := Aside0.mk A30
  clear A30
  obtain rfl := Option.some.inj H
  go_enter Tryd.func40, Tryd.ntmps40
  go_wp2_with (first | ((with_reducible refine gate_callee (f := 73) rfl ?_); refine goesL_ (some 7) rfl rfl Tryd.func73 (by kernel_rfl) rfl #[.string a0, .string a1] rfl (by (try simp only [List.map_toArray, List.map_cons, List.map_nil]); first | done | rfl | (simp only [List.length_drop, List.length_take]; rfl)) ?_; (with_reducible refine (stringslite_HasPrefix.calls a0 a1 t127 _ A3.out).mono ?_); rintro e w' ⟨rfl, ⟨nd, rfl⟩⟩; refine ⟨_, rfl, ?_⟩))
  go_ret
  exact ⟨by first | rfl | (simp; done) | (simp; decide +kernel) | (simp [*]; done), by repeat (first | exact Drawn0.refl _ | apply Drawn0.step)⟩

def attribute_sign.f (a0 : ByteArray) : Option (ByteArray) := (strings_HasPrefix.f a0 (⟨#[43]⟩ : ByteArray)).bind fun t128 => (if t128 = true then (if 1 ≤ (a0.size : Int) then (some (a0.extract 1 a0.size)) else (none)) else ((strings_HasPrefix.f a0 (⟨#[45]⟩ : ByteArray)).bind fun t129 => (if t129 = true then (if 1 ≤ (a0.size : Int) then (some (a0.extract 1 a0.size)) else (none)) else (some a0))))
set_option maxHeartbeats 8000000 in
set_option maxRecDepth 100000 in
theorem attribute_sign.calls (a0 : ByteArray) (r : ByteArray) (w : World) (h : attribute_sign.f a0 = some r) :
    Calls Tryd.prog 37 #[.string a0] w fun e w' => e = .returned (.string r) ∧ Drawn0 w w' := by
  have H : ((strings_HasPrefix.f a0 (⟨#[43]⟩ : ByteArray)).bind fun t128 => (if t128 = true then (if 1 ≤ (a0.size : Int) then (some (a0.extract 1 a0.size)) else (none)) else ((strings_HasPrefix.f a0 (⟨#[45]⟩ : ByteArray)).bind fun t129 => (if t129 = true then (if 1 ≤ (a0.size : Int) then (some (a0.extract 1 a0.size)) else (none)) else (some a0))))) = some r := h
  clear h
  replace H := Option.bind_eq_some_iff.mp H
  obtain ⟨t128, A20, H⟩ := H
  replace H : (if t128 = true then (if 1 ≤ (a0.size : Int) then (some (a0.extract 1 a0.size)) else (none)) else ((strings_HasPrefix.f a0 (⟨#[45]⟩ : ByteArray)).bind fun t129 => (if t129 = true then (if 1 ≤ (a0.size : Int) then (some (a0.extract 1 a0.size)) else (none)) else (some a0)))) = some r := H
  have A2 := Aside0.mk A20
  clear A20
  by_cases c3 : t128 = true
  · subst c3
    have H1 : (if 1 ≤ (a0.size : Int) then (some (a0.extract 1 a0.size)) else (none)) = some r := by rw [if_pos rfl] at H; exact H
    clear H
    have H := H1
    clear H1
    by_cases c4 : 1 ≤ (a0.size : Int)
    · rw [if_pos c4] at H
      have c4b0 := eq_true c4
      have c4b1 : decide (1 ≤ (a0.size : Int)) = true := decide_eq_true c4
      clear c4
      obtain rfl := Option.some.inj H
      go_enter Tryd.func37, Tryd.ntmps37
      go_wp2_with (first | ((with_reducible refine gate_callee (f := 40) rfl ?_); refine goesL_ (some 4) rfl rfl Tryd.func40 (by kernel_rfl) rfl #[.string a0, .string (⟨#[43]⟩ : ByteArray)] rfl (by (try simp only [List.map_toArray, List.map_cons, List.map_nil]); first | done | rfl | (simp only [List.length_drop, List.length_take]; rfl)) ?_; (with_reducible refine (strings_HasPrefix.calls a0 (⟨#[43]⟩ : ByteArray) true _ A2.out).mono ?_); rintro e w' ⟨rfl, ⟨nd, rfl⟩⟩; refine ⟨_, rfl, ?_⟩))
      go_ret
      exact ⟨by first | rfl | (simp; done) | (simp; decide +kernel) | (simp [*]; done), by repeat (first | exact Drawn0.refl _ | apply Drawn0.step)⟩
    · rw [if_neg c4] at H
      exact absurd H (by simp)
  · replace c3 := Bool.eq_false_iff.mpr c3
    subst c3
    have H1 : ((strings_HasPrefix.f a0 (⟨#[45]⟩ : ByteArray)).bind fun t129 => (if t129 = true then (if 1 ≤ (a0.size : Int) then (some (a0.extract 1 a0.size)) else (none)) else (some a0))) = some r := by rw [if_neg (show ¬ (false = true) by decide)] at H; exact H
    clear H
    have H := H1
    clear H1
    replace H := Option.bind_eq_some_iff.mp H
    obtain ⟨t129, A50, H⟩ := H
    replace H : (if t129 = true then (if 1 ≤ (a0.size : Int) then (some (a0.extract 1 a0.size)) else (none)) else (some a0)) = some r := H
    have A5 := Aside0.mk A50
    clear A50
    by_cases c6 : t129 = true
    · subst c6
      have H1 : (if 1 ≤ (a0.size : Int) then (some (a0.extract 1 a0.size)) else (none)) = some r := by rw [if_pos rfl] at H; exact H
      clear H
      have H := H1
      clear H1
      by_cases c7 : 1 ≤ (a0.size : Int)
      · rw [if_pos c7] at H
        have c7b0 := eq_true c7
        have c7b1 : decide (1 ≤ (a0.size : Int)) = true := decide_eq_true c7
        clear c7
        obtain rfl := Option.some.inj H
        go_enter Tryd.func37, Tryd.ntmps37
        go_wp2_with (first | ((with_reducible refine gate_callee (f := 40) rfl ?_); refine goesL_ (some 4) rfl rfl Tryd.func40 (by kernel_rfl) rfl #[.string a0, .string (⟨#[43]⟩ : ByteArray)] rfl (by (try simp only [List.map_toArray, List.map_cons, List.map_nil]); first | done | rfl | (simp only [List.length_drop, List.length_take]; rfl)) ?_; (with_reducible refine (strings_HasPrefix.calls a0 (⟨#[43]⟩ : ByteArray) false _ A2.out).mono ?_); rintro e w' ⟨rfl, ⟨nd, rfl⟩⟩; refine ⟨_, rfl, ?_⟩) | (go_at_call 40; (with_reducible refine (strings_HasPrefix.calls a0 (⟨#[45]⟩ : ByteArray) true _ A5.out).mono ?_); rintro e w' ⟨rfl, ⟨nd, rfl⟩⟩))
        go_ret
        exact ⟨by first | rfl | (simp; done) | (simp; decide +kernel) | (simp [*]; done), by repeat (first | exact Drawn0.refl _ | apply Drawn0.step)⟩
      · rw [if_neg c7] at H
        exact absurd H (by simp)
    · replace c6 := Bool.eq_false_iff.mpr c6
      subst c6
      have H1 : (some a0) = some r := by rw [if_neg (show ¬ (false = true) by decide)] at H; exact H
      clear H
      have H := H1
      clear H1
      obtain rfl := Option.some.inj H
      go_enter Tryd.func37, Tryd.ntmps37
      go_wp2_with (first | ((with_reducible refine gate_callee (f := 40) rfl ?_); refine goesL_ (some 4) rfl rfl Tryd.func40 (by kernel_rfl) rfl #[.string a0, .string (⟨#[43]⟩ : ByteArray)] rfl (by (try simp only [List.map_toArray, List.map_cons, List.map_nil]); first | done | rfl | (simp only [List.length_drop, List.length_take]; rfl)) ?_; (with_reducible refine (strings_HasPrefix.calls a0 (⟨#[43]⟩ : ByteArray) false _ A2.out).mono ?_); rintro e w' ⟨rfl, ⟨nd, rfl⟩⟩; refine ⟨_, rfl, ?_⟩) | (go_at_call 40; (with_reducible refine (strings_HasPrefix.calls a0 (⟨#[45]⟩ : ByteArray) false _ A5.out).mono ?_); rintro e w' ⟨rfl, ⟨nd, rfl⟩⟩))
      go_ret
      exact ⟨by first | rfl | (simp; done) | (simp; decide +kernel) | (simp [*]; done), by repeat (first | exact Drawn0.refl _ | apply Drawn0.step)⟩

end Go.Proofs.YtolpefnedpgaaaaDoor.X

namespace Go.Proofs.YtolpefnedpgaaaaDoor.X
open Go.RowKit Go.Proofs.YtolpefnedpgaaaaDoorW.PrintWords Go.Proofs.YtolpefnedpgaaaaDoorW.PrintMore
set_option linter.unusedVariables false
set_option linter.unusedSimpArgs false
theorem w64 {x : Int} (h0 : -9223372036854775808 ≤ x) (h1 : x ≤ 9223372036854775807) : wrap64 x = x := by unfold wrap64; omega
theorem bt_range (s : ByteArray) (i : Int) : 0 ≤ bt s i ∧ bt s i < 256 := by
  unfold bt
  split
  · rename_i h
    have := (s[i.toNat]'h).toNat_lt
    omega
  · omega
theorem q_bt (s : ByteArray) (i : Nat) (h : i < s.size) : bt s (i : Int) = ((s[i]'h).toNat : Int) := by
  unfold bt
  simp only [Int.toNat_natCast]
  rw [dif_pos h]
/-- All bytes from i on, d of them. -/
def allD (p : Int → Bool) (s : ByteArray) : Nat → Nat → Bool
  | 0, _ => true
  | d + 1, i => p (bt s (i : Int)) && allD p s d (i + 1)
theorem allD_congr {p q : Int → Bool} (h : ∀ c : Int, 0 ≤ c → c < 256 → p c = q c) (s : ByteArray) (d : Nat) : ∀ i, allD p s d i = allD q s d i := by
  induction d with
  | zero => intro i; rfl
  | succ d ih => intro i; have := bt_range s (i : Int); simp only [allD]; rw [ih, h _ this.1 this.2]
theorem byte_eq {p q : Int → Bool} (h : ∀ n : Fin 256, p (n.val : Int) = q (n.val : Int)) (c : Int) (h0 : 0 ≤ c) (h1 : c < 256) : p c = q c := by
  obtain ⟨n, rfl⟩ := Int.eq_ofNat_of_zero_le h0
  exact h ⟨n, by omega⟩
theorem mn_le_left (a b : Int) : mn a b ≤ a := by unfold mn; split <;> omega
theorem mn_cases (a b : Int) : mn a b = a ∨ mn a b = b := by unfold mn; split <;> simp
/-- A text cut at n. -/
def cutB (s : ByteArray) (n : Nat) : ByteArray := s.extract 0 (mn (s.size : Int) (n : Int)).toNat
theorem cutB_size (s : ByteArray) (n : Nat) : (cutB s n).size = min s.size n := by
  unfold cutB mn
  rw [ByteArray.size_extract]
  split <;> omega
end Go.Proofs.YtolpefnedpgaaaaDoor.X

namespace Go.Proofs.YtolpefnedpgaaaaDoor.X
open Go.RowKit Go.Proofs.YtolpefnedpgaaaaDoorW.PrintWords Go.Proofs.YtolpefnedpgaaaaDoorW.PrintMore
set_option linter.unusedVariables false
set_option linter.unusedSimpArgs false
/-- The digits' value, if they all are digits. -/
def digVal : Nat → List UInt8 → Option Nat
  | u, [] => some u
  | u, c :: l => if 48 ≤ c.toNat ∧ c.toNat ≤ 57 then digVal (10 * u + (c.toNat - 48)) l else none
/-- The sign has been cut off. -/
def atoiT (m : Bool) (t : List UInt8) : Int × Int :=
  if t = [] ∨ 19 < t.length ∨ (t.headD 0 = 48 ∧ (1 < t.length ∨ m = true)) then (0, 5)
  else match digVal 0 t with
    | none => (0, 5)
    | some u => if m = true then (if u ≤ 9223372036854775808 then (-(u : Int), 0) else (0, 5)) else (if u ≤ 9223372036854775807 then ((u : Int), 0) else (0, 5))
def atoiB (s : ByteArray) : Int × Int := atoiT (Lib.hasPrefix s.data.toList [45]) (Lib.trimPrefix s.data.toList [45])
theorem digVal_snoc (c : UInt8) : ∀ (l : List UInt8) (u : Nat), digVal u (l ++ [c]) = (digVal u l).bind fun v => if 48 ≤ c.toNat ∧ c.toNat ≤ 57 then some (10 * v + (c.toNat - 48)) else none
  | [], u => by simp [digVal]
  | d :: l, u => by
    simp only [List.cons_append, digVal]
    split
    · exact digVal_snoc c l _
    · rfl
theorem digVal_append (l2 : List UInt8) : ∀ (l : List UInt8) (u : Nat), digVal u (l ++ l2) = (digVal u l).bind fun v => digVal v l2
  | [], u => by simp [digVal]
  | d :: l, u => by
    simp only [List.cons_append, digVal]
    split
    · exact digVal_append l2 l _
    · rfl
theorem digVal_lt : ∀ (l : List UInt8) (u v : Nat), digVal u l = some v → v < (u + 1) * 10 ^ l.length
  | [], u, v, h => by simp [digVal] at h; subst h; simp
  | c :: l, u, v, h => by
    simp only [digVal] at h
    split at h
    · rename_i hc
      have := digVal_lt l _ v h
      simp only [List.length_cons, Nat.pow_succ]
      have h2 : (10 * u + (c.toNat - 48) + 1) * 10 ^ l.length ≤ (u + 1) * (10 ^ l.length * 10) := by
        rw [Nat.mul_comm (10 ^ l.length) 10, ← Nat.mul_assoc]
        exact Nat.mul_le_mul_right _ (by omega)
      omega
    · exact absurd h (by simp)
theorem take_succ_bytes (t : ByteArray) (k : Nat) (h : k < t.size) : t.data.toList.take (k + 1) = t.data.toList.take k ++ [t[k]'h] := by
  rw [List.take_succ_eq_append_getElem (by simpa using h)]; rfl
theorem digVal_stop (t : ByteArray) (k : Nat) (h : k < t.size) (hc : ¬ (48 ≤ (t[k]'h).toNat ∧ (t[k]'h).toNat ≤ 57)) : digVal 0 t.data.toList = none := by
  have e : t.data.toList = t.data.toList.take k ++ (t[k]'h :: t.data.toList.drop (k + 1)) := by
    have h' : k < t.data.toList.length := by simpa using h
    have h2 := List.drop_eq_getElem_cons h'
    have h3 : t.data.toList[k]'h' = t[k]'h := rfl
    rw [h3] at h2
    rw [← h2, List.take_append_drop]
  rw [e, digVal_append]
  cases digVal 0 (t.data.toList.take k) with
  | none => rfl
  | some v => simp only [Option.bind_some, digVal]; rw [if_neg hc]
theorem toList_ne (t : ByteArray) (h1 : 0 < t.size) : t.toList.isEmpty = false := by
  have h : t.toList = t.data.toList := ByteArray.toList_eq t
  rw [h]
  have : t.data.toList.length = t.size := by simp
  cases h2 : t.data.toList with
  | nil => rw [h2] at this; simp at this; omega
  | cons a b => rfl
theorem atoi_not (t : ByteArray) (m : Bool) (h1 : 0 < t.size) (h2 : t.size ≤ 19) (h3 : ((t[0]'h1).toNat : Int) ≠ 48) :
    ¬ (t.data.toList = [] ∨ 19 < t.data.toList.length ∨ (t.data.toList.headD 0 = 48 ∧ (1 < t.data.toList.length ∨ m = true))) := by
  have hl : t.data.toList.length = t.size := by simp
  rintro (h | h | ⟨h, _⟩)
  · rw [h] at hl; simp at hl; omega
  · omega
  · apply h3
    have e : t.data.toList.headD 0 = t[0]'h1 := by
      rw [List.headD_eq_head?_getD, List.head?_eq_getElem?, List.getElem?_eq_getElem (by omega)]
      rfl
    rw [← e, h]
    rfl
theorem trim_less (s : ByteArray) : decide ((Lib.trimPrefix s.data.toList [45]).length < s.size) = Lib.hasPrefix s.data.toList [45] := by
  have hl : s.data.toList.length = s.size := by simp
  unfold Lib.trimPrefix
  split
  · rename_i h
    rw [h, decide_eq_true_iff]
    simp only [List.length_drop, List.length_cons, List.length_nil]
    have : 0 < s.data.toList.length := by
      cases hd : s.data.toList with
      | nil => rw [hd] at h; simp [Lib.hasPrefix] at h
      | cons a b => simp
    omega
  · rename_i h
    rw [Bool.not_eq_true] at h
    rw [h, decide_eq_false_iff_not]
    omega
end Go.Proofs.YtolpefnedpgaaaaDoor.X

namespace Go.Proofs.YtolpefnedpgaaaaDoor.X
open Go.RowKit Go.Proofs.YtolpefnedpgaaaaDoorW.PrintWords
set_option linter.unusedVariables false
set_option linter.unusedSimpArgs false
theorem ret_two {a b : Int × Int} (h : a = b) : Ending.returned (.tuple #[.int .i64 a.1, .int .i64 a.2]) = .returned (.tuple #[.int .i64 b.1, .int .i64 b.2]) := by rw [h]
set_option maxHeartbeats 2000000 in
set_option maxRecDepth 100000 in
theorem atoi_loop (s t : ByteArray) (m : Bool) (w : World) (ht : (⟨(Lib.trimPrefix s.data.toList [45]).toArray⟩ : ByteArray) = t) (hm : decide (t.size < s.size) = m)
    (h1 : 0 < t.size) (h2 : t.size ≤ 19) (h3 : ((t[0]'h1).toNat : Int) ≠ 48) :
    Calls Tryd.prog 38 #[.string s] w fun e w' => e = .returned (.tuple #[.int .i64 (atoiT m t.data.toList).1, .int .i64 (atoiT m t.data.toList).2]) ∧ w' = w := by
  have HT := Lib.hid ht
  clear ht
  have e1 : t.toList.isEmpty = false := toList_ne t h1
  have hnil : ¬ (t.data.toList = [] ∨ 19 < t.data.toList.length ∨ (t.data.toList.headD 0 = 48 ∧ (1 < t.data.toList.length ∨ m = true))) := atoi_not t m h1 h2 h3
  have hAt : ∀ v, digVal 0 t.data.toList = v → atoiT m t.data.toList = match v with | none => (0, 5) | some u => if m = true then (if u ≤ 9223372036854775808 then (-(u : Int), 0) else (0, 5)) else (if u ≤ 9223372036854775807 then ((u : Int), 0) else (0, 5)) := by
    intro v hv; subst hv; unfold atoiT; rw [if_neg hnil] <;> rfl
  have HA := Lib.hid hAt
  clear hnil hAt
  have e3 : (((t[0]'h1).toNat : Int) == 48) = false := by simpa using h3
  go_enter Tryd.func38, Tryd.ntmps38
  go_wp2_with (go_at_call 68; refine (Tryd.strings_TrimPrefix _ _ _).mono ?_; rintro e w1 ⟨rfl, rfl⟩; simp only [HT.out])
  go_loop [6, 37] (fun x i => ∃ k u : Nat, k ≤ t.size ∧ x = .int .u64 u ∧ i = .int .i64 k ∧ Hid (digVal 0 (t.data.toList.take k) = some u)) (fun _ i => t.size - (intOf i).toNat)
  case atStart => exact ⟨0, 0, Nat.zero_le _, rfl, rfl, Lib.hid rfl⟩
  case round =>
    obtain ⟨k, u, hk, rfl, rfl, hu⟩ := hrel
    by_cases hlt : k < t.size
    · have hb : (u : Int) ≤ 1000000000000000000 := by
        have := digVal_lt _ _ _ hu.out
        have hl : (t.data.toList.take k).length = k := by rw [List.length_take, Array.length_toList]; have : k < t.data.size := hlt; omega
        rw [hl] at this
        have h18 : 10 ^ k ≤ 10 ^ 18 := Nat.pow_le_pow_right (by omega) (by omega)
        have : (10 : Nat) ^ 18 = 1000000000000000000 := by decide
        omega
      have hu0 : (0 : Int) ≤ (u : Int) := by omega
      have hc1 : (0 : Int) ≤ ((t[k]'hlt).toNat : Int) := by omega
      have hc2 : ((t[k]'hlt).toNat : Int) ≤ 255 := by have := (t[k]'hlt).toNat_lt; omega
      have hts := Lib.hid (take_succ_bytes t k hlt)
      have hsn := Lib.hid (digVal_snoc (t[k]'hlt) (t.data.toList.take k) 0)
      have hdr := Lib.hid (digVal_stop t k hlt)
      by_cases hd1 : ((t[k]'hlt).toNat : Int) < 48
      · have hq1 : decide (((t[k]'hlt).toNat : Int) < 48) = true := decide_eq_true hd1
        go_wp2
        go_ret2
        exact ⟨ret_two (a := (0, 5)) (HA.out _ (hdr.out (by omega))).symm, rfl⟩
      · have hq1 : decide (((t[k]'hlt).toNat : Int) < 48) = false := decide_eq_false hd1
        by_cases hd2 : (57 : Int) < ((t[k]'hlt).toNat : Int)
        · have hq2 : decide ((57 : Int) < ((t[k]'hlt).toNat : Int)) = true := decide_eq_true hd2
          go_wp2
          go_ret2
          exact ⟨ret_two (a := (0, 5)) (HA.out _ (hdr.out (by omega))).symm, rfl⟩
        · have hq2 : decide ((57 : Int) < ((t[k]'hlt).toNat : Int)) = false := decide_eq_false hd2
          go_wp2
          refine ⟨⟨k + 1, 10 * u + ((t[k]'hlt).toNat - 48), by omega, ?_, by go_num, Lib.hid ?_⟩, by simp [intOf]; omega⟩
          · rw [show ((10 * u + ((t[k]'hlt).toNat - 48) : Nat) : Int) = 10 * (u : Int) + (((t[k]'hlt).toNat : Int) - 48) by omega]
          · rw [hts.out, hsn.out, hu.out, Option.bind_some, if_pos (by omega)]
    · have hke : k = t.size := by omega
      subst hke
      have hdv : digVal 0 t.data.toList = some u := by have := hu.out; rwa [List.take_of_length_le (by simp)] at this
      have HD := Lib.hid (HA.out _ hdv)
      clear hdv hu
      cases m with
      | true =>
        by_cases hb : u ≤ 9223372036854775808
        · have hq : decide ((u : Int) ≤ 9223372036854775808) = true := by simp; omega
          have hw : IntKind.i64.wrap (IntKind.u64.wrap (-(u : Int))) = -(u : Int) := by unfold IntKind.wrap; simp [IntKind.signed, IntKind.bits]; omega
          go_wp2
          go_ret2
          exact ⟨ret_two (a := (-(u : Int), 0)) (by rw [HD.out]; simp only [if_true, if_pos hb]), rfl⟩
        · have hq : decide ((u : Int) ≤ 9223372036854775808) = false := by simp; omega
          go_wp2
          go_ret2
          exact ⟨ret_two (a := (0, 5)) (by rw [HD.out]; simp only [if_true, if_neg hb]), rfl⟩
      | false =>
        by_cases hb : u ≤ 9223372036854775807
        · have hq : decide ((u : Int) ≤ 9223372036854775807) = true := by simp; omega
          go_wp2
          go_ret2
          exact ⟨ret_two (a := ((u : Int), 0)) (by rw [HD.out]; simp only [if_false, Bool.false_eq_true, if_pos hb]), rfl⟩
        · have hq : decide ((u : Int) ≤ 9223372036854775807) = false := by simp; omega
          go_wp2
          go_ret2
          exact ⟨ret_two (a := (0, 5)) (by rw [HD.out]; simp only [if_false, Bool.false_eq_true, if_neg hb]), rfl⟩
set_option maxHeartbeats 2000000 in
set_option maxRecDepth 100000 in
theorem atoi_none (s t : ByteArray) (w : World) (ht : (⟨(Lib.trimPrefix s.data.toList [45]).toArray⟩ : ByteArray) = t) (h : t.size = 0) :
    Calls Tryd.prog 38 #[.string s] w fun e w' => e = .returned (.tuple #[.int .i64 0, .int .i64 5]) ∧ w' = w := by
  have HT := Lib.hid ht
  clear ht
  have e1 : t.toList.isEmpty = true := by
    have : t.toList = t.data.toList := ByteArray.toList_eq t
    rw [this, List.isEmpty_iff, ← List.length_eq_zero_iff]; simpa using h
  clear h
  go_enter Tryd.func38, Tryd.ntmps38
  go_wp2_with (go_at_call 68; refine (Tryd.strings_TrimPrefix _ _ _).mono ?_; rintro e w1 ⟨rfl, rfl⟩; simp only [HT.out])
  go_ret2
  exact ⟨rfl, rfl⟩
set_option maxHeartbeats 2000000 in
set_option maxRecDepth 100000 in
theorem atoi_long (s t : ByteArray) (w : World) (ht : (⟨(Lib.trimPrefix s.data.toList [45]).toArray⟩ : ByteArray) = t) (h1 : 0 < t.size) (h2 : (19 : Int) < t.size) :
    Calls Tryd.prog 38 #[.string s] w fun e w' => e = .returned (.tuple #[.int .i64 0, .int .i64 5]) ∧ w' = w := by
  have HT := Lib.hid ht
  clear ht
  have e1 : t.toList.isEmpty = false := toList_ne t h1
  have e2 : decide ((19 : Int) < (t.size : Int)) = true := decide_eq_true h2
  go_enter Tryd.func38, Tryd.ntmps38
  go_wp2_with (go_at_call 68; refine (Tryd.strings_TrimPrefix _ _ _).mono ?_; rintro e w1 ⟨rfl, rfl⟩; simp only [HT.out])
  go_ret2
  exact ⟨rfl, rfl⟩
set_option maxHeartbeats 2000000 in
set_option maxRecDepth 100000 in
theorem atoi_nought (s t : ByteArray) (m : Bool) (w : World) (ht : (⟨(Lib.trimPrefix s.data.toList [45]).toArray⟩ : ByteArray) = t) (hm : decide (t.size < s.size) = m)
    (h1 : 0 < t.size) (h2 : t.size ≤ 19) (h3 : ((t[0]'h1).toNat : Int) = 48) (h4 : 1 < t.size ∨ m = true) :
    Calls Tryd.prog 38 #[.string s] w fun e w' => e = .returned (.tuple #[.int .i64 0, .int .i64 5]) ∧ w' = w := by
  have HT := Lib.hid ht
  clear ht
  have e1 : t.toList.isEmpty = false := toList_ne t h1
  have e3 : (((t[0]'h1).toNat : Int) == 48) = true := by rw [beq_iff_eq]; exact h3
  by_cases h5 : 1 < t.size
  · have e5 : decide ((1 : Int) < (t.size : Int)) = true := by simp; omega
    have e6 : decide (1 < t.size) = true := by simp; omega
    clear h4 h3
    go_enter Tryd.func38, Tryd.ntmps38
    go_wp2_with (go_at_call 68; refine (Tryd.strings_TrimPrefix _ _ _).mono ?_; rintro e w1 ⟨rfl, rfl⟩; simp only [HT.out])
    go_ret2
    exact ⟨rfl, rfl⟩
  · obtain rfl := h4.resolve_left h5
    have e5 : decide ((1 : Int) < (t.size : Int)) = false := by simp; omega
    have e6 : decide (1 < t.size) = false := by simp; omega
    clear h4 h3
    go_enter Tryd.func38, Tryd.ntmps38
    go_wp2_with (go_at_call 68; refine (Tryd.strings_TrimPrefix _ _ _).mono ?_; rintro e w1 ⟨rfl, rfl⟩; simp only [HT.out])
    go_ret2
    exact ⟨rfl, rfl⟩
set_option maxHeartbeats 2000000 in
set_option maxRecDepth 100000 in
/-- 0 itself. -/
theorem atoi_zero (s t : ByteArray) (w : World) (ht : (⟨(Lib.trimPrefix s.data.toList [45]).toArray⟩ : ByteArray) = t) (hm : decide (t.size < s.size) = false)
    (h1 : 0 < t.size) (h2 : t.size = 1) (h3 : ((t[0]'h1).toNat : Int) = 48) :
    Calls Tryd.prog 38 #[.string s] w fun e w' => e = .returned (.tuple #[.int .i64 0, .int .i64 0]) ∧ w' = w := by
  obtain rfl : t = ⟨#[48]⟩ := by
    obtain ⟨⟨l⟩⟩ := t
    match l, h2 with
    | [c], _ =>
      have : c.toNat = 48 := by have : (c.toNat : Int) = 48 := h3; omega
      have : c = 48 := by apply UInt8.toNat.inj; exact this
      subst this
      rfl
  clear h1 h2 h3
  have HT := Lib.hid ht
  clear ht
  have hm0 : ¬ (1 < s.size) := of_decide_eq_false hm
  have hm1 : decide (1 < s.size) = false := hm
  have hm2 : decide ((1 : Int) < (s.size : Int)) = false := by simp; omega
  clear hm hm0
  go_enter Tryd.func38, Tryd.ntmps38
  go_wp2_with (go_at_call 68; refine (Tryd.strings_TrimPrefix _ _ _).mono ?_; rintro e w1 ⟨rfl, rfl⟩; simp only [HT.out])
  refine wp_loop_rounds 2 ?_
  rw [rounds_succ]
  go_wp2
  rw [rounds_succ]
  go_wp2
  go_ret2
  exact ⟨rfl, rfl⟩
/-- basic.Atoi. -/
def basic_Atoi.f (s : ByteArray) : Option (Int × Int) := some (atoiB s)
theorem basic_Atoi.calls (a0 : ByteArray) (r1 r2 : Int) (w : World) (h : basic_Atoi.f a0 = some (r1, r2)) :
    Calls Tryd.prog 38 #[.string a0] w fun e w' => e = .returned (.tuple #[.int .i64 r1, .int .i64 r2]) ∧ Drawn0 w w' := by
  have h' : atoiB a0 = (r1, r2) := Option.some.inj h
  clear h
  have key : Calls Tryd.prog 38 #[.string a0] w fun e w' => e = .returned (.tuple #[.int .i64 (atoiB a0).1, .int .i64 (atoiB a0).2]) ∧ w' = w := by
    obtain ⟨t, ht⟩ : ∃ t : ByteArray, (⟨(Lib.trimPrefix a0.data.toList [45]).toArray⟩ : ByteArray) = t := ⟨_, rfl⟩
    have htd : t.data.toList = Lib.trimPrefix a0.data.toList [45] := by rw [← ht]
    have hts : t.size = (Lib.trimPrefix a0.data.toList [45]).length := by rw [← htd]; simp
    have hm : decide (t.size < a0.size) = Lib.hasPrefix a0.data.toList [45] := by rw [hts]; exact trim_less a0
    have hl : t.data.toList.length = t.size := by simp
    by_cases h0 : t.size = 0
    · have : atoiB a0 = (0, 5) := by
        unfold atoiB atoiT
        rw [if_pos (.inl (by rw [← htd]; exact List.length_eq_zero_iff.mp (by omega)))]
      rw [this]
      exact atoi_none a0 t w ht h0
    · by_cases h19 : (19 : Int) < t.size
      · have : atoiB a0 = (0, 5) := by
          unfold atoiB atoiT
          rw [if_pos (.inr (.inl (by rw [← htd]; omega)))]
        rw [this]
        exact atoi_long a0 t w ht (by omega) h19
      · by_cases h48 : ((t[0]'(by omega)).toNat : Int) = 48
        · have hhead : t.data.toList.headD 0 = 48 := by
            have e : t.data.toList.headD 0 = t[0]'(by omega) := by
              rw [List.headD_eq_head?_getD, List.head?_eq_getElem?, List.getElem?_eq_getElem (by omega)]
              rfl
            rw [e]
            apply UInt8.toNat.inj
            show (t[0]'(by omega)).toNat = 48
            omega
          by_cases h4 : 1 < t.size ∨ Lib.hasPrefix a0.data.toList [45] = true
          · have : atoiB a0 = (0, 5) := by
              unfold atoiB atoiT
              rw [if_pos (.inr (.inr ⟨by rw [← htd]; exact hhead, by rw [← htd, hl]; exact h4⟩))]
            rw [this]
            exact atoi_nought a0 t _ w ht hm (by omega) (by omega) h48 h4
          · have hone : t.size = 1 := by omega
            have hz : atoiB a0 = (0, 0) := by
              unfold atoiB atoiT
              rw [← htd]
              have hneg : ¬ (t.data.toList = [] ∨ 19 < t.data.toList.length ∨ (t.data.toList.headD 0 = 48 ∧ (1 < t.data.toList.length ∨ Lib.hasPrefix a0.data.toList [45] = true))) := by
                rw [hl]
                rintro (e | e | ⟨_, e⟩)
                · rw [e] at hl
                  simp at hl
                  omega
                · omega
                · exact h4 e
              rw [if_neg hneg]
              match hd : t.data.toList, hl with
              | [c], _ =>
                rw [hd] at hhead
                simp at hhead
                subst hhead
                have : Lib.hasPrefix a0.data.toList [45] = false := by cases hh : Lib.hasPrefix a0.data.toList [45] <;> simp_all
                rw [this]
                decide
              | [], e => rw [hone] at e; simp at e
              | _ :: _ :: _, e => rw [hone] at e; simp at e
            rw [hz]
            exact atoi_zero a0 t w ht (by rw [hm]; cases hh : Lib.hasPrefix a0.data.toList [45] <;> simp_all) (by omega) hone h48
        · have := atoi_loop a0 t _ w ht hm (by omega) (by omega) h48
          rw [htd] at this
          exact this
  rw [h'] at key
  refine key.mono ?_
  rintro e w' ⟨rfl, rfl⟩
  exact ⟨rfl, Drawn0.refl _⟩
end Go.Proofs.YtolpefnedpgaaaaDoor.X

namespace Go.Proofs.YtolpefnedpgaaaaDoor.X
open Go.RowKit Go.Proofs.YtolpefnedpgaaaaDoorW.PrintWords
set_option linter.unusedVariables false
set_option linter.unusedSimpArgs false
/-- strings.Replace, of something by little. -/
def strings_Replace.f (s old new : ByteArray) (n : Int) : Option ByteArray :=
  if s.size < 4294967281 ∧ 1 ≤ old.size ∧ new.size ≤ 16 then some ⟨(Lib.replace s.data.toList old.data.toList new.data.toList n).toArray⟩ else none
theorem strings_Replace.calls (a0 a1 a2 : ByteArray) (a3 : Int) (r : ByteArray) (w : World) (hGMax : GlobMax w) (h : strings_Replace.f a0 a1 a2 a3 = some r) :
    Calls Tryd.prog 36 #[.string a0, .string a1, .string a2, .int .i64 a3] w fun e w' => e = .returned (.string r) ∧ Below w.heap.size w w' := by
  unfold strings_Replace.f at h
  split at h
  · rename_i hh
    obtain rfl := Option.some.inj h
    obtain ⟨_, m, hm⟩ := hGMax
    have hc := Lib.countB_le a1 hh.2.1 _ a0 (Nat.le_refl _)
    have hm2 := Nat.mul_le_mul hc hh.2.2
    exact Tryd.strings_Replace a0 a1 a2 a3 m w hh.1 hm hh.2.1 (by omega)
  · exact absurd h (by simp)
end Go.Proofs.YtolpefnedpgaaaaDoor.X

namespace Go.Proofs.YtolpefnedpgaaaaDoor.X
open Go.RowKit Go.Proofs.YtolpefnedpgaaaaDoorW.PrintWords
set_option linter.unusedVariables false
set_option linter.unusedSimpArgs false
/-- strings.TrimLeft, at a cutset of one byte below 128. -/
def strings_TrimLeft.f (s : ByteArray) (p : ByteArray) : Option ByteArray :=
  match p.data.toList with
  | [c] => if c.toNat < 128 then some ⟨(Lib.trimLeftB s.data.toList c).toArray⟩ else none
  | _ => none
theorem strings_TrimLeft.calls (a0 : ByteArray) (a1 : ByteArray) (r : ByteArray) (w : World) (h : strings_TrimLeft.f a0 a1 = some r) :
    Calls Tryd.prog 39 #[.string a0, .string a1] w fun e w' => e = .returned (.string r) ∧ Drawn0 w w' := by
  unfold strings_TrimLeft.f at h
  obtain ⟨⟨l⟩⟩ := a1
  simp only at h
  split at h
  · rename_i c
    split at h
    · rename_i hc
      obtain rfl := Option.some.inj h
      refine (Tryd.strings_TrimLeft_one a0 c hc w).mono ?_
      rintro e w' ⟨rfl, rfl⟩
      exact ⟨rfl, Drawn0.refl _⟩
    · exact absurd h (by simp)
  · exact absurd h (by simp)
end Go.Proofs.YtolpefnedpgaaaaDoor.X

