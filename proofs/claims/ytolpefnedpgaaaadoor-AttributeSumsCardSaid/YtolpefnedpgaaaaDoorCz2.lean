/-
  What the claim's law rests on, part 2 of 6: printed walks, externals, plain lemmas; conditions: none of its own.
-/
import Derived.ArgAppend
import Derived.Below
import Derived.BigQuiet
import Derived.Deep.AppendLies
import Derived.Deep.CutBlock
import Derived.Deep.DeepCutAuto
import Derived.Deep.Draws
import Derived.Deep.LoopGhost
import Derived.Deep.OwnRows
import Derived.Deep.QuietTactic
import Derived.Deep.RegionHeld3
import Derived.KernelRfl
import Derived.Laws.BitsLemmas
import Derived.Laws.BytesArg
import Derived.Laws.IdiomCopy
import Derived.Laws.MakeOwn
import Derived.Laws.OwnMore
import Derived.Laws.Rows
import Derived.Laws.Slices
import Derived.Lib.AppendStr
import Derived.Lib.ConvBytes
import Derived.Maps.AppendAt
import Derived.OrdersHeld
import Derived.OwnWalk
import Derived.RowKit
import Derived.RowKit3
import Derived.Shelf.LaysM
import Derived.Shelf.Small.Strs
import Derived.Shelf.Small.Utf8
import Derived.Shelf.Small.Wraps
import Derived.Shelf.Strings.AsciiSet
import Derived.Shelf.Strings.Builder1
import Derived.Shelf.Strings.Builder2
import Derived.Shelf.Strings.Builder2Cap
import Derived.Shelf.Strings.BuilderCap
import Derived.Shelf.Strings.BuilderF
import Derived.Shelf.Strings.BuilderK
import Derived.Shelf.Strings.Count
import Derived.Shelf.Strings.Cut
import Derived.Shelf.Strings.Prefix
import Derived.Shelf.Strings.Replace
import Derived.Shelf.Strings.RuneCount
import Derived.Shelf.Strings.Runes
import Derived.Shelf.Strings.Search1
import Derived.Shelf.Strings.Search2
import Derived.Shelf.Strings.Search3
import Derived.Shelf.Strings.Shaped
import Derived.Shelf.Strings.Split
import Derived.Shelf.Strings.SplitShaped
import Derived.Shelf.Strings.Trim
import Derived.Shelf.Unicode.Decode
import Derived.Shelf.Unicode.DecodeAny
import Derived.Shelf.Unicode.DecodeSlow
import Derived.Shelf.Utf8.RuneCount
import Derived.Tactics
import Derived.Test.YtolpefnedpgaaaaDoorProg
import Derived.WalkKit
import Derived.WideLaws
import Derived.Test.YtolpefnedpgaaaaDoorCz1
namespace Go.Proofs.YtolpefnedpgaaaaDoor.X
open Go.RowKit Go.Proofs.YtolpefnedpgaaaaDoorW.PrintWords Go.Proofs.YtolpefnedpgaaaaDoorW.PrintLast Go.Proofs.YtolpefnedpgaaaaDoorW.PrintMore
attribute [local go_sem] max2_int min2_int max_two min_two max_three min_three max_four min_four
set_option linter.unusedVariables false
set_option linter.unusedSimpArgs false
def errW : Option Int → Value
 | none => .nilIface
 | some c => .iface 0 (.int .i64 c)
theorem errW_none : errW none = .nilIface:=rfl
theorem errW_some (c : Int) : errW (some c) = .iface 0 (.int .i64 c):=rfl
theorem info33 : (Tryd.prog.info? 33).map (fun i => (i.zero,i.size,i.bytes)) = some (some (.agg #[(.string ⟨#[]⟩),(.string ⟨#[]⟩),(.string ⟨#[]⟩)]),3,48):=by kernel_rfl
structure S33 where
 f0 : ByteArray
 f1 : ByteArray
 f2 : ByteArray
def z33 : S33:=⟨(⟨#[]⟩ : ByteArray),(⟨#[]⟩ : ByteArray),(⟨#[]⟩ : ByteArray)⟩
def k33 : Kd S33:=Kd.iso (Kd.pair Kd.string (Kd.pair Kd.string Kd.string)) (fun x : S33 => (x.f0,x.f1,x.f2))
theorem k33_open {w : World} {x : S33} {cs : List Value} (h : k33.K w x cs) : cs = [.string x.f0,.string x.f1,.string x.f2]:=by
 obtain ⟨_,_,rfl,rfl,⟨_,_,rfl,rfl,rfl⟩⟩:=h
 exact rfl
theorem k33_openM {w : World} {base : Nat} {ok : Nat → Prop} {x : S33} {cs : List Value} (h : k33.M w base ok x cs) : cs = [.string x.f0,.string x.f1,.string x.f2]:=by
 obtain ⟨_,_,rfl,rfl,⟨_,_,rfl,rfl,rfl⟩⟩:=h
 exact rfl
theorem k33_mk (w : World) (x : S33)  : k33.K w x [.string x.f0,.string x.f1,.string x.f2]:=⟨[.string x.f0],[.string x.f1,.string x.f2],rfl,rfl,⟨[.string x.f1],[.string x.f2],rfl,rfl,rfl⟩⟩
theorem k33_mkM (w : World) (base : Nat) (ok : Nat → Prop) (x : S33)  : k33.M w base ok x [.string x.f0,.string x.f1,.string x.f2]:=⟨[.string x.f0],[.string x.f1,.string x.f2],rfl,rfl,⟨[.string x.f1],[.string x.f2],rfl,rfl,rfl⟩⟩
def rd_T33 (xs : List S33) (i : Int) : S33:=xs.getD i.toNat z33
theorem at_T33 {w : World} {A : Option Addr} {n : Nat} {xs : List S33} (h : Kd.C k33 w A n xs) (i : Int) (h0 : 0 ≤ i) (h1 : i < n) : ∃ ad ,A = some ad ∧ w.cell? (ad.add (i.toNat * 3)) = some (.string (rd_T33 xs i).f0) ∧ w.cell? ⟨(ad.add (i.toNat * 3)).block,(ad.add (i.toNat * 3)).off + 1,none⟩ = some (.string (rd_T33 xs i).f1) ∧ w.cell? ⟨(ad.add (i.toNat * 3)).block,(ad.add (i.toNat * 3)).off + 2,none⟩ = some (.string (rd_T33 xs i).f2):=by
 obtain ⟨ad,c,e,_,hK,hc0⟩:=Kd.C_get h z33 i h0 h1
 have hc : ∀ j u,c[j]? = some u → w.cell? (ad.add (i.toNat * 3 + j)) = some u:=hc0
 obtain rfl:=k33_open hK
 exact ⟨ad,e,hc 0 _ rfl,by rw [← add_field _ _ 1 (by omega)];exact hc 1 _ rfl,by rw [← add_field _ _ 2 (by omega)];exact hc 2 _ rfl⟩
end Go.Proofs.YtolpefnedpgaaaaDoor.X
namespace Go.Proofs.YtolpefnedpgaaaaDoor.X
open Go.RowKit Go.Proofs.YtolpefnedpgaaaaDoorW.PrintWords Go.Proofs.YtolpefnedpgaaaaDoorW.PrintLast Go.Proofs.YtolpefnedpgaaaaDoorW.PrintMore
attribute [local go_sem] max2_int min2_int max_two min_two max_three min_three max_four min_four
set_option linter.unusedVariables false
set_option linter.unusedSimpArgs false
theorem info5 : (Tryd.prog.info? 5).map (fun i => (i.zero,i.size,i.bytes)) = some (some (.int .u8 0),1,1):=by kernel_rfl
theorem info93 : (Tryd.prog.info? 93).map (fun i => (i.zero,i.size,i.bytes)) = some (some (.int .u32 0),1,4):=by kernel_rfl
end Go.Proofs.YtolpefnedpgaaaaDoor.X
namespace Go.Proofs
open Go.Shelf
def Tryd.lays161_ren : Go.Shelf.Ren:=⟨fun|161 => 39|231 => 69|227 => 70|233 => 71|235 => 72|228 => 95|197 => 66|151 => 96|260 => 93|152 => 111|137 => 59|119 => 115|224 => 107|225 => 106|217 => 87|266 => 105|n => n,fun|9 => 9|4 => 4|3 => 3|5 => 5|117 => 88|116 => 87|0 => 0|124 => 91|105 => 81|21 => 21|119 => 123|46 => 99|139 => 126|138 => 125|n => n,fun|3 => 3|4 => 4|n => n⟩
theorem Tryd.lays161 : Go.Proofs.Lays.n161 Tryd.prog Tryd.lays161_ren:={
 mixed:=by kernel_rfl
 f119:=Tryd.func115.trans (congrArg some (by kernel_rfl))
 f137:=Tryd.func59.trans (congrArg some (by kernel_rfl))
 f151:=Tryd.func96.trans (congrArg some (by kernel_rfl))
 f152:=Tryd.func111.trans (congrArg some (by kernel_rfl))
 f161:=Tryd.func39.trans (congrArg some (by kernel_rfl))
 f197:=Tryd.func66.trans (congrArg some (by kernel_rfl))
 f217:=Tryd.func87.trans (congrArg some (by kernel_rfl))
 f224:=Tryd.func107.trans (congrArg some (by kernel_rfl))
 f225:=Tryd.func106.trans (congrArg some (by kernel_rfl))
 f227:=Tryd.func70.trans (congrArg some (by kernel_rfl))
 f228:=Tryd.func95.trans (congrArg some (by kernel_rfl))
 f231:=Tryd.func69.trans (congrArg some (by kernel_rfl))
 f233:=Tryd.func71.trans (congrArg some (by kernel_rfl))
 f235:=Tryd.func72.trans (congrArg some (by kernel_rfl))
 f260:=Tryd.func93.trans (congrArg some (by kernel_rfl))
 f266:=Tryd.func105.trans (congrArg some (by kernel_rfl))
 t0:=Tryd.underlying0
 a0:=Tryd.isAgg0
 z0:=Tryd.sizeOf0
 v0:=Tryd.zeroValue0
 t3:=Tryd.underlying3
 a3:=Tryd.isAgg3
 z3:=Tryd.sizeOf3
 v3:=Tryd.zeroValue3
 t4:=Tryd.underlying4
 a4:=Tryd.isAgg4
 z4:=Tryd.sizeOf4
 v4:=Tryd.zeroValue4
 t5:=Tryd.underlying5
 a5:=Tryd.isAgg5
 z5:=Tryd.sizeOf5
 v5:=Tryd.zeroValue5
 t9:=Tryd.underlying9
 a9:=Tryd.isAgg9
 z9:=Tryd.sizeOf9
 v9:=Tryd.zeroValue9
 t21:=Tryd.underlying21
 a21:=Tryd.isAgg21
 z21:=Tryd.sizeOf21
 v21:=Tryd.zeroValue21
 t46:=Tryd.underlying99
 a46:=Tryd.isAgg99
 z46:=Tryd.sizeOf99
 v46:=Tryd.zeroValue99
 t105:=Tryd.underlying81
 a105:=Tryd.isAgg81
 z105:=Tryd.sizeOf81
 v105:=Tryd.zeroValue81
 t116:=Tryd.underlying87
 a116:=Tryd.isAgg87
 z116:=Tryd.sizeOf87
 t117:=Tryd.underlying88
 a117:=Tryd.isAgg88
 z117:=Tryd.sizeOf88
 v117:=Tryd.zeroValue88
 t119:=Tryd.underlying123
 a119:=Tryd.isAgg123
 z119:=Tryd.sizeOf123
 t124:=Tryd.underlying91
 a124:=Tryd.isAgg91
 z124:=Tryd.sizeOf91
 v124:=Tryd.zeroValue91
 t138:=Tryd.underlying125
 a138:=Tryd.isAgg125
 z138:=Tryd.sizeOf125
 v138:=Tryd.zeroValue125
 t139:=Tryd.underlying126
 a139:=Tryd.isAgg126
 z139:=Tryd.sizeOf126
 v139:=Tryd.zeroValue126
 g3:=by kernel_rfl
 g4:=by kernel_rfl }
open Go.RowKit in
theorem Tryd.strings_TrimLeft_one (s : ByteArray) (c : UInt8) (hc : c.toNat < 128) (w : World) :
  Calls Tryd.prog 39 #[.string s,.string ⟨#[c]⟩] w fun e w' => e = .returned (.string ⟨(Lib.trimLeftB s.data.toList c).toArray⟩) ∧ w' = w:=Any.strings_TrimLeft_one Tryd.lays161 s c hc w
def Tryd.lays106_ren : Go.Shelf.Ren:=⟨fun|106 => 45|213 => 75|265 => 99|n => n,fun|9 => 9|3 => 3|n => n,fun|n => n⟩
theorem Tryd.lays106 : Go.Proofs.Lays.n106 Tryd.prog Tryd.lays106_ren:={
 mixed:=by kernel_rfl
 f106:=Tryd.func45.trans (congrArg some (by kernel_rfl))
 f213:=Tryd.func75.trans (congrArg some (by kernel_rfl))
 f265:=Tryd.func99.trans (congrArg some (by kernel_rfl))
 t3:=Tryd.underlying3
 a3:=Tryd.isAgg3
 z3:=Tryd.sizeOf3
 v3:=Tryd.zeroValue3
 t9:=Tryd.underlying9
 a9:=Tryd.isAgg9
 z9:=Tryd.sizeOf9
 v9:=Tryd.zeroValue9 }
open Go.RowKit in
theorem Tryd.strings_Compare (a b : ByteArray) (w : World) :
  Calls Tryd.prog 45 #[.string a,.string b] w fun e w' => e = .returned (.int .i64 (Lib.compareBytes a.data.toList b.data.toList)) ∧ w' = w:=Any.strings_Compare Tryd.lays106 a b w
def Tryd.lays137_ren : Go.Shelf.Ren:=⟨fun|137 => 59|217 => 87|266 => 105|n => n,fun|9 => 9|5 => 5|3 => 3|n => n,fun|n => n⟩
theorem Tryd.lays137 : Go.Proofs.Lays.n137 Tryd.prog Tryd.lays137_ren:={
 mixed:=by kernel_rfl
 f137:=Tryd.func59.trans (congrArg some (by kernel_rfl))
 f217:=Tryd.func87.trans (congrArg some (by kernel_rfl))
 f266:=Tryd.func105.trans (congrArg some (by kernel_rfl))
 t3:=Tryd.underlying3
 a3:=Tryd.isAgg3
 z3:=Tryd.sizeOf3
 v3:=Tryd.zeroValue3
 t5:=Tryd.underlying5
 a5:=Tryd.isAgg5
 z5:=Tryd.sizeOf5
 v5:=Tryd.zeroValue5
 t9:=Tryd.underlying9
 a9:=Tryd.isAgg9
 z9:=Tryd.sizeOf9
 v9:=Tryd.zeroValue9 }
open Go.RowKit in
theorem Tryd.strings_IndexByte (s : ByteArray) (c : Int) (w : World) :
  Calls Tryd.prog 59 #[.string s,.int .u8 c] w fun e w' => e = .returned (.int .i64 (Lib.indexByte s.data.toList c.toNat.toUInt8)) ∧ w' = w:=Any.strings_IndexByte Tryd.lays137 s c w
def Tryd.lays210_ren : Go.Shelf.Ren:=⟨fun|210 => 58|206 => 73|n => n,fun|9 => 9|4 => 4|3 => 3|n => n,fun|n => n⟩
theorem Tryd.lays210 : Go.Proofs.Lays.n210 Tryd.prog Tryd.lays210_ren:={
 mixed:=by kernel_rfl
 f206:=Tryd.func73.trans (congrArg some (by kernel_rfl))
 f210:=Tryd.func58.trans (congrArg some (by kernel_rfl))
 t3:=Tryd.underlying3
 a3:=Tryd.isAgg3
 z3:=Tryd.sizeOf3
 v3:=Tryd.zeroValue3
 t4:=Tryd.underlying4
 a4:=Tryd.isAgg4
 z4:=Tryd.sizeOf4
 v4:=Tryd.zeroValue4
 t9:=Tryd.underlying9
 a9:=Tryd.isAgg9
 z9:=Tryd.sizeOf9
 v9:=Tryd.zeroValue9 }
open Go.RowKit in
theorem Tryd.stringslite_CutPrefix (s p : ByteArray) (w : World) :
  Calls Tryd.prog 58 #[.string s,.string p] w fun e w' => e = .returned (.tuple #[.string ⟨(Lib.trimPrefix s.data.toList p.data.toList).toArray⟩,.bool (Lib.hasPrefix s.data.toList p.data.toList)]) ∧ w' = w:=Any.stringslite_CutPrefix Tryd.lays210 s p w
def Tryd.lays103_ren : Go.Shelf.Ren:=⟨fun|103 => 29|210 => 58|206 => 73|n => n,fun|9 => 9|4 => 4|24 => 45|3 => 3|n => n,fun|n => n⟩
theorem Tryd.lays103 : Go.Proofs.Lays.n103 Tryd.prog Tryd.lays103_ren:={
 mixed:=by kernel_rfl
 f103:=Tryd.func29.trans (congrArg some (by kernel_rfl))
 f206:=Tryd.func73.trans (congrArg some (by kernel_rfl))
 f210:=Tryd.func58.trans (congrArg some (by kernel_rfl))
 t3:=Tryd.underlying3
 a3:=Tryd.isAgg3
 z3:=Tryd.sizeOf3
 v3:=Tryd.zeroValue3
 t4:=Tryd.underlying4
 a4:=Tryd.isAgg4
 z4:=Tryd.sizeOf4
 v4:=Tryd.zeroValue4
 t9:=Tryd.underlying9
 a9:=Tryd.isAgg9
 z9:=Tryd.sizeOf9
 v9:=Tryd.zeroValue9
 t24:=Tryd.underlying45
 a24:=Tryd.isAgg45
 z24:=Tryd.sizeOf45
 v24:=Tryd.zeroValue45 }
open Go.RowKit in
theorem Tryd.strings_CutPrefix (s p : ByteArray) (w : World) :
  Calls Tryd.prog 29 #[.string s,.string p] w fun e w' => e = .returned (.tuple #[.string ⟨(Lib.trimPrefix s.data.toList p.data.toList).toArray⟩,.bool (Lib.hasPrefix s.data.toList p.data.toList)]) ∧ w' = w:=Any.strings_CutPrefix Tryd.lays103 s p w
def Tryd.lays144_ren : Go.Shelf.Ren:=⟨fun|144 => 32|143 => 60|219 => 88|217 => 87|225 => 106|224 => 107|267 => 108|266 => 105|314 => 114|n => n,fun|9 => 9|4 => 4|3 => 3|5 => 5|46 => 99|146 => 128|51 => 93|n => n,fun|1 => 0|n => n⟩
theorem Tryd.lays144 : Go.Proofs.Lays.n144 Tryd.prog Tryd.lays144_ren:={
 mixed:=by kernel_rfl
 f143:=Tryd.func60.trans (congrArg some (by kernel_rfl))
 f144:=Tryd.func32.trans (congrArg some (by kernel_rfl))
 f217:=Tryd.func87.trans (congrArg some (by kernel_rfl))
 f219:=Tryd.func88.trans (congrArg some (by kernel_rfl))
 f224:=Tryd.func107.trans (congrArg some (by kernel_rfl))
 f225:=Tryd.func106.trans (congrArg some (by kernel_rfl))
 f266:=Tryd.func105.trans (congrArg some (by kernel_rfl))
 f267:=Tryd.func108.trans (congrArg some (by kernel_rfl))
 f314:=Tryd.func114.trans (congrArg some (by kernel_rfl))
 t3:=Tryd.underlying3
 a3:=Tryd.isAgg3
 z3:=Tryd.sizeOf3
 v3:=Tryd.zeroValue3
 t4:=Tryd.underlying4
 a4:=Tryd.isAgg4
 z4:=Tryd.sizeOf4
 v4:=Tryd.zeroValue4
 t5:=Tryd.underlying5
 a5:=Tryd.isAgg5
 z5:=Tryd.sizeOf5
 v5:=Tryd.zeroValue5
 t9:=Tryd.underlying9
 a9:=Tryd.isAgg9
 z9:=Tryd.sizeOf9
 v9:=Tryd.zeroValue9
 t46:=Tryd.underlying99
 a46:=Tryd.isAgg99
 z46:=Tryd.sizeOf99
 v46:=Tryd.zeroValue99
 t51:=Tryd.underlying93
 a51:=Tryd.isAgg93
 z51:=Tryd.sizeOf93
 v51:=Tryd.zeroValue93
 t146:=Tryd.underlying128
 a146:=Tryd.isAgg128
 z146:=Tryd.sizeOf128
 v146:=Tryd.zeroValue128
 g1:=by kernel_rfl }
open Go.RowKit Go.Lib in
theorem Tryd.strings_Contains (s sub : ByteArray) (m : Int) (w : World) (hs : s.size < 4294967281) (hm : w.cell? ⟨0,0,none⟩ = some (.int .i64 m)) :
  Calls Tryd.prog 32 #[.string s,.string sub] w fun e w' => e = .returned (.bool (Lib.contains s.data.toList sub.data.toList)) ∧ w' = w:=Any.strings_Contains Tryd.lays144 s sub m w hs hm
def Tryd.lays145_ren : Go.Shelf.Ren:=⟨fun|145 => 35|220 => 62|219 => 88|217 => 87|225 => 106|224 => 107|267 => 108|266 => 105|314 => 114|n => n,fun|9 => 9|4 => 4|59 => 50|3 => 3|5 => 5|46 => 99|146 => 128|51 => 93|n => n,fun|1 => 0|n => n⟩
theorem Tryd.lays145 : Go.Proofs.Lays.n145 Tryd.prog Tryd.lays145_ren:={
 mixed:=by kernel_rfl
 f145:=Tryd.func35.trans (congrArg some (by kernel_rfl))
 f217:=Tryd.func87.trans (congrArg some (by kernel_rfl))
 f219:=Tryd.func88.trans (congrArg some (by kernel_rfl))
 f220:=Tryd.func62.trans (congrArg some (by kernel_rfl))
 f224:=Tryd.func107.trans (congrArg some (by kernel_rfl))
 f225:=Tryd.func106.trans (congrArg some (by kernel_rfl))
 f266:=Tryd.func105.trans (congrArg some (by kernel_rfl))
 f267:=Tryd.func108.trans (congrArg some (by kernel_rfl))
 f314:=Tryd.func114.trans (congrArg some (by kernel_rfl))
 t3:=Tryd.underlying3
 a3:=Tryd.isAgg3
 z3:=Tryd.sizeOf3
 v3:=Tryd.zeroValue3
 t4:=Tryd.underlying4
 a4:=Tryd.isAgg4
 z4:=Tryd.sizeOf4
 v4:=Tryd.zeroValue4
 t5:=Tryd.underlying5
 a5:=Tryd.isAgg5
 z5:=Tryd.sizeOf5
 v5:=Tryd.zeroValue5
 t9:=Tryd.underlying9
 a9:=Tryd.isAgg9
 z9:=Tryd.sizeOf9
 v9:=Tryd.zeroValue9
 t46:=Tryd.underlying99
 a46:=Tryd.isAgg99
 z46:=Tryd.sizeOf99
 v46:=Tryd.zeroValue99
 t51:=Tryd.underlying93
 a51:=Tryd.isAgg93
 z51:=Tryd.sizeOf93
 v51:=Tryd.zeroValue93
 t59:=Tryd.underlying50
 a59:=Tryd.isAgg50
 z59:=Tryd.sizeOf50
 v59:=Tryd.zeroValue50
 t146:=Tryd.underlying128
 a146:=Tryd.isAgg128
 z146:=Tryd.sizeOf128
 v146:=Tryd.zeroValue128
 g1:=by kernel_rfl }
open Go.RowKit Go.Lib in
theorem Tryd.strings_Cut (s sep : ByteArray) (m : Int) (w : World) (hs : s.size < 4294967281) (hm : w.cell? ⟨0,0,none⟩ = some (.int .i64 m)) :
  Calls Tryd.prog 35 #[.string s,.string sep] w fun e w' => e = .returned (.tuple #[.string ⟨(Lib.cut s.data.toList sep.data.toList).1.toArray⟩,.string ⟨(Lib.cut s.data.toList sep.data.toList).2.1.toArray⟩,.bool (Lib.cut s.data.toList sep.data.toList).2.2]) ∧ ∃ n,w' = w.drewN n:=Any.strings_Cut Tryd.lays145 s sep m w hs hm
def Tryd.laysM219_ren : Go.Shelf.Ren:=⟨fun|219 => 88|217 => 87|225 => 106|224 => 107|267 => 108|266 => 105|314 => 114|n => n,fun|9 => 9|3 => 3|4 => 4|5 => 5|46 => 99|146 => 128|51 => 93|n => n,fun|1 => 0|n => n⟩
theorem Tryd.laysM219 : Go.Proofs.LaysM.n219 Tryd.prog Tryd.laysM219_ren:={
 mixed:=by kernel_rfl
 f217:=Tryd.func87.trans (congrArg some (by kernel_rfl))
 f219:=Tryd.func88.trans (congrArg some (by kernel_rfl))
 f224:=Tryd.func107.trans (congrArg some (by kernel_rfl))
 f225:=Tryd.func106.trans (congrArg some (by kernel_rfl))
 f266:=Tryd.func105.trans (congrArg some (by kernel_rfl))
 f267:=Tryd.func108.trans (congrArg some (by kernel_rfl))
 f314:=Tryd.func114.trans (congrArg some (by kernel_rfl))
 t3:=Tryd.underlying3
 a3:=Tryd.isAgg3
 z3:=Tryd.sizeOf3
 v3:=Tryd.zeroValue3
 t4:=Tryd.underlying4
 a4:=Tryd.isAgg4
 z4:=Tryd.sizeOf4
 v4:=Tryd.zeroValue4
 t5:=Tryd.underlying5
 a5:=Tryd.isAgg5
 z5:=Tryd.sizeOf5
 v5:=Tryd.zeroValue5
 t9:=Tryd.underlying9
 a9:=Tryd.isAgg9
 z9:=Tryd.sizeOf9
 v9:=Tryd.zeroValue9
 t46:=Tryd.underlying99
 a46:=Tryd.isAgg99
 z46:=Tryd.sizeOf99
 v46:=Tryd.zeroValue99
 t51:=Tryd.underlying93
 a51:=Tryd.isAgg93
 z51:=Tryd.sizeOf93
 v51:=Tryd.zeroValue93
 t146:=Tryd.underlying128
 a146:=Tryd.isAgg128
 z146:=Tryd.sizeOf128
 v146:=Tryd.zeroValue128
 g1:=by kernel_rfl
 i3:=by kernel_rfl
 i4:=by kernel_rfl
 i5:=by kernel_rfl
 i9:=by kernel_rfl
 i46:=by kernel_rfl
 i51:=by kernel_rfl
 i146:=by kernel_rfl
 m1:=by kernel_rfl
 s1_3:=fun w h => Go.Proofs.cell_of_shapedOpen_int (zero:=#[.int .i64 0]) (t:=3) h (of_decide_eq_true (by kernel_rfl)) (by kernel_rfl) rfl (by kernel_rfl) (by kernel_rfl) Tryd.underlying3 }
def Tryd.lays206_ren : Go.Shelf.Ren:=⟨fun|206 => 73|n => n,fun|9 => 9|4 => 4|3 => 3|n => n,fun|n => n⟩
theorem Tryd.lays206 : Go.Proofs.Lays.n206 Tryd.prog Tryd.lays206_ren:={
 mixed:=by kernel_rfl
 f206:=Tryd.func73.trans (congrArg some (by kernel_rfl))
 t3:=Tryd.underlying3
 a3:=Tryd.isAgg3
 z3:=Tryd.sizeOf3
 v3:=Tryd.zeroValue3
 t4:=Tryd.underlying4
 a4:=Tryd.isAgg4
 z4:=Tryd.sizeOf4
 v4:=Tryd.zeroValue4
 t9:=Tryd.underlying9
 a9:=Tryd.isAgg9
 z9:=Tryd.sizeOf9
 v9:=Tryd.zeroValue9 }
open Go.RowKit Go.Lib in
theorem Tryd.stringslite_HasPrefix (s p : ByteArray) (w : World) :
  Calls Tryd.prog 73 #[.string s,.string p] w fun e w' => e = .returned (.bool (Lib.hasPrefix s.data.toList p.data.toList)) ∧ w' = w:=Any.stringslite_HasPrefix Tryd.lays206 s p w
def Tryd.lays99_ren : Go.Shelf.Ren:=⟨fun|99 => 40|206 => 73|n => n,fun|9 => 9|4 => 4|3 => 3|n => n,fun|n => n⟩
theorem Tryd.lays99 : Go.Proofs.Lays.n99 Tryd.prog Tryd.lays99_ren:={
 mixed:=by kernel_rfl
 f99:=Tryd.func40.trans (congrArg some (by kernel_rfl))
 f206:=Tryd.func73.trans (congrArg some (by kernel_rfl))
 t3:=Tryd.underlying3
 a3:=Tryd.isAgg3
 z3:=Tryd.sizeOf3
 v3:=Tryd.zeroValue3
 t4:=Tryd.underlying4
 a4:=Tryd.isAgg4
 z4:=Tryd.sizeOf4
 v4:=Tryd.zeroValue4
 t9:=Tryd.underlying9
 a9:=Tryd.isAgg9
 z9:=Tryd.sizeOf9
 v9:=Tryd.zeroValue9 }
open Go.RowKit Go.Lib in
theorem Tryd.strings_HasPrefix (s p : ByteArray) (w : World) :
  Calls Tryd.prog 40 #[.string s,.string p] w fun e w' => e = .returned (.bool (Lib.hasPrefix s.data.toList p.data.toList)) ∧ w' = w:=Any.strings_HasPrefix Tryd.lays99 s p w
def Tryd.lays101_ren : Go.Shelf.Ren:=⟨fun|101 => 68|208 => 94|206 => 73|n => n,fun|9 => 9|4 => 4|3 => 3|n => n,fun|n => n⟩
theorem Tryd.lays101 : Go.Proofs.Lays.n101 Tryd.prog Tryd.lays101_ren:={
 mixed:=by kernel_rfl
 f101:=Tryd.func68.trans (congrArg some (by kernel_rfl))
 f206:=Tryd.func73.trans (congrArg some (by kernel_rfl))
 f208:=Tryd.func94.trans (congrArg some (by kernel_rfl))
 t3:=Tryd.underlying3
 a3:=Tryd.isAgg3
 z3:=Tryd.sizeOf3
 v3:=Tryd.zeroValue3
 t4:=Tryd.underlying4
 a4:=Tryd.isAgg4
 z4:=Tryd.sizeOf4
 v4:=Tryd.zeroValue4
 t9:=Tryd.underlying9
 a9:=Tryd.isAgg9
 z9:=Tryd.sizeOf9
 v9:=Tryd.zeroValue9 }
open Go.RowKit Go.Lib in
theorem Tryd.strings_TrimPrefix (s p : ByteArray) (w : World) :
  Calls Tryd.prog 68 #[.string s,.string p] w fun e w' => e = .returned (.string ⟨(Lib.trimPrefix s.data.toList p.data.toList).toArray⟩) ∧ w' = w:=Any.strings_TrimPrefix Tryd.lays101 s p w
def Tryd.lays154_ren : Go.Shelf.Ren:=⟨fun|154 => 36|138 => 63|165 => 64|143 => 60|166 => 65|197 => 66|169 => 67|195 => 89|218 => 90|240 => 91|241 => 92|219 => 88|260 => 93|276 => 109|277 => 110|217 => 87|225 => 106|224 => 107|267 => 108|266 => 105|314 => 114|n => n,fun|9 => 9|3 => 3|4 => 4|72 => 75|0 => 0|76 => 79|105 => 81|21 => 21|5 => 5|70 => 73|20 => 20|37 => 63|75 => 78|127 => 108|164 => 121|46 => 99|119 => 123|139 => 126|138 => 125|146 => 128|51 => 93|80 => 83|n => n,fun|1 => 0|3 => 3|4 => 4|n => n⟩
theorem Tryd.lays154 : Go.Proofs.Lays.n154 Tryd.prog Tryd.lays154_ren:={
 mixed:=by kernel_rfl
 f138:=Tryd.func63.trans (congrArg some (by kernel_rfl))
 f143:=Tryd.func60.trans (congrArg some (by kernel_rfl))
 f154:=Tryd.func36.trans (congrArg some (by kernel_rfl))
 f165:=Tryd.func64.trans (congrArg some (by kernel_rfl))
 f166:=Tryd.func65.trans (congrArg some (by kernel_rfl))
 f169:=Tryd.func67.trans (congrArg some (by kernel_rfl))
 f195:=Tryd.func89.trans (congrArg some (by kernel_rfl))
 f197:=Tryd.func66.trans (congrArg some (by kernel_rfl))
 f217:=Tryd.func87.trans (congrArg some (by kernel_rfl))
 f218:=Tryd.func90.trans (congrArg some (by kernel_rfl))
 f219:=Tryd.func88.trans (congrArg some (by kernel_rfl))
 f224:=Tryd.func107.trans (congrArg some (by kernel_rfl))
 f225:=Tryd.func106.trans (congrArg some (by kernel_rfl))
 f240:=Tryd.func91.trans (congrArg some (by kernel_rfl))
 f241:=Tryd.func92.trans (congrArg some (by kernel_rfl))
 f260:=Tryd.func93.trans (congrArg some (by kernel_rfl))
 f266:=Tryd.func105.trans (congrArg some (by kernel_rfl))
 f267:=Tryd.func108.trans (congrArg some (by kernel_rfl))
 f276:=Tryd.func109.trans (congrArg some (by kernel_rfl))
 f277:=Tryd.func110.trans (congrArg some (by kernel_rfl))
 f314:=Tryd.func114.trans (congrArg some (by kernel_rfl))
 t0:=Tryd.underlying0
 a0:=Tryd.isAgg0
 z0:=Tryd.sizeOf0
 v0:=Tryd.zeroValue0
 t3:=Tryd.underlying3
 a3:=Tryd.isAgg3
 z3:=Tryd.sizeOf3
 v3:=Tryd.zeroValue3
 t4:=Tryd.underlying4
 a4:=Tryd.isAgg4
 z4:=Tryd.sizeOf4
 v4:=Tryd.zeroValue4
 t5:=Tryd.underlying5
 a5:=Tryd.isAgg5
 z5:=Tryd.sizeOf5
 v5:=Tryd.zeroValue5
 t9:=Tryd.underlying9
 a9:=Tryd.isAgg9
 z9:=Tryd.sizeOf9
 v9:=Tryd.zeroValue9
 t20:=Tryd.underlying20
 a20:=Tryd.isAgg20
 z20:=Tryd.sizeOf20
 v20:=Tryd.zeroValue20
 t21:=Tryd.underlying21
 a21:=Tryd.isAgg21
 z21:=Tryd.sizeOf21
 v21:=Tryd.zeroValue21
 t37:=Tryd.underlying63
 a37:=Tryd.isAgg63
 z37:=Tryd.sizeOf63
 v37:=Tryd.zeroValue63
 t46:=Tryd.underlying99
 a46:=Tryd.isAgg99
 z46:=Tryd.sizeOf99
 v46:=Tryd.zeroValue99
 t51:=Tryd.underlying93
 a51:=Tryd.isAgg93
 z51:=Tryd.sizeOf93
 v51:=Tryd.zeroValue93
 t70:=Tryd.underlying73
 a70:=Tryd.isAgg73
 z70:=Tryd.sizeOf73
 v70:=Tryd.zeroValue73
 t72:=Tryd.underlying75
 a72:=Tryd.isAgg75
 z72:=Tryd.sizeOf75
 v72:=Tryd.zeroValue75
 t75:=Tryd.underlying78
 a75:=Tryd.isAgg78
 z75:=Tryd.sizeOf78
 v75:=Tryd.zeroValue78
 t76:=Tryd.underlying79
 a76:=Tryd.isAgg79
 z76:=Tryd.sizeOf79
 v76:=Tryd.zeroValue79
 t105:=Tryd.underlying81
 a105:=Tryd.isAgg81
 z105:=Tryd.sizeOf81
 v105:=Tryd.zeroValue81
 t119:=Tryd.underlying123
 a119:=Tryd.isAgg123
 z119:=Tryd.sizeOf123
 t127:=Tryd.underlying108
 a127:=Tryd.isAgg108
 z127:=Tryd.sizeOf108
 v127:=Tryd.zeroValue108
 t138:=Tryd.underlying125
 a138:=Tryd.isAgg125
 z138:=Tryd.sizeOf125
 v138:=Tryd.zeroValue125
 t139:=Tryd.underlying126
 a139:=Tryd.isAgg126
 z139:=Tryd.sizeOf126
 v139:=Tryd.zeroValue126
 t146:=Tryd.underlying128
 a146:=Tryd.isAgg128
 z146:=Tryd.sizeOf128
 v146:=Tryd.zeroValue128
 t164:=Tryd.underlying121
 a164:=Tryd.isAgg121
 z164:=Tryd.sizeOf121
 v164:=Tryd.zeroValue121
 g1:=by kernel_rfl
 g3:=by kernel_rfl
 g4:=by kernel_rfl }
theorem Tryd.Builder_Extra_154 : Builder.Extra Tryd.prog Tryd.lays154_ren:={
 sizeBuilder:=by kernel_rfl
 liesBuilder:=by kernel_rfl
 t5:=Tryd.underlying5
 a5:=Tryd.isAgg5
 z5:=Tryd.sizeOf5
 v5:=Tryd.zeroValue5
 infoByte:=by kernel_rfl
 cellsByte:=by kernel_rfl
 sizeByte:=by kernel_rfl
 neB5:=by decide }
open Go.RowKit Go.Lib in
theorem Tryd.strings_Replace (s old new : ByteArray) (n : Int) (m : Int) (w : World) (hs : s.size < 4294967281) (hm : w.cell? ⟨0,0,none⟩ = some (.int .i64 m)) (h1 : 1 ≤ old.size) (hlen : s.size + Lib.countB s old * new.size ≤ 140737488355328) :
  Calls Tryd.prog 36 #[.string s,.string old,.string new,.int .i64 n] w fun e w' =>
   e = .returned (.string ⟨(Lib.replace s.data.toList old.data.toList new.data.toList n).toArray⟩) ∧ Below w.heap.size w w':=Any.strings_Replace Tryd.lays154 Tryd.Builder_Extra_154 s old new n m w hs hm h1 hlen
end Go.Proofs
namespace Go.Proofs.YtolpefnedpgaaaaDoor.X
open Go.RowKit Go.Proofs.YtolpefnedpgaaaaDoorW.PrintWords
set_option linter.unusedVariables false
set_option linter.unusedSimpArgs false
def strings_IndexByte.f (s : ByteArray) (c : Int) : Option Int:=some (Lib.indexByte s.data.toList c.toNat.toUInt8)
theorem strings_IndexByte.calls (a0 : ByteArray) (a1 : Int) (r : Int) (w : World) (h : strings_IndexByte.f a0 a1 = some r) :
  Calls Tryd.prog 59 #[.string a0,.int .u8 a1] w fun e w' => e = .returned (.int .i64 r) ∧ Drawn0 w w':=by
 obtain rfl:=Option.some.inj h
 refine (Tryd.strings_IndexByte a0 a1 w).mono ?_
 rintro e w' ⟨rfl,rfl⟩
 exact ⟨rfl,Drawn0.refl _⟩
end Go.Proofs.YtolpefnedpgaaaaDoor.X
namespace Go.Proofs.YtolpefnedpgaaaaDoor.X
open Go.RowKit Go.Proofs.YtolpefnedpgaaaaDoorW.PrintWords Go.Proofs.YtolpefnedpgaaaaDoorW.PrintLast Go.Proofs.YtolpefnedpgaaaaDoorW.PrintMore
attribute [local go_sem] max2_int min2_int max_two min_two max_three min_three max_four min_four
set_option linter.unusedVariables false
set_option linter.unusedSimpArgs false
def stringslite_HasPrefix.f (a0 : ByteArray) (a1 : ByteArray) : Option (Bool):=if (a0.size : Int) ≥ (a1.size : Int) then (if 0 ≤ (a1.size : Int) then (if (a1.size : Int) ≤ (a0.size : Int) then (some ((a0.extract 0 ((a1.size : Int) : Int).toNat).toList == a1.toList)) else (none)) else (none)) else (some false)
set_option maxHeartbeats 8000000 in
set_option maxRecDepth 100000 in
theorem stringslite_HasPrefix.calls (a0 : ByteArray) (a1 : ByteArray) (r : Bool) (w : World) (h : stringslite_HasPrefix.f a0 a1 = some r) :
  Calls Tryd.prog 73 #[.string a0,.string a1] w fun e w' => e = .returned (.bool r) ∧ Drawn0 w w':=by
 have H : (if (a0.size : Int) ≥ (a1.size : Int) then (if 0 ≤ (a1.size : Int) then (if (a1.size : Int) ≤ (a0.size : Int) then (some ((a0.extract 0 ((a1.size : Int) : Int).toNat).toList == a1.toList)) else (none)) else (none)) else (some false)) = some r:=h
 clear h
 by_cases c3 : (a0.size : Int) ≥ (a1.size : Int)
 ·rw [if_pos c3] at H
  have c3b0 : decide ((a1.size : Int) ≤ (a0.size : Int)) = true:=decide_eq_true c3
  have c3b1 : decide (a1.size ≤ a0.size) = true:=decide_eq_true (Int.ofNat_le.mp c3)
  clear c3
  by_cases c4 : 0 ≤ (a1.size : Int)
  ·rw [if_pos c4] at H
   have c4b0:=eq_true c4
   have c4b1 : decide (0 ≤ (a1.size : Int)) = true:=decide_eq_true c4
   clear c4
   by_cases c5 : (a1.size : Int) ≤ (a0.size : Int)
   ·rw [if_pos c5] at H
    have c5b0:=eq_true c5
    have c5b1 : decide ((a1.size : Int) ≤ (a0.size : Int)) = true:=decide_eq_true c5
    clear c5
    obtain rfl:=Option.some.inj H
    go_enter Tryd.func73,Tryd.ntmps73
    go_wp2
    go_ret
    exact ⟨by first|rfl|(simp;done)|(simp;decide +kernel)|(simp [*];done),by repeat (first|exact Drawn0.refl _|apply Drawn0.step)⟩
   ·rw [if_neg c5] at H
    exact absurd H (by simp)
  ·rw [if_neg c4] at H
   exact absurd H (by simp)
 ·rw [if_neg c3] at H
  have c3b0 : decide ((a1.size : Int) ≤ (a0.size : Int)) = false:=decide_eq_false c3
  have c3b1 : decide (a1.size ≤ a0.size) = false:=decide_eq_false (fun h => c3 (Int.ofNat_le.mpr h))
  clear c3
  obtain rfl:=Option.some.inj H
  go_enter Tryd.func73,Tryd.ntmps73
  go_wp2
  go_ret
  exact ⟨by first|rfl|(simp;done)|(simp;decide +kernel)|(simp [*];done),by repeat (first|exact Drawn0.refl _|apply Drawn0.step)⟩
def stringslite_CutPrefix.f (a0 : ByteArray) (a1 : ByteArray) : Option (ByteArray × Bool):=(stringslite_HasPrefix.f a0 a1).bind fun t101 => (if t101 = true then (if 0 ≤ (a1.size : Int) then (if (a1.size : Int) ≤ (a0.size : Int) then (some (a0.extract ((a1.size : Int) : Int).toNat a0.size,true)) else (none)) else (none)) else (some (a0,false)))
set_option maxHeartbeats 8000000 in
set_option maxRecDepth 100000 in
theorem stringslite_CutPrefix.calls (a0 : ByteArray) (a1 : ByteArray) (r1 : ByteArray) (r2 : Bool) (w : World) (h : stringslite_CutPrefix.f a0 a1 = some (r1,r2)) :
  Calls Tryd.prog 58 #[.string a0,.string a1] w fun e w' => e = .returned (.tuple #[.string r1,.bool r2]) ∧ Drawn0 w w':=by
 have H : ((stringslite_HasPrefix.f a0 a1).bind fun t101 => (if t101 = true then (if 0 ≤ (a1.size : Int) then (if (a1.size : Int) ≤ (a0.size : Int) then (some (a0.extract ((a1.size : Int) : Int).toNat a0.size,true)) else (none)) else (none)) else (some (a0,false)))) = some (r1,r2):=h
 clear h
 replace H:=Option.bind_eq_some_iff.mp H
 obtain ⟨t101,A30,H⟩:=H
 replace H : (if t101 = true then (if 0 ≤ (a1.size : Int) then (if (a1.size : Int) ≤ (a0.size : Int) then (some (a0.extract ((a1.size : Int) : Int).toNat a0.size,true)) else (none)) else (none)) else (some (a0,false))) = some (r1,r2):=H
 have A3:=Aside0.mk A30
 clear A30
 by_cases c4 : t101 = true
 ·subst c4
  have H1 : (if 0 ≤ (a1.size : Int) then (if (a1.size : Int) ≤ (a0.size : Int) then (some (a0.extract ((a1.size : Int) : Int).toNat a0.size,true)) else (none)) else (none)) = some (r1,r2):=by rw [if_pos rfl] at H;exact H
  clear H
  have H:=H1
  clear H1
  by_cases c5 : 0 ≤ (a1.size : Int)
  ·rw [if_pos c5] at H
   have c5b0:=eq_true c5
   have c5b1 : decide (0 ≤ (a1.size : Int)) = true:=decide_eq_true c5
   clear c5
   by_cases c6 : (a1.size : Int) ≤ (a0.size : Int)
   ·rw [if_pos c6] at H
    have c6b0:=eq_true c6
    have c6b1 : decide ((a1.size : Int) ≤ (a0.size : Int)) = true:=decide_eq_true c6
    clear c6
    simp only [Option.some.injEq,Prod.mk.injEq] at H
    obtain ⟨rfl,rfl⟩:=H
    go_enter Tryd.func58,Tryd.ntmps58
    go_wp2_with (first|((with_reducible refine gate_callee (f:=73) rfl ?_);refine goesL_ (some 8) rfl rfl Tryd.func73 (by kernel_rfl) rfl #[.string a0,.string a1] rfl (by (try simp only [List.map_toArray,List.map_cons,List.map_nil]);first|done|rfl|(simp only [List.length_drop,List.length_take];rfl)) ?_;(with_reducible refine (stringslite_HasPrefix.calls a0 a1 true _ A3.out).mono ?_);rintro e w' ⟨rfl,⟨nd,rfl⟩⟩;refine ⟨_,rfl,?_⟩))
    go_ret2
    exact ⟨by first|rfl|(simp;done)|(simp;decide +kernel)|(simp [*];done),by repeat (first|exact Drawn0.refl _|apply Drawn0.step)⟩
   ·rw [if_neg c6] at H
    exact absurd H (by simp)
  ·rw [if_neg c5] at H
   exact absurd H (by simp)
 ·replace c4:=Bool.eq_false_iff.mpr c4
  subst c4
  have H1 : (some (a0,false)) = some (r1,r2):=by rw [if_neg (show ¬ (false = true) by decide)] at H;exact H
  clear H
  have H:=H1
  clear H1
  simp only [Option.some.injEq,Prod.mk.injEq] at H
  obtain ⟨rfl,rfl⟩:=H
  go_enter Tryd.func58,Tryd.ntmps58
  go_wp2_with (first|((with_reducible refine gate_callee (f:=73) rfl ?_);refine goesL_ (some 8) rfl rfl Tryd.func73 (by kernel_rfl) rfl #[.string a0,.string a1] rfl (by (try simp only [List.map_toArray,List.map_cons,List.map_nil]);first|done|rfl|(simp only [List.length_drop,List.length_take];rfl)) ?_;(with_reducible refine (stringslite_HasPrefix.calls a0 a1 false _ A3.out).mono ?_);rintro e w' ⟨rfl,⟨nd,rfl⟩⟩;refine ⟨_,rfl,?_⟩))
  go_ret2
  exact ⟨by first|rfl|(simp;done)|(simp;decide +kernel)|(simp [*];done),by repeat (first|exact Drawn0.refl _|apply Drawn0.step)⟩
def strings_CutPrefix.f (a0 : ByteArray) (a1 : ByteArray) : Option (ByteArray × Bool):=(stringslite_CutPrefix.f a0 a1).bind fun bt102 => (some (bt102.1,bt102.2))
set_option maxHeartbeats 8000000 in
set_option maxRecDepth 100000 in
theorem strings_CutPrefix.calls (a0 : ByteArray) (a1 : ByteArray) (r1 : ByteArray) (r2 : Bool) (w : World) (h : strings_CutPrefix.f a0 a1 = some (r1,r2)) :
  Calls Tryd.prog 29 #[.string a0,.string a1] w fun e w' => e = .returned (.tuple #[.string r1,.bool r2]) ∧ Drawn0 w w':=by
 have H : ((stringslite_CutPrefix.f a0 a1).bind fun bt102 => (some (bt102.1,bt102.2))) = some (r1,r2):=h
 clear h
 replace H:=Option.bind_eq_some_iff.mp H
 obtain ⟨⟨t102,t103⟩,A30,H⟩:=H
 replace H : (some (t102,t103)) = some (r1,r2):=H
 have A3:=Aside0.mk A30
 clear A30
 simp only [Option.some.injEq,Prod.mk.injEq] at H
 obtain ⟨rfl,rfl⟩:=H
 go_enter Tryd.func29,Tryd.ntmps29
 go_wp2_with (first|((with_reducible refine gate_callee (f:=58) rfl ?_);refine goesL_ (some 8) rfl rfl Tryd.func58 (by kernel_rfl) rfl #[.string a0,.string a1] rfl (by (try simp only [List.map_toArray,List.map_cons,List.map_nil]);first|done|rfl|(simp only [List.length_drop,List.length_take];rfl)) ?_;(with_reducible refine (stringslite_CutPrefix.calls a0 a1 t102 t103 _ A3.out).mono ?_);rintro e w' ⟨rfl,⟨nd,rfl⟩⟩;refine ⟨_,rfl,?_⟩))
 go_ret2
 exact ⟨by first|rfl|(simp;done)|(simp;decide +kernel)|(simp [*];done),by repeat (first|exact Drawn0.refl _|apply Drawn0.step)⟩
mutual
def attribute_all.j0 : Nat → ByteArray → ByteArray → Bool → Option (Bool)
 | 0,_,_,_ => none
 | k + 1,x0,x1,x16 => if x16 = true then (some false) else (attribute_all.l0 k x0 x1 (x0.size : Int) 0)
def attribute_all.l0 : Nat → ByteArray → ByteArray → Int → Int → Option (Bool)
 | 0,_,_,_,_ => none
 | k + 1,x0,x1,x18,x19 => if x19 < x18 then (if 0 ≤ x19 then (if x19 < (x0.size : Int) then ((strings_IndexByte.f x1 (bt x0 x19)).bind fun t104 => (if t104 < 0 then (some false) else (attribute_all.l0 k x0 x1 x18 (wrap64 (x19 + 1))))) else (none)) else (none)) else (some true)
end
def attribute_all.f (k : Nat) (a0 : ByteArray) (a1 : ByteArray) (a2 : Int) : Option (Bool):=if (a0.size : Int) < 1 then (attribute_all.j0 k a0 a1 true) else (attribute_all.j0 k a0 a1 (decide ((a0.size : Int) > a2)))
set_option maxHeartbeats 8000000 in
set_option maxRecDepth 100000 in
theorem attribute_all.calls (k : Nat) (a0 : ByteArray) (a1 : ByteArray) (a2 : Int) (r : Bool) (w : World) (h : attribute_all.f k a0 a1 a2 = some r) :
  Calls Tryd.prog 30 #[.string a0,.string a1,.int .i64 a2] w fun e w' => e = .returned (.bool r) ∧ Drawn0 w w':=by
 have H : (if (a0.size : Int) < 1 then (attribute_all.j0 k a0 a1 true) else (attribute_all.j0 k a0 a1 (decide ((a0.size : Int) > a2)))) = some r:=h
 clear h
 have HC4:=Aside0.mk H
 clear H
 go_enter Tryd.func30,Tryd.ntmps30
 go_upto_region 1 with (fail)
 go_cut [16] (fun v16 wc => ∃ (kq : Nat) (x16_3 : Bool),v16 = .bool x16_3 ∧ Aside0 (attribute_all.j0 kq a0 a1 x16_3 = some r) ∧ Aside0 (kq ≤ k) ∧ Drawn0 w wc)
 case first =>
  have H:=HC4.out
  clear HC4
  by_cases c5 : (a0.size : Int) < 1
  ·rw [if_pos c5] at H
   have c5b0 : decide ((a0.size : Int) < 1) = true:=decide_eq_true c5
   have c5b1 : decide (a0.size < 1) = true:=decide_eq_true (by omega)
   clear c5
   (first|rw [c5b0]|(simp only [i64_w,i32_w];rw [c5b0])|skip)
   have H':=Aside0.mk H
   clear H
   go_wp2
   go_meet
   case rel => exact ⟨_,(true),(by first|rfl|(simp;done)|(simp;decide +kernel)|(simp [*];done)),(by first|exact H'|(subst_vars;exact H')),⟨by first|omega|exact Nat.le_refl _⟩,by repeat (first|exact Drawn0.refl _|apply Drawn0.step)⟩
  ·rw [if_neg c5] at H
   have c5b0 : decide ((a0.size : Int) < 1) = false:=decide_eq_false c5
   have c5b1 : decide (a0.size < 1) = false:=decide_eq_false (by omega)
   clear c5
   (first|rw [c5b0]|(simp only [i64_w,i32_w];rw [c5b0])|skip)
   have H':=Aside0.mk H
   clear H
   go_wp2
   go_meet
   case rel => exact ⟨_,(decide ((a0.size : Int) > a2)),(by first|rfl|(simp;done)|(simp;decide +kernel)|(simp [*];done)),(by first|exact H'|(subst_vars;exact H')),⟨by first|omega|exact Nat.le_refl _⟩,by repeat (first|exact Drawn0.refl _|apply Drawn0.step)⟩
 case rest =>
  clear HC4
  try clear p2
  try clear c3
  try clear c5
  try clear c5b0
  try clear c5b1
  obtain ⟨kq,x16_3,rfl,HA,HJ3,⟨mc3,rfl⟩⟩:=hcut
  cases kq with
  | zero => exact absurd HA.out (by simp [attribute_all.j0])
  | succ kj3 =>
   have H:=HA.out
   clear HA
   simp only [attribute_all.j0] at H
   by_cases c6 : x16_3 = true
   ·subst c6
    have H1 : (some false) = some r:=by rw [if_pos rfl] at H;exact H
    clear H
    have H:=H1
    clear H1
    obtain rfl:=Option.some.inj H
    go_wp2
    go_ret
    exact ⟨by first|rfl|(simp;done)|(simp;decide +kernel)|(simp [*];done),by repeat (first|exact Drawn0.refl _|apply Drawn0.step)⟩
   ·replace c6:=Bool.eq_false_iff.mpr c6
    subst c6
    have H1 : (attribute_all.l0 kj3 a0 a1 (a0.size : Int) 0) = some r:=by rw [if_neg (show ¬ (false = true) by decide)] at H;exact H
    clear H
    have H:=H1
    clear H1
    have H':=Aside0.mk H
    clear H
    go_wp2
    go_loopg [19] kj3 (fun kq v19 w' => ∃ (x19_2 : Int),v19 = .int .i64 x19_2 ∧ Aside0 (attribute_all.l0 kq a0 a1 (a0.size : Int) x19_2 = some r) ∧ Aside0 (kq ≤ kj3) ∧ Drawn0 w w')
    case atStart => exact ⟨(0),(by first|rfl|(simp;done)|(simp;decide +kernel)|(simp [*];done)),(by first|exact H'|(subst_vars;exact H')),⟨Nat.le_refl _⟩,by repeat (first|exact Drawn0.refl _|apply Drawn0.step)⟩
    case round =>
     clear H'
     try clear p2
     try clear c3
     try clear c5
     try clear c5b0
     try clear c5b1
     try clear c6
     try clear p2
     obtain ⟨x19_2,rfl,HA,HK2,⟨m2,rfl⟩⟩:=hrel
     cases gk with
     | zero => exact absurd HA.out (by simp [attribute_all.l0])
     | succ k2 =>
      have H:=HA.out
      clear HA
      simp only [attribute_all.l0] at H
      by_cases c7 : x19_2 < (a0.size : Int)
      ·rw [if_pos c7] at H
       have c7b0 : decide (x19_2 < (a0.size : Int)) = true:=decide_eq_true c7
       clear c7
       by_cases c8 : 0 ≤ x19_2
       ·rw [if_pos c8] at H
        have c8b0 : decide (0 ≤ x19_2) = true:=decide_eq_true c8
        clear c8
        by_cases c9 : x19_2 < (a0.size : Int)
        ·rw [if_pos c9] at H
         have c9b0 : decide (x19_2 < (a0.size : Int)) = true:=decide_eq_true c9
         clear c9
         replace H:=Option.bind_eq_some_iff.mp H
         obtain ⟨t104,A110,H⟩:=H
         replace H : (if t104 < 0 then (some false) else (attribute_all.l0 k2 a0 a1 (a0.size : Int) (wrap64 (x19_2 + 1)))) = some r:=H
         have A11:=Aside0.mk A110
         clear A110
         by_cases c12 : t104 < 0
         ·rw [if_pos c12] at H
          have c12b0 : decide (t104 < 0) = true:=decide_eq_true c12
          clear c12
          obtain rfl:=Option.some.inj H
          have p10 : 0 ≤ (x19_2 : Int):=of_decide_eq_true (by first|(with_reducible assumption)|assumption)
          have q10 : x19_2 < (a0.size : Int):=of_decide_eq_true (by first|(with_reducible assumption)|assumption)
          have hx10:=bt_at a0 x19_2
          replace p10:=eq_true p10
          replace q10:=eq_true q10
          go_wp2_with (first|((with_reducible refine gate_callee (f:=59) rfl ?_);refine goesL_ (some 26) rfl rfl Tryd.func59 (by kernel_rfl) rfl #[.string a1,.int .u8 (bt a0 x19_2)] rfl (by (try simp only [List.map_toArray,List.map_cons,List.map_nil]);first|done|rfl|(simp only [List.length_drop,List.length_take];rfl)) ?_;(with_reducible refine (strings_IndexByte.calls a1 (bt a0 x19_2) t104 _ A11.out).mono ?_);rintro e w' ⟨rfl,⟨nd,rfl⟩⟩;refine ⟨_,rfl,?_⟩))
          go_ret
          exact ⟨by first|rfl|(simp;done)|(simp;decide +kernel)|(simp [*];done),by repeat (first|exact Drawn0.refl _|apply Drawn0.step)⟩
         ·rw [if_neg c12] at H
          have c12b0 : decide (t104 < 0) = false:=decide_eq_false c12
          clear c12
          have H':=Aside0.mk H
          clear H
          have p10 : 0 ≤ (x19_2 : Int):=of_decide_eq_true (by first|(with_reducible assumption)|assumption)
          have q10 : x19_2 < (a0.size : Int):=of_decide_eq_true (by first|(with_reducible assumption)|assumption)
          have hx10:=bt_at a0 x19_2
          replace p10:=eq_true p10
          replace q10:=eq_true q10
          go_wp2_with (first|((with_reducible refine gate_callee (f:=59) rfl ?_);refine goesL_ (some 26) rfl rfl Tryd.func59 (by kernel_rfl) rfl #[.string a1,.int .u8 (bt a0 x19_2)] rfl (by (try simp only [List.map_toArray,List.map_cons,List.map_nil]);first|done|rfl|(simp only [List.length_drop,List.length_take];rfl)) ?_;(with_reducible refine (strings_IndexByte.calls a1 (bt a0 x19_2) t104 _ A11.out).mono ?_);rintro e w' ⟨rfl,⟨nd,rfl⟩⟩;refine ⟨_,rfl,?_⟩))
          go_roundg k2
          case measure => have:=HJ3.out;have:=HK2.out;omega
          case rel => exact ⟨(wrap64 (x19_2 + 1)),(by first|rfl|(simp;done)|(simp;decide +kernel)|(simp [*];done)),(by first|exact H'|(subst_vars;exact H')),⟨by have:=HJ3.out;have:=HK2.out;omega⟩,by repeat (first|exact Drawn0.refl _|apply Drawn0.step)⟩
        ·rw [if_neg c9] at H
         exact absurd H (by simp)
       ·rw [if_neg c8] at H
        exact absurd H (by simp)
      ·rw [if_neg c7] at H
       have c7b0 : decide (x19_2 < (a0.size : Int)) = false:=decide_eq_false c7
       clear c7
       obtain rfl:=Option.some.inj H
       go_wp2
       go_ret
       exact ⟨by first|rfl|(simp;done)|(simp;decide +kernel)|(simp [*];done),by repeat (first|exact Drawn0.refl _|apply Drawn0.step)⟩
def attribute_Type.l0 : Nat → ByteArray → List ByteArray → Int → Int → Option (Int × Bool)
 | 0,_,_,_,_ => none
 | k + 1,x0,x8,x9,x10 => if x10 < x9 then (if 0 ≤ x10 then (if x10 < (x8.length : Int) then ((strings_CutPrefix.f x0 (rdOf ByteArray.empty x8 x10)).bind fun bt109 => (if bt109.2 = true then (if bt109.1.toList = ([] : List UInt8) then (some (wrap64 (x10 + 1),true)) else (if 0 < (bt109.1.size : Int) then (if (bt bt109.1 0) = 46 then (if 1 ≤ (bt109.1.size : Int) then ((attribute_all.f k (bt109.1.extract 1 bt109.1.size) (⟨#[65,66,67,68,69,70,71,72,73,74,75,76,77,78,79,80,81,82,83,84,85,86,87,88,89,90,97,98,99,100,101,102,103,104,105,106,107,108,109,110,111,112,113,114,115,116,117,118,119,120,121,122,48,49,50,51,52,53,54,55,56,57,95,45,46]⟩ : ByteArray) 32).bind fun t111 => (if t111 = true then (some (wrap64 (x10 + 1),true)) else (attribute_Type.l0 k x0 x8 x9 (wrap64 (x10 + 1))))) else (none)) else (attribute_Type.l0 k x0 x8 x9 (wrap64 (x10 + 1)))) else (none))) else (attribute_Type.l0 k x0 x8 x9 (wrap64 (x10 + 1))))) else (none)) else (none)) else (some (0,false))
def attribute_Type.f (k : Nat) (a0 : ByteArray) : Option (Int × Bool):=(some (([(⟨#[83,116,114,105,110,103]⟩ : ByteArray),(⟨#[78,117,109,98,101,114]⟩ : ByteArray),(⟨#[66,105,110,97,114,121]⟩ : ByteArray)] : List ByteArray) : List ByteArray)).bind fun y105 => (attribute_Type.l0 k a0 y105 (y105.length : Int) 0)
set_option maxHeartbeats 8000000 in
set_option maxRecDepth 100000 in
theorem attribute_Type.calls (k : Nat) (a0 : ByteArray) (r1 : Int) (r2 : Bool) (w : World) (h : attribute_Type.f k a0 = some (r1,r2)) :
  Calls Tryd.prog 10 #[.string a0] w fun e w' => e = .returned (.tuple #[.int .i64 r1,.bool r2]) ∧ Below w.heap.size w w':=by
 have HB:=Aside0.mk (Below.refl w.heap.size w)
 have H : ((some (([(⟨#[83,116,114,105,110,103]⟩ : ByteArray),(⟨#[78,117,109,98,101,114]⟩ : ByteArray),(⟨#[66,105,110,97,114,121]⟩ : ByteArray)] : List ByteArray) : List ByteArray)).bind fun y105 => (attribute_Type.l0 k a0 y105 (y105.length : Int) 0)) = some (r1,r2):=h
 clear h
 obtain ⟨y105,hy105⟩ : ∃ y_ : List ByteArray,y_ = (([(⟨#[83,116,114,105,110,103]⟩ : ByteArray),(⟨#[78,117,109,98,101,114]⟩ : ByteArray),(⟨#[66,105,110,97,114,121]⟩ : ByteArray)] : List ByteArray)):=⟨_,rfl⟩
 replace H : (attribute_Type.l0 k a0 y105 (y105.length : Int) 0) = some (r1,r2):=by first|(rw [hy105];with_reducible exact H)|(have H2_:=(Option.bind_some _ _).symm.trans H;rw [hy105];with_reducible exact H2_)|(have H2_:=(Option.bind_some _ _).symm.trans H;with_reducible exact H2_)|with_reducible exact H|(rw [hy105];exact H)|exact H
 have Ny105:=Aside0.mk hy105
 clear hy105
 have H':=Aside0.mk H
 clear H
 go_enter Tryd.func10,Tryd.ntmps10
 go_wp2_with (first|((with_reducible refine gate_dst (N:=8) rfl ?_);refine Kd.R_lit Kd.string _ 9 ?hg (N:=8) ?hd (xs:=([(⟨#[83,116,114,105,110,103]⟩ : ByteArray),(⟨#[78,117,109,98,101,114]⟩ : ByteArray),(⟨#[66,105,110,97,114,121]⟩ : ByteArray)] : List ByteArray)) (inner:=[.string (⟨#[83,116,114,105,110,103]⟩ : ByteArray),.string (⟨#[78,117,109,98,101,114]⟩ : ByteArray),.string (⟨#[66,105,110,97,114,121]⟩ : ByteArray)]) (ok:=fun _ => True) (okp:=fun _ => True) ?hr ?hp (fun _ hk => hk) trivial (Below.refl _ _) (Nat.le_refl _) (by simp) ?_;(case hd => rfl);(case hg => rfl);(case hr => first|(go_simp;done)|(go_simp;rfl));(case hp => exact (Reps.one (show Kd.M Kd.string _ _ _ (⟨#[83,116,114,105,110,103]⟩ : ByteArray) [.string (⟨#[83,116,114,105,110,103]⟩ : ByteArray)] from rfl) (Reps.one (show Kd.M Kd.string _ _ _ (⟨#[78,117,109,98,101,114]⟩ : ByteArray) [.string (⟨#[78,117,109,98,101,114]⟩ : ByteArray)] from rfl) (Reps.one (show Kd.M Kd.string _ _ _ (⟨#[66,105,110,97,114,121]⟩ : ByteArray) [.string (⟨#[66,105,110,97,114,121]⟩ : ByteArray)] from rfl) (Reps.none _ _)))));intro v106 w2 ho3 hb hg_ hnew_;clear hg_ hnew_;(first|rw [← Ny105.out] at ho3|(simp only [Int.reduceToNat] at ho3;rw [← Ny105.out] at ho3));have n0_:=Aside0.mk (Kd.R_lower ho3 (below_size (by repeat (first|(with_reducible first|exact HB.out|apply below_alloc|apply pw_below_drewN|apply below_drew1)|exact HB.out))));have n1_:=Aside0.mk (below_step (by repeat (first|(with_reducible first|exact HB.out|apply below_alloc|apply pw_below_drewN|apply below_drew1)|exact HB.out)) hb);clear HB;have HO107:=n0_;have HB:=n1_;clear n0_ n1_;clear hb ho3;obtain ⟨Ao4,co4,eo4⟩:=Kd.R_slice HO107.out;subst eo4))
 go_loopg [10] k (fun kq v10 w' => ∃ (x10_1 : Int),v10 = .int .i64 x10_1 ∧ Aside0 (attribute_Type.l0 kq a0 y105 (y105.length : Int) x10_1 = some (r1,r2)) ∧ Aside0 (kq ≤ k) ∧ Aside0 (Kd.R Kd.string 9 w' w.heap.size (fun _ => True) (.slice Ao4 y105.length co4) y105) ∧ Aside0 (Below w.heap.size w w'))
 case atStart => exact ⟨(0),(by first|rfl|(simp;done)|(simp;decide +kernel)|(simp [*];done)),(by first|exact H'|(subst_vars;exact H')),⟨Nat.le_refl _⟩,⟨by (with_reducible repeat (first|apply Kd.R_alloc|apply Kd.R_drewN|apply Kd.R_drew));exact HO107.out⟩,⟨by repeat (first|(with_reducible first|exact HB.out|apply below_alloc|apply pw_below_drewN|apply below_drew1)|exact HB.out)⟩⟩
 case round =>
  clear H'
  try clear c1
  try clear p2
  obtain ⟨x10_1,rfl,HA,HK1,HO_8,HB⟩:=hrel
  cases gk with
  | zero => exact absurd HA.out (by simp [attribute_Type.l0])
  | succ k1 =>
   have H:=HA.out
   clear HA
   simp only [attribute_Type.l0] at H
   by_cases c5 : x10_1 < (y105.length : Int)
   ·rw [if_pos c5] at H
    have c5b0 : decide (x10_1 < (y105.length : Int)) = true:=decide_eq_true c5
    clear c5
    by_cases c6 : 0 ≤ x10_1
    ·rw [if_pos c6] at H
     have c6b0 : decide (0 ≤ x10_1) = true:=decide_eq_true c6
     clear c6
     by_cases c7 : x10_1 < (y105.length : Int)
     ·rw [if_pos c7] at H
      have c7b0 : decide (x10_1 < (y105.length : Int)) = true:=decide_eq_true c7
      clear c7
      replace H:=Option.bind_eq_some_iff.mp H
      obtain ⟨⟨t109,t110⟩,A80,H⟩:=H
      replace H : (if t110 = true then (if t109.toList = ([] : List UInt8) then (some (wrap64 (x10_1 + 1),true)) else (if 0 < (t109.size : Int) then (if (bt t109 0) = 46 then (if 1 ≤ (t109.size : Int) then ((attribute_all.f k1 (t109.extract 1 t109.size) (⟨#[65,66,67,68,69,70,71,72,73,74,75,76,77,78,79,80,81,82,83,84,85,86,87,88,89,90,97,98,99,100,101,102,103,104,105,106,107,108,109,110,111,112,113,114,115,116,117,118,119,120,121,122,48,49,50,51,52,53,54,55,56,57,95,45,46]⟩ : ByteArray) 32).bind fun t111 => (if t111 = true then (some (wrap64 (x10_1 + 1),true)) else (attribute_Type.l0 k1 a0 y105 (y105.length : Int) (wrap64 (x10_1 + 1))))) else (none)) else (attribute_Type.l0 k1 a0 y105 (y105.length : Int) (wrap64 (x10_1 + 1)))) else (none))) else (attribute_Type.l0 k1 a0 y105 (y105.length : Int) (wrap64 (x10_1 + 1)))) = some (r1,r2):=H
      have A8:=Aside0.mk A80
      clear A80
      by_cases c9 : t110 = true
      ·subst c9
       have H1 : (if t109.toList = ([] : List UInt8) then (some (wrap64 (x10_1 + 1),true)) else (if 0 < (t109.size : Int) then (if (bt t109 0) = 46 then (if 1 ≤ (t109.size : Int) then ((attribute_all.f k1 (t109.extract 1 t109.size) (⟨#[65,66,67,68,69,70,71,72,73,74,75,76,77,78,79,80,81,82,83,84,85,86,87,88,89,90,97,98,99,100,101,102,103,104,105,106,107,108,109,110,111,112,113,114,115,116,117,118,119,120,121,122,48,49,50,51,52,53,54,55,56,57,95,45,46]⟩ : ByteArray) 32).bind fun t111 => (if t111 = true then (some (wrap64 (x10_1 + 1),true)) else (attribute_Type.l0 k1 a0 y105 (y105.length : Int) (wrap64 (x10_1 + 1))))) else (none)) else (attribute_Type.l0 k1 a0 y105 (y105.length : Int) (wrap64 (x10_1 + 1)))) else (none))) = some (r1,r2):=by rw [if_pos rfl] at H;exact H
       clear H
       have H:=H1
       clear H1
       by_cases c10 : t109.toList = ([] : List UInt8)
       ·rw [if_pos c10] at H
        have c10b0 : (t109.toList == ([] : List UInt8)) = true:=beq_iff_eq.mpr c10
        have c10b1 : (t109.toList != ([] : List UInt8)) = false:=bne_eq_false_iff_eq.mpr c10
        clear c10
        simp only [Option.some.injEq,Prod.mk.injEq] at H
        obtain ⟨rfl,rfl⟩:=H
        have p108 : 0 ≤ (x10_1 : Int):=of_decide_eq_true (by first|(with_reducible assumption)|assumption)
        have q108 : x10_1 < (y105.length : Int):=of_decide_eq_true (by first|(with_reducible assumption)|assumption)
        obtain ⟨ad108,e108,hx108_0⟩:=Kd.at_string (Kd.R_reads' HO_8.out).2.2 x10_1 p108 q108
        cases e108
        replace p108:=eq_true p108
        replace q108:=eq_true q108
        go_wp2_with (first|((with_reducible refine gate_callee (f:=29) rfl ?_);refine goesL_ (some 18) rfl rfl Tryd.func29 (by kernel_rfl) rfl #[.string a0,.string (rdOf ByteArray.empty y105 x10_1)] rfl (by (try simp only [List.map_toArray,List.map_cons,List.map_nil]);first|done|rfl|(simp only [List.length_drop,List.length_take];rfl)) ?_;(with_reducible refine (strings_CutPrefix.calls a0 (rdOf ByteArray.empty y105 x10_1) t109 true _ A8.out).mono ?_);rintro e w' ⟨rfl,⟨nd,rfl⟩⟩;refine ⟨_,rfl,?_⟩))
        go_ret2
        exact ⟨by first|rfl|(simp [errW_none,errW_some] <;> rfl)|(simp [*,errW_none,errW_some] <;> rfl),by repeat (first|(with_reducible first|exact HB.out|apply below_alloc|apply pw_below_drewN|apply below_drew1)|exact HB.out)⟩
       ·rw [if_neg c10] at H
        have c10b0 : (t109.toList == ([] : List UInt8)) = false:=beq_eq_false_iff_ne.mpr c10
        have c10b1 : (t109.toList != ([] : List UInt8)) = true:=bne_iff_ne.mpr c10
        by_cases c11 : 0 < (t109.size : Int)
        ·rw [if_pos c11] at H
         have c11b0 : decide (0 < (t109.size : Int)) = true:=decide_eq_true c11
         have c11b1 : decide (0 < t109.size) = true:=decide_eq_true (by omega)
         clear c11
         by_cases c13 : (bt t109 0) = 46
         ·rw [if_pos c13] at H
          have c13b0 : ((bt t109 0) == 46) = true:=beq_iff_eq.mpr c13
          have c13b1 : ((bt t109 0) != 46) = false:=bne_eq_false_iff_eq.mpr c13
          clear c13
          by_cases c14 : 1 ≤ (t109.size : Int)
          ·rw [if_pos c14] at H
           have c14b0:=eq_true c14
           have c14b1 : decide (1 ≤ (t109.size : Int)) = true:=decide_eq_true c14
           clear c14
           replace H:=Option.bind_eq_some_iff.mp H
           obtain ⟨t111,A150,H⟩:=H
           replace H : (if t111 = true then (some (wrap64 (x10_1 + 1),true)) else (attribute_Type.l0 k1 a0 y105 (y105.length : Int) (wrap64 (x10_1 + 1)))) = some (r1,r2):=H
           have A15:=Aside0.mk A150
           clear A150
           by_cases c16 : t111 = true
           ·subst c16
            have H1 : (some (wrap64 (x10_1 + 1),true)) = some (r1,r2):=by rw [if_pos rfl] at H;exact H
            clear H
            have H:=H1
            clear H1
            simp only [Option.some.injEq,Prod.mk.injEq] at H
            obtain ⟨rfl,rfl⟩:=H
            have p108 : 0 ≤ (x10_1 : Int):=of_decide_eq_true (by first|(with_reducible assumption)|assumption)
            have q108 : x10_1 < (y105.length : Int):=of_decide_eq_true (by first|(with_reducible assumption)|assumption)
            obtain ⟨ad108,e108,hx108_0⟩:=Kd.at_string (Kd.R_reads' HO_8.out).2.2 x10_1 p108 q108
            cases e108
            replace p108:=eq_true p108
            replace q108:=eq_true q108
            go_wp2_with (first|((with_reducible refine gate_callee (f:=29) rfl ?_);refine goesL_ (some 18) rfl rfl Tryd.func29 (by kernel_rfl) rfl #[.string a0,.string (rdOf ByteArray.empty y105 x10_1)] rfl (by (try simp only [List.map_toArray,List.map_cons,List.map_nil]);first|done|rfl|(simp only [List.length_drop,List.length_take];rfl)) ?_;(with_reducible refine (strings_CutPrefix.calls a0 (rdOf ByteArray.empty y105 x10_1) t109 true _ A8.out).mono ?_);rintro e w' ⟨rfl,⟨nd,rfl⟩⟩;refine ⟨_,rfl,?_⟩;have p12 : 0 ≤ (0 : Int):=(by omega);have q12 : 0 < t109.size:=(by have : (0 : Int) < (t109.size : Int):=of_decide_eq_true (by first|(with_reducible assumption)|assumption);omega);have hx12 : ∀ h : 0 < t109.size,((t109[0]'h).toNat : Int) = bt t109 0:=bt_at t109 0;clear p12;have qi12 : (0 < (t109.size : Int)) = True:=eq_true (of_decide_eq_true (by first|(with_reducible assumption)|assumption));replace q12:=eq_true q12)|(go_at_call 30;(with_reducible refine (attribute_all.calls k1 (t109.extract 1 t109.size) (⟨#[65,66,67,68,69,70,71,72,73,74,75,76,77,78,79,80,81,82,83,84,85,86,87,88,89,90,97,98,99,100,101,102,103,104,105,106,107,108,109,110,111,112,113,114,115,116,117,118,119,120,121,122,48,49,50,51,52,53,54,55,56,57,95,45,46]⟩ : ByteArray) 32 true _ A15.out).mono ?_);rintro e w' ⟨rfl,⟨nd,rfl⟩⟩))
            go_ret2
            exact ⟨by first|rfl|(simp [errW_none,errW_some] <;> rfl)|(simp [*,errW_none,errW_some] <;> rfl),by repeat (first|(with_reducible first|exact HB.out|apply below_alloc|apply pw_below_drewN|apply below_drew1)|exact HB.out)⟩
           ·replace c16:=Bool.eq_false_iff.mpr c16
            subst c16
            have H1 : (attribute_Type.l0 k1 a0 y105 (y105.length : Int) (wrap64 (x10_1 + 1))) = some (r1,r2):=by rw [if_neg (show ¬ (false = true) by decide)] at H;exact H
            clear H
            have H:=H1
            clear H1
            have H':=Aside0.mk H
            clear H
            have p108 : 0 ≤ (x10_1 : Int):=of_decide_eq_true (by first|(with_reducible assumption)|assumption)
            have q108 : x10_1 < (y105.length : Int):=of_decide_eq_true (by first|(with_reducible assumption)|assumption)
            obtain ⟨ad108,e108,hx108_0⟩:=Kd.at_string (Kd.R_reads' HO_8.out).2.2 x10_1 p108 q108
            cases e108
            replace p108:=eq_true p108
            replace q108:=eq_true q108
            go_wp2_with (first|((with_reducible refine gate_callee (f:=29) rfl ?_);refine goesL_ (some 18) rfl rfl Tryd.func29 (by kernel_rfl) rfl #[.string a0,.string (rdOf ByteArray.empty y105 x10_1)] rfl (by (try simp only [List.map_toArray,List.map_cons,List.map_nil]);first|done|rfl|(simp only [List.length_drop,List.length_take];rfl)) ?_;(with_reducible refine (strings_CutPrefix.calls a0 (rdOf ByteArray.empty y105 x10_1) t109 true _ A8.out).mono ?_);rintro e w' ⟨rfl,⟨nd,rfl⟩⟩;refine ⟨_,rfl,?_⟩;have p12 : 0 ≤ (0 : Int):=(by omega);have q12 : 0 < t109.size:=(by have : (0 : Int) < (t109.size : Int):=of_decide_eq_true (by first|(with_reducible assumption)|assumption);omega);have hx12 : ∀ h : 0 < t109.size,((t109[0]'h).toNat : Int) = bt t109 0:=bt_at t109 0;clear p12;have qi12 : (0 < (t109.size : Int)) = True:=eq_true (of_decide_eq_true (by first|(with_reducible assumption)|assumption));replace q12:=eq_true q12)|(go_at_call 30;(with_reducible refine (attribute_all.calls k1 (t109.extract 1 t109.size) (⟨#[65,66,67,68,69,70,71,72,73,74,75,76,77,78,79,80,81,82,83,84,85,86,87,88,89,90,97,98,99,100,101,102,103,104,105,106,107,108,109,110,111,112,113,114,115,116,117,118,119,120,121,122,48,49,50,51,52,53,54,55,56,57,95,45,46]⟩ : ByteArray) 32 false _ A15.out).mono ?_);rintro e w' ⟨rfl,⟨nd,rfl⟩⟩))
            go_roundg k1
            case measure => have:=HK1.out;omega
            case rel => exact ⟨(wrap64 (x10_1 + 1)),(by first|rfl|(simp;done)|(simp;decide +kernel)|(simp [*];done)),(by first|exact H'|(subst_vars;exact H')),⟨by have:=HK1.out;omega⟩,⟨by (with_reducible repeat (first|apply Kd.R_alloc|apply Kd.R_drewN|apply Kd.R_drew));exact HO_8.out⟩,⟨by repeat (first|(with_reducible first|exact HB.out|apply below_alloc|apply pw_below_drewN|apply below_drew1)|exact HB.out)⟩⟩
          ·rw [if_neg c14] at H
           exact absurd H (by simp)
         ·rw [if_neg c13] at H
          have c13b0 : ((bt t109 0) == 46) = false:=beq_eq_false_iff_ne.mpr c13
          have c13b1 : ((bt t109 0) != 46) = true:=bne_iff_ne.mpr c13
          have H':=Aside0.mk H
          clear H
          have p108 : 0 ≤ (x10_1 : Int):=of_decide_eq_true (by first|(with_reducible assumption)|assumption)
          have q108 : x10_1 < (y105.length : Int):=of_decide_eq_true (by first|(with_reducible assumption)|assumption)
          obtain ⟨ad108,e108,hx108_0⟩:=Kd.at_string (Kd.R_reads' HO_8.out).2.2 x10_1 p108 q108
          cases e108
          replace p108:=eq_true p108
          replace q108:=eq_true q108
          go_wp2_with (first|((with_reducible refine gate_callee (f:=29) rfl ?_);refine goesL_ (some 18) rfl rfl Tryd.func29 (by kernel_rfl) rfl #[.string a0,.string (rdOf ByteArray.empty y105 x10_1)] rfl (by (try simp only [List.map_toArray,List.map_cons,List.map_nil]);first|done|rfl|(simp only [List.length_drop,List.length_take];rfl)) ?_;(with_reducible refine (strings_CutPrefix.calls a0 (rdOf ByteArray.empty y105 x10_1) t109 true _ A8.out).mono ?_);rintro e w' ⟨rfl,⟨nd,rfl⟩⟩;refine ⟨_,rfl,?_⟩;have p12 : 0 ≤ (0 : Int):=(by omega);have q12 : 0 < t109.size:=(by have : (0 : Int) < (t109.size : Int):=of_decide_eq_true (by first|(with_reducible assumption)|assumption);omega);have hx12 : ∀ h : 0 < t109.size,((t109[0]'h).toNat : Int) = bt t109 0:=bt_at t109 0;clear p12;have qi12 : (0 < (t109.size : Int)) = True:=eq_true (of_decide_eq_true (by first|(with_reducible assumption)|assumption));replace q12:=eq_true q12))
          go_roundg k1
          case measure => have:=HK1.out;omega
          case rel => exact ⟨(wrap64 (x10_1 + 1)),(by first|rfl|(simp;done)|(simp;decide +kernel)|(simp [*];done)),(by first|exact H'|(subst_vars;exact H')),⟨by have:=HK1.out;omega⟩,⟨by (with_reducible repeat (first|apply Kd.R_alloc|apply Kd.R_drewN|apply Kd.R_drew));exact HO_8.out⟩,⟨by repeat (first|(with_reducible first|exact HB.out|apply below_alloc|apply pw_below_drewN|apply below_drew1)|exact HB.out)⟩⟩
        ·rw [if_neg c11] at H
         exact absurd H (by simp)
      ·replace c9:=Bool.eq_false_iff.mpr c9
       subst c9
       have H1 : (attribute_Type.l0 k1 a0 y105 (y105.length : Int) (wrap64 (x10_1 + 1))) = some (r1,r2):=by rw [if_neg (show ¬ (false = true) by decide)] at H;exact H
       clear H
       have H:=H1
       clear H1
       have H':=Aside0.mk H
       clear H
       have p108 : 0 ≤ (x10_1 : Int):=of_decide_eq_true (by first|(with_reducible assumption)|assumption)
       have q108 : x10_1 < (y105.length : Int):=of_decide_eq_true (by first|(with_reducible assumption)|assumption)
       obtain ⟨ad108,e108,hx108_0⟩:=Kd.at_string (Kd.R_reads' HO_8.out).2.2 x10_1 p108 q108
       cases e108
       replace p108:=eq_true p108
       replace q108:=eq_true q108
       go_wp2_with (first|((with_reducible refine gate_callee (f:=29) rfl ?_);refine goesL_ (some 18) rfl rfl Tryd.func29 (by kernel_rfl) rfl #[.string a0,.string (rdOf ByteArray.empty y105 x10_1)] rfl (by (try simp only [List.map_toArray,List.map_cons,List.map_nil]);first|done|rfl|(simp only [List.length_drop,List.length_take];rfl)) ?_;(with_reducible refine (strings_CutPrefix.calls a0 (rdOf ByteArray.empty y105 x10_1) t109 false _ A8.out).mono ?_);rintro e w' ⟨rfl,⟨nd,rfl⟩⟩;refine ⟨_,rfl,?_⟩))
       go_roundg k1
       case measure => have:=HK1.out;omega
       case rel => exact ⟨(wrap64 (x10_1 + 1)),(by first|rfl|(simp;done)|(simp;decide +kernel)|(simp [*];done)),(by first|exact H'|(subst_vars;exact H')),⟨by have:=HK1.out;omega⟩,⟨by (with_reducible repeat (first|apply Kd.R_alloc|apply Kd.R_drewN|apply Kd.R_drew));exact HO_8.out⟩,⟨by repeat (first|(with_reducible first|exact HB.out|apply below_alloc|apply pw_below_drewN|apply below_drew1)|exact HB.out)⟩⟩
     ·rw [if_neg c7] at H
      exact absurd H (by simp)
    ·rw [if_neg c6] at H
     exact absurd H (by simp)
   ·rw [if_neg c5] at H
    have c5b0 : decide (x10_1 < (y105.length : Int)) = false:=decide_eq_false c5
    clear c5
    simp only [Option.some.injEq,Prod.mk.injEq] at H
    obtain ⟨rfl,rfl⟩:=H
    go_wp2
    go_ret2
    exact ⟨by first|rfl|(simp [errW_none,errW_some] <;> rfl)|(simp [*,errW_none,errW_some] <;> rfl),by repeat (first|(with_reducible first|exact HB.out|apply below_alloc|apply pw_below_drewN|apply below_drew1)|exact HB.out)⟩
def racewayref24_digit.f (a0 : Int) : Option (Bool):=if a0 ≥ 48 then (some (decide (a0 ≤ 57))) else (some false)
set_option maxHeartbeats 8000000 in
set_option maxRecDepth 100000 in
theorem racewayref24_digit.calls (a0 : Int) (r : Bool) (w : World) (h : racewayref24_digit.f a0 = some r) :
  Calls Tryd.prog 41 #[.int .u8 a0] w fun e w' => e = .returned (.bool r) ∧ Drawn0 w w':=by
 have H : (if a0 ≥ 48 then (some (decide (a0 ≤ 57))) else (some false)) = some r:=h
 clear h
 by_cases c2 : a0 ≥ 48
 ·rw [if_pos c2] at H
  have c2b0 : decide (48 ≤ a0) = true:=decide_eq_true c2
  clear c2
  obtain rfl:=Option.some.inj H
  go_enter Tryd.func41,Tryd.ntmps41
  go_wp2
  go_ret
  exact ⟨by first|rfl|(simp;done)|(simp;decide +kernel)|(simp [*];done),by repeat (first|exact Drawn0.refl _|apply Drawn0.step)⟩
 ·rw [if_neg c2] at H
  have c2b0 : decide (48 ≤ a0) = false:=decide_eq_false c2
  clear c2
  obtain rfl:=Option.some.inj H
  go_enter Tryd.func41,Tryd.ntmps41
  go_wp2
  go_ret
  exact ⟨by first|rfl|(simp;done)|(simp;decide +kernel)|(simp [*];done),by repeat (first|exact Drawn0.refl _|apply Drawn0.step)⟩
def racewayref24_letter.f (a0 : Int) : Option (Bool):=(racewayref24_digit.f a0).bind fun t112 => (if t112 = true then (some true) else (if a0 ≥ 97 then (if a0 ≤ 122 then (some true) else (if a0 ≥ 65 then (if a0 ≤ 90 then (some true) else (if a0 = 95 then (some true) else (if a0 = 45 then (some true) else (some (a0 == 46))))) else (if a0 = 95 then (some true) else (if a0 = 45 then (some true) else (some (a0 == 46)))))) else (if a0 ≥ 65 then (if a0 ≤ 90 then (some true) else (if a0 = 95 then (some true) else (if a0 = 45 then (some true) else (some (a0 == 46))))) else (if a0 = 95 then (some true) else (if a0 = 45 then (some true) else (some (a0 == 46)))))))
set_option maxHeartbeats 8000000 in
set_option maxRecDepth 100000 in
theorem racewayref24_letter.calls (a0 : Int) (r : Bool) (w : World) (h : racewayref24_letter.f a0 = some r) :
  Calls Tryd.prog 31 #[.int .u8 a0] w fun e w' => e = .returned (.bool r) ∧ Drawn0 w w':=by
 have H : ((racewayref24_digit.f a0).bind fun t112 => (if t112 = true then (some true) else (if a0 ≥ 97 then (if a0 ≤ 122 then (some true) else (if a0 ≥ 65 then (if a0 ≤ 90 then (some true) else (if a0 = 95 then (some true) else (if a0 = 45 then (some true) else (some (a0 == 46))))) else (if a0 = 95 then (some true) else (if a0 = 45 then (some true) else (some (a0 == 46)))))) else (if a0 ≥ 65 then (if a0 ≤ 90 then (some true) else (if a0 = 95 then (some true) else (if a0 = 45 then (some true) else (some (a0 == 46))))) else (if a0 = 95 then (some true) else (if a0 = 45 then (some true) else (some (a0 == 46)))))))) = some r:=h
 clear h
 replace H:=Option.bind_eq_some_iff.mp H
 obtain ⟨t112,A20,H⟩:=H
 replace H : (if t112 = true then (some true) else (if a0 ≥ 97 then (if a0 ≤ 122 then (some true) else (if a0 ≥ 65 then (if a0 ≤ 90 then (some true) else (if a0 = 95 then (some true) else (if a0 = 45 then (some true) else (some (a0 == 46))))) else (if a0 = 95 then (some true) else (if a0 = 45 then (some true) else (some (a0 == 46)))))) else (if a0 ≥ 65 then (if a0 ≤ 90 then (some true) else (if a0 = 95 then (some true) else (if a0 = 45 then (some true) else (some (a0 == 46))))) else (if a0 = 95 then (some true) else (if a0 = 45 then (some true) else (some (a0 == 46))))))) = some r:=H
 have A2:=Aside0.mk A20
 clear A20
 by_cases c3 : t112 = true
 ·subst c3
  have H1 : (some true) = some r:=by rw [if_pos rfl] at H;exact H
  clear H
  have H:=H1
  clear H1
  obtain rfl:=Option.some.inj H
  go_enter Tryd.func31,Tryd.ntmps31
  go_wp2_with (first|((with_reducible refine gate_callee (f:=41) rfl ?_);refine goesL_ (some 4) rfl rfl Tryd.func41 (by kernel_rfl) rfl #[.int .u8 a0] rfl (by (try simp only [List.map_toArray,List.map_cons,List.map_nil]);first|done|rfl|(simp only [List.length_drop,List.length_take];rfl)) ?_;(with_reducible refine (racewayref24_digit.calls a0 true _ A2.out).mono ?_);rintro e w' ⟨rfl,⟨nd,rfl⟩⟩;refine ⟨_,rfl,?_⟩))
  go_ret
  exact ⟨by first|rfl|(simp;done)|(simp;decide +kernel)|(simp [*];done),by repeat (first|exact Drawn0.refl _|apply Drawn0.step)⟩
 ·replace c3:=Bool.eq_false_iff.mpr c3
  subst c3
  have H1 : (if a0 ≥ 97 then (if a0 ≤ 122 then (some true) else (if a0 ≥ 65 then (if a0 ≤ 90 then (some true) else (if a0 = 95 then (some true) else (if a0 = 45 then (some true) else (some (a0 == 46))))) else (if a0 = 95 then (some true) else (if a0 = 45 then (some true) else (some (a0 == 46)))))) else (if a0 ≥ 65 then (if a0 ≤ 90 then (some true) else (if a0 = 95 then (some true) else (if a0 = 45 then (some true) else (some (a0 == 46))))) else (if a0 = 95 then (some true) else (if a0 = 45 then (some true) else (some (a0 == 46)))))) = some r:=by rw [if_neg (show ¬ (false = true) by decide)] at H;exact H
  clear H
  have H:=H1
  clear H1
  by_cases c4 : a0 ≥ 97
  ·rw [if_pos c4] at H
   have c4b0 : decide (97 ≤ a0) = true:=decide_eq_true c4
   clear c4
   by_cases c5 : a0 ≤ 122
   ·rw [if_pos c5] at H
    have c5b0 : decide (a0 ≤ 122) = true:=decide_eq_true c5
    clear c5
    obtain rfl:=Option.some.inj H
    go_enter Tryd.func31,Tryd.ntmps31
    go_wp2_with (first|((with_reducible refine gate_callee (f:=41) rfl ?_);refine goesL_ (some 4) rfl rfl Tryd.func41 (by kernel_rfl) rfl #[.int .u8 a0] rfl (by (try simp only [List.map_toArray,List.map_cons,List.map_nil]);first|done|rfl|(simp only [List.length_drop,List.length_take];rfl)) ?_;(with_reducible refine (racewayref24_digit.calls a0 false _ A2.out).mono ?_);rintro e w' ⟨rfl,⟨nd,rfl⟩⟩;refine ⟨_,rfl,?_⟩))
    go_ret
    exact ⟨by first|rfl|(simp;done)|(simp;decide +kernel)|(simp [*];done),by repeat (first|exact Drawn0.refl _|apply Drawn0.step)⟩
   ·rw [if_neg c5] at H
    have c5b0 : decide (a0 ≤ 122) = false:=decide_eq_false c5
    clear c5
    by_cases c6 : a0 ≥ 65
    ·rw [if_pos c6] at H
     have c6b0 : decide (65 ≤ a0) = true:=decide_eq_true c6
     clear c6
     by_cases c7 : a0 ≤ 90
     ·rw [if_pos c7] at H
      have c7b0 : decide (a0 ≤ 90) = true:=decide_eq_true c7
      clear c7
      obtain rfl:=Option.some.inj H
      go_enter Tryd.func31,Tryd.ntmps31
      go_wp2_with (first|((with_reducible refine gate_callee (f:=41) rfl ?_);refine goesL_ (some 4) rfl rfl Tryd.func41 (by kernel_rfl) rfl #[.int .u8 a0] rfl (by (try simp only [List.map_toArray,List.map_cons,List.map_nil]);first|done|rfl|(simp only [List.length_drop,List.length_take];rfl)) ?_;(with_reducible refine (racewayref24_digit.calls a0 false _ A2.out).mono ?_);rintro e w' ⟨rfl,⟨nd,rfl⟩⟩;refine ⟨_,rfl,?_⟩))
      go_ret
      exact ⟨by first|rfl|(simp;done)|(simp;decide +kernel)|(simp [*];done),by repeat (first|exact Drawn0.refl _|apply Drawn0.step)⟩
     ·rw [if_neg c7] at H
      have c7b0 : decide (a0 ≤ 90) = false:=decide_eq_false c7
      clear c7
      by_cases c8 : a0 = 95
      ·rw [if_pos c8] at H
       have c8b0 : (a0 == 95) = true:=beq_iff_eq.mpr c8
       have c8b1 : (a0 != 95) = false:=bne_eq_false_iff_eq.mpr c8
       clear c8
       obtain rfl:=Option.some.inj H
       go_enter Tryd.func31,Tryd.ntmps31
       go_wp2_with (first|((with_reducible refine gate_callee (f:=41) rfl ?_);refine goesL_ (some 4) rfl rfl Tryd.func41 (by kernel_rfl) rfl #[.int .u8 a0] rfl (by (try simp only [List.map_toArray,List.map_cons,List.map_nil]);first|done|rfl|(simp only [List.length_drop,List.length_take];rfl)) ?_;(with_reducible refine (racewayref24_digit.calls a0 false _ A2.out).mono ?_);rintro e w' ⟨rfl,⟨nd,rfl⟩⟩;refine ⟨_,rfl,?_⟩))
       go_ret
       exact ⟨by first|rfl|(simp;done)|(simp;decide +kernel)|(simp [*];done),by repeat (first|exact Drawn0.refl _|apply Drawn0.step)⟩
      ·rw [if_neg c8] at H
       have c8b0 : (a0 == 95) = false:=beq_eq_false_iff_ne.mpr c8
       have c8b1 : (a0 != 95) = true:=bne_iff_ne.mpr c8
       by_cases c9 : a0 = 45
       ·rw [if_pos c9] at H
        have c9b0 : (a0 == 45) = true:=beq_iff_eq.mpr c9
        have c9b1 : (a0 != 45) = false:=bne_eq_false_iff_eq.mpr c9
        clear c9
        obtain rfl:=Option.some.inj H
        go_enter Tryd.func31,Tryd.ntmps31
        go_wp2_with (first|((with_reducible refine gate_callee (f:=41) rfl ?_);refine goesL_ (some 4) rfl rfl Tryd.func41 (by kernel_rfl) rfl #[.int .u8 a0] rfl (by (try simp only [List.map_toArray,List.map_cons,List.map_nil]);first|done|rfl|(simp only [List.length_drop,List.length_take];rfl)) ?_;(with_reducible refine (racewayref24_digit.calls a0 false _ A2.out).mono ?_);rintro e w' ⟨rfl,⟨nd,rfl⟩⟩;refine ⟨_,rfl,?_⟩))
        go_ret
        exact ⟨by first|rfl|(simp;done)|(simp;decide +kernel)|(simp [*];done),by repeat (first|exact Drawn0.refl _|apply Drawn0.step)⟩
       ·rw [if_neg c9] at H
        have c9b0 : (a0 == 45) = false:=beq_eq_false_iff_ne.mpr c9
        have c9b1 : (a0 != 45) = true:=bne_iff_ne.mpr c9
        obtain rfl:=Option.some.inj H
        go_enter Tryd.func31,Tryd.ntmps31
        go_wp2_with (first|((with_reducible refine gate_callee (f:=41) rfl ?_);refine goesL_ (some 4) rfl rfl Tryd.func41 (by kernel_rfl) rfl #[.int .u8 a0] rfl (by (try simp only [List.map_toArray,List.map_cons,List.map_nil]);first|done|rfl|(simp only [List.length_drop,List.length_take];rfl)) ?_;(with_reducible refine (racewayref24_digit.calls a0 false _ A2.out).mono ?_);rintro e w' ⟨rfl,⟨nd,rfl⟩⟩;refine ⟨_,rfl,?_⟩))
        go_ret
        exact ⟨by first|rfl|(simp;done)|(simp;decide +kernel)|(simp [*];done),by repeat (first|exact Drawn0.refl _|apply Drawn0.step)⟩
    ·rw [if_neg c6] at H
     have c6b0 : decide (65 ≤ a0) = false:=decide_eq_false c6
     clear c6
     by_cases c10 : a0 = 95
     ·rw [if_pos c10] at H
      have c10b0 : (a0 == 95) = true:=beq_iff_eq.mpr c10
      have c10b1 : (a0 != 95) = false:=bne_eq_false_iff_eq.mpr c10
      clear c10
      obtain rfl:=Option.some.inj H
      go_enter Tryd.func31,Tryd.ntmps31
      go_wp2_with (first|((with_reducible refine gate_callee (f:=41) rfl ?_);refine goesL_ (some 4) rfl rfl Tryd.func41 (by kernel_rfl) rfl #[.int .u8 a0] rfl (by (try simp only [List.map_toArray,List.map_cons,List.map_nil]);first|done|rfl|(simp only [List.length_drop,List.length_take];rfl)) ?_;(with_reducible refine (racewayref24_digit.calls a0 false _ A2.out).mono ?_);rintro e w' ⟨rfl,⟨nd,rfl⟩⟩;refine ⟨_,rfl,?_⟩))
      go_ret
      exact ⟨by first|rfl|(simp;done)|(simp;decide +kernel)|(simp [*];done),by repeat (first|exact Drawn0.refl _|apply Drawn0.step)⟩
     ·rw [if_neg c10] at H
      have c10b0 : (a0 == 95) = false:=beq_eq_false_iff_ne.mpr c10
      have c10b1 : (a0 != 95) = true:=bne_iff_ne.mpr c10
      by_cases c11 : a0 = 45
      ·rw [if_pos c11] at H
       have c11b0 : (a0 == 45) = true:=beq_iff_eq.mpr c11
       have c11b1 : (a0 != 45) = false:=bne_eq_false_iff_eq.mpr c11
       clear c11
       obtain rfl:=Option.some.inj H
       go_enter Tryd.func31,Tryd.ntmps31
       go_wp2_with (first|((with_reducible refine gate_callee (f:=41) rfl ?_);refine goesL_ (some 4) rfl rfl Tryd.func41 (by kernel_rfl) rfl #[.int .u8 a0] rfl (by (try simp only [List.map_toArray,List.map_cons,List.map_nil]);first|done|rfl|(simp only [List.length_drop,List.length_take];rfl)) ?_;(with_reducible refine (racewayref24_digit.calls a0 false _ A2.out).mono ?_);rintro e w' ⟨rfl,⟨nd,rfl⟩⟩;refine ⟨_,rfl,?_⟩))
       go_ret
       exact ⟨by first|rfl|(simp;done)|(simp;decide +kernel)|(simp [*];done),by repeat (first|exact Drawn0.refl _|apply Drawn0.step)⟩
      ·rw [if_neg c11] at H
       have c11b0 : (a0 == 45) = false:=beq_eq_false_iff_ne.mpr c11
       have c11b1 : (a0 != 45) = true:=bne_iff_ne.mpr c11
       obtain rfl:=Option.some.inj H
       go_enter Tryd.func31,Tryd.ntmps31
       go_wp2_with (first|((with_reducible refine gate_callee (f:=41) rfl ?_);refine goesL_ (some 4) rfl rfl Tryd.func41 (by kernel_rfl) rfl #[.int .u8 a0] rfl (by (try simp only [List.map_toArray,List.map_cons,List.map_nil]);first|done|rfl|(simp only [List.length_drop,List.length_take];rfl)) ?_;(with_reducible refine (racewayref24_digit.calls a0 false _ A2.out).mono ?_);rintro e w' ⟨rfl,⟨nd,rfl⟩⟩;refine ⟨_,rfl,?_⟩))
       go_ret
       exact ⟨by first|rfl|(simp;done)|(simp;decide +kernel)|(simp [*];done),by repeat (first|exact Drawn0.refl _|apply Drawn0.step)⟩
  ·rw [if_neg c4] at H
   have c4b0 : decide (97 ≤ a0) = false:=decide_eq_false c4
   clear c4
   by_cases c12 : a0 ≥ 65
   ·rw [if_pos c12] at H
    have c12b0 : decide (65 ≤ a0) = true:=decide_eq_true c12
    clear c12
    by_cases c13 : a0 ≤ 90
    ·rw [if_pos c13] at H
     have c13b0 : decide (a0 ≤ 90) = true:=decide_eq_true c13
     clear c13
     obtain rfl:=Option.some.inj H
     go_enter Tryd.func31,Tryd.ntmps31
     go_wp2_with (first|((with_reducible refine gate_callee (f:=41) rfl ?_);refine goesL_ (some 4) rfl rfl Tryd.func41 (by kernel_rfl) rfl #[.int .u8 a0] rfl (by (try simp only [List.map_toArray,List.map_cons,List.map_nil]);first|done|rfl|(simp only [List.length_drop,List.length_take];rfl)) ?_;(with_reducible refine (racewayref24_digit.calls a0 false _ A2.out).mono ?_);rintro e w' ⟨rfl,⟨nd,rfl⟩⟩;refine ⟨_,rfl,?_⟩))
     go_ret
     exact ⟨by first|rfl|(simp;done)|(simp;decide +kernel)|(simp [*];done),by repeat (first|exact Drawn0.refl _|apply Drawn0.step)⟩
    ·rw [if_neg c13] at H
     have c13b0 : decide (a0 ≤ 90) = false:=decide_eq_false c13
     clear c13
     by_cases c14 : a0 = 95
     ·rw [if_pos c14] at H
      have c14b0 : (a0 == 95) = true:=beq_iff_eq.mpr c14
      have c14b1 : (a0 != 95) = false:=bne_eq_false_iff_eq.mpr c14
      clear c14
      obtain rfl:=Option.some.inj H
      go_enter Tryd.func31,Tryd.ntmps31
      go_wp2_with (first|((with_reducible refine gate_callee (f:=41) rfl ?_);refine goesL_ (some 4) rfl rfl Tryd.func41 (by kernel_rfl) rfl #[.int .u8 a0] rfl (by (try simp only [List.map_toArray,List.map_cons,List.map_nil]);first|done|rfl|(simp only [List.length_drop,List.length_take];rfl)) ?_;(with_reducible refine (racewayref24_digit.calls a0 false _ A2.out).mono ?_);rintro e w' ⟨rfl,⟨nd,rfl⟩⟩;refine ⟨_,rfl,?_⟩))
      go_ret
      exact ⟨by first|rfl|(simp;done)|(simp;decide +kernel)|(simp [*];done),by repeat (first|exact Drawn0.refl _|apply Drawn0.step)⟩
     ·rw [if_neg c14] at H
      have c14b0 : (a0 == 95) = false:=beq_eq_false_iff_ne.mpr c14
      have c14b1 : (a0 != 95) = true:=bne_iff_ne.mpr c14
      by_cases c15 : a0 = 45
      ·rw [if_pos c15] at H
       have c15b0 : (a0 == 45) = true:=beq_iff_eq.mpr c15
       have c15b1 : (a0 != 45) = false:=bne_eq_false_iff_eq.mpr c15
       clear c15
       obtain rfl:=Option.some.inj H
       go_enter Tryd.func31,Tryd.ntmps31
       go_wp2_with (first|((with_reducible refine gate_callee (f:=41) rfl ?_);refine goesL_ (some 4) rfl rfl Tryd.func41 (by kernel_rfl) rfl #[.int .u8 a0] rfl (by (try simp only [List.map_toArray,List.map_cons,List.map_nil]);first|done|rfl|(simp only [List.length_drop,List.length_take];rfl)) ?_;(with_reducible refine (racewayref24_digit.calls a0 false _ A2.out).mono ?_);rintro e w' ⟨rfl,⟨nd,rfl⟩⟩;refine ⟨_,rfl,?_⟩))
       go_ret
       exact ⟨by first|rfl|(simp;done)|(simp;decide +kernel)|(simp [*];done),by repeat (first|exact Drawn0.refl _|apply Drawn0.step)⟩
      ·rw [if_neg c15] at H
       have c15b0 : (a0 == 45) = false:=beq_eq_false_iff_ne.mpr c15
       have c15b1 : (a0 != 45) = true:=bne_iff_ne.mpr c15
       obtain rfl:=Option.some.inj H
       go_enter Tryd.func31,Tryd.ntmps31
       go_wp2_with (first|((with_reducible refine gate_callee (f:=41) rfl ?_);refine goesL_ (some 4) rfl rfl Tryd.func41 (by kernel_rfl) rfl #[.int .u8 a0] rfl (by (try simp only [List.map_toArray,List.map_cons,List.map_nil]);first|done|rfl|(simp only [List.length_drop,List.length_take];rfl)) ?_;(with_reducible refine (racewayref24_digit.calls a0 false _ A2.out).mono ?_);rintro e w' ⟨rfl,⟨nd,rfl⟩⟩;refine ⟨_,rfl,?_⟩))
       go_ret
       exact ⟨by first|rfl|(simp;done)|(simp;decide +kernel)|(simp [*];done),by repeat (first|exact Drawn0.refl _|apply Drawn0.step)⟩
   ·rw [if_neg c12] at H
    have c12b0 : decide (65 ≤ a0) = false:=decide_eq_false c12
    clear c12
    by_cases c16 : a0 = 95
    ·rw [if_pos c16] at H
     have c16b0 : (a0 == 95) = true:=beq_iff_eq.mpr c16
     have c16b1 : (a0 != 95) = false:=bne_eq_false_iff_eq.mpr c16
     clear c16
     obtain rfl:=Option.some.inj H
     go_enter Tryd.func31,Tryd.ntmps31
     go_wp2_with (first|((with_reducible refine gate_callee (f:=41) rfl ?_);refine goesL_ (some 4) rfl rfl Tryd.func41 (by kernel_rfl) rfl #[.int .u8 a0] rfl (by (try simp only [List.map_toArray,List.map_cons,List.map_nil]);first|done|rfl|(simp only [List.length_drop,List.length_take];rfl)) ?_;(with_reducible refine (racewayref24_digit.calls a0 false _ A2.out).mono ?_);rintro e w' ⟨rfl,⟨nd,rfl⟩⟩;refine ⟨_,rfl,?_⟩))
     go_ret
     exact ⟨by first|rfl|(simp;done)|(simp;decide +kernel)|(simp [*];done),by repeat (first|exact Drawn0.refl _|apply Drawn0.step)⟩
    ·rw [if_neg c16] at H
     have c16b0 : (a0 == 95) = false:=beq_eq_false_iff_ne.mpr c16
     have c16b1 : (a0 != 95) = true:=bne_iff_ne.mpr c16
     by_cases c17 : a0 = 45
     ·rw [if_pos c17] at H
      have c17b0 : (a0 == 45) = true:=beq_iff_eq.mpr c17
      have c17b1 : (a0 != 45) = false:=bne_eq_false_iff_eq.mpr c17
      clear c17
      obtain rfl:=Option.some.inj H
      go_enter Tryd.func31,Tryd.ntmps31
      go_wp2_with (first|((with_reducible refine gate_callee (f:=41) rfl ?_);refine goesL_ (some 4) rfl rfl Tryd.func41 (by kernel_rfl) rfl #[.int .u8 a0] rfl (by (try simp only [List.map_toArray,List.map_cons,List.map_nil]);first|done|rfl|(simp only [List.length_drop,List.length_take];rfl)) ?_;(with_reducible refine (racewayref24_digit.calls a0 false _ A2.out).mono ?_);rintro e w' ⟨rfl,⟨nd,rfl⟩⟩;refine ⟨_,rfl,?_⟩))
      go_ret
      exact ⟨by first|rfl|(simp;done)|(simp;decide +kernel)|(simp [*];done),by repeat (first|exact Drawn0.refl _|apply Drawn0.step)⟩
     ·rw [if_neg c17] at H
      have c17b0 : (a0 == 45) = false:=beq_eq_false_iff_ne.mpr c17
      have c17b1 : (a0 != 45) = true:=bne_iff_ne.mpr c17
      obtain rfl:=Option.some.inj H
      go_enter Tryd.func31,Tryd.ntmps31
      go_wp2_with (first|((with_reducible refine gate_callee (f:=41) rfl ?_);refine goesL_ (some 4) rfl rfl Tryd.func41 (by kernel_rfl) rfl #[.int .u8 a0] rfl (by (try simp only [List.map_toArray,List.map_cons,List.map_nil]);first|done|rfl|(simp only [List.length_drop,List.length_take];rfl)) ?_;(with_reducible refine (racewayref24_digit.calls a0 false _ A2.out).mono ?_);rintro e w' ⟨rfl,⟨nd,rfl⟩⟩;refine ⟨_,rfl,?_⟩))
      go_ret
      exact ⟨by first|rfl|(simp;done)|(simp;decide +kernel)|(simp [*];done),by repeat (first|exact Drawn0.refl _|apply Drawn0.step)⟩
end Go.Proofs.YtolpefnedpgaaaaDoor.X
namespace Go.Proofs.YtolpefnedpgaaaaDoor.X
open Go.RowKit Go.Proofs.YtolpefnedpgaaaaDoorW.PrintWords Go.Proofs.YtolpefnedpgaaaaDoorW.PrintLast Go.Proofs.YtolpefnedpgaaaaDoorW.PrintMore
attribute [local go_sem] max2_int min2_int max_two min_two max_three min_three max_four min_four
set_option linter.unusedVariables false
set_option linter.unusedSimpArgs false
mutual
def racewayref24_Type.l0 : Nat → ByteArray → List ByteArray → Int → Option (Int × Bool)
 | 0,_,_,_ => none
 | k + 1,x0,x4,x5 => if x5 < 3 then (if 0 ≤ x5 then (if x5 < (x4.length : Int) then (if (x0.size : Int) < ((rdOf ByteArray.empty x4 x5).size : Int) then (racewayref24_Type.j1 k x0 x4 x5 ((rdOf ByteArray.empty x4 x5).size : Int) true) else (if 0 ≤ ((rdOf ByteArray.empty x4 x5).size : Int) then (if ((rdOf ByteArray.empty x4 x5).size : Int) ≤ (x0.size : Int) then (racewayref24_Type.j1 k x0 x4 x5 ((rdOf ByteArray.empty x4 x5).size : Int) ((x0.extract 0 (((rdOf ByteArray.empty x4 x5).size : Int) : Int).toNat).toList != (rdOf ByteArray.empty x4 x5).toList)) else (none)) else (none))) else (none)) else (none)) else (some (0,false))
def racewayref24_Type.j1 : Nat → ByteArray → List ByteArray → Int → Int → Bool → Option (Int × Bool)
 | 0,_,_,_,_,_ => none
 | k + 1,x0,x4,x5,x6,x32 => if x32 = true then (racewayref24_Type.l0 k x0 x4 (wrap64 (x5 + 1))) else (if (x0.size : Int) = x6 then (some (wrap64 (x5 + 1),true)) else (if 0 ≤ x6 then (if x6 < (x0.size : Int) then (if (bt x0 x6) = 46 then (if (x0.size : Int) > (wrap64 (x6 + 1)) then (racewayref24_Type.j2 k x0 x4 x5 x6 (decide ((x0.size : Int) ≤ (wrap64 (x6 + 33))))) else (racewayref24_Type.j2 k x0 x4 x5 x6 false)) else (racewayref24_Type.j2 k x0 x4 x5 x6 false)) else (none)) else (none)))
def racewayref24_Type.j2 : Nat → ByteArray → List ByteArray → Int → Int → Bool → Option (Int × Bool)
 | 0,_,_,_,_,_ => none
 | k + 1,x0,x4,x5,x6,x7 => racewayref24_Type.l1 k x0 x4 x5 x7 (wrap64 (x6 + 1))
def racewayref24_Type.l1 : Nat → ByteArray → List ByteArray → Int → Bool → Int → Option (Int × Bool)
 | 0,_,_,_,_,_ => none
 | k + 1,x0,x4,x5,x7,x8 => if x8 < (x0.size : Int) then (if x7 = true then (if 0 ≤ x8 then ((racewayref24_letter.f (bt x0 x8)).bind fun t118 => (racewayref24_Type.l1 k x0 x4 x5 t118 (wrap64 (x8 + 1)))) else (none)) else (racewayref24_Type.l1 k x0 x4 x5 false (wrap64 (x8 + 1)))) else (if x7 = true then (some (wrap64 (x5 + 1),true)) else (racewayref24_Type.l0 k x0 x4 (wrap64 (x5 + 1))))
end
def racewayref24_Type.f (k : Nat) (a0 : ByteArray) : Option (Int × Bool):=racewayref24_Type.l0 k a0 (([(⟨#[83,116,114,105,110,103]⟩ : ByteArray),(⟨#[78,117,109,98,101,114]⟩ : ByteArray),(⟨#[66,105,110,97,114,121]⟩ : ByteArray)] : List ByteArray)) 0
set_option maxHeartbeats 8000000 in
set_option maxRecDepth 100000 in
theorem racewayref24_Type.calls (k : Nat) (a0 : ByteArray) (r1 : Int) (r2 : Bool) (w : World) (h : racewayref24_Type.f k a0 = some (r1,r2)) :
  Calls Tryd.prog 11 #[.string a0] w fun e w' => e = .returned (.tuple #[.int .i64 r1,.bool r2]) ∧ Below w.heap.size w w':=by
 have HB:=Aside0.mk (Below.refl w.heap.size w)
 have H : (racewayref24_Type.l0 k a0 (([(⟨#[83,116,114,105,110,103]⟩ : ByteArray),(⟨#[78,117,109,98,101,114]⟩ : ByteArray),(⟨#[66,105,110,97,114,121]⟩ : ByteArray)] : List ByteArray)) 0) = some (r1,r2):=h
 clear h
 obtain ⟨y113,hy113⟩ : ∃ y_ : List ByteArray,y_ = (([(⟨#[83,116,114,105,110,103]⟩ : ByteArray),(⟨#[78,117,109,98,101,114]⟩ : ByteArray),(⟨#[66,105,110,97,114,121]⟩ : ByteArray)] : List ByteArray)):=⟨_,rfl⟩
 replace H : (racewayref24_Type.l0 k a0 y113 0) = some (r1,r2):=by first|(rw [hy113];with_reducible exact H)|(have H2_:=(Option.bind_some _ _).symm.trans H;rw [hy113];with_reducible exact H2_)|(have H2_:=(Option.bind_some _ _).symm.trans H;with_reducible exact H2_)|with_reducible exact H|(rw [hy113];exact H)|exact H
 have Ny113:=Aside0.mk hy113
 clear hy113
 have H':=Aside0.mk H
 clear H
 go_enter Tryd.func11,Tryd.ntmps11
 go_wp2_with (first|((with_reducible refine gate_dst (N:=9) rfl ?_);(try (refine gate_guard (by rfl) ?_;dsimp only));refine Kd.R_lit Kd.string _ 9 ?hg (N:=9) ?hd (xs:=([(⟨#[83,116,114,105,110,103]⟩ : ByteArray),(⟨#[78,117,109,98,101,114]⟩ : ByteArray),(⟨#[66,105,110,97,114,121]⟩ : ByteArray)] : List ByteArray)) (inner:=[.string (⟨#[83,116,114,105,110,103]⟩ : ByteArray),.string (⟨#[78,117,109,98,101,114]⟩ : ByteArray),.string (⟨#[66,105,110,97,114,121]⟩ : ByteArray)]) (ok:=fun _ => True) (okp:=fun _ => True) ?hr ?hp (fun _ hk => hk) trivial (Below.refl _ _) (Nat.le_refl _) (by simp) ?_;(case hd => rfl);(case hg => rfl);(case hr => first|(go_simp;done)|(go_simp;rfl));(case hp => exact (Reps.one (show Kd.M Kd.string _ _ _ (⟨#[83,116,114,105,110,103]⟩ : ByteArray) [.string (⟨#[83,116,114,105,110,103]⟩ : ByteArray)] from rfl) (Reps.one (show Kd.M Kd.string _ _ _ (⟨#[78,117,109,98,101,114]⟩ : ByteArray) [.string (⟨#[78,117,109,98,101,114]⟩ : ByteArray)] from rfl) (Reps.one (show Kd.M Kd.string _ _ _ (⟨#[66,105,110,97,114,121]⟩ : ByteArray) [.string (⟨#[66,105,110,97,114,121]⟩ : ByteArray)] from rfl) (Reps.none _ _)))));intro v114 w2 ho3 hb hg_ hnew_;clear hg_ hnew_;(first|rw [← Ny113.out] at ho3|(simp only [Int.reduceToNat] at ho3;rw [← Ny113.out] at ho3));have n0_:=Aside0.mk (Kd.R_lower ho3 (below_size (by repeat (first|(with_reducible first|exact HB.out|apply below_alloc|apply pw_below_drewN|apply below_drew1)|exact HB.out))));have n1_:=Aside0.mk (below_step (by repeat (first|(with_reducible first|exact HB.out|apply below_alloc|apply pw_below_drewN|apply below_drew1)|exact HB.out)) hb);clear HB;have HO115:=n0_;have HB:=n1_;clear n0_ n1_;clear hb ho3))
 repeat (go_quiet (first|((with_reducible refine gate_dst (N:=9) rfl ?_);(try (refine gate_guard (by rfl) ?_;dsimp only));refine Kd.R_lit Kd.string _ 9 ?hg (N:=9) ?hd (xs:=([(⟨#[83,116,114,105,110,103]⟩ : ByteArray),(⟨#[78,117,109,98,101,114]⟩ : ByteArray),(⟨#[66,105,110,97,114,121]⟩ : ByteArray)] : List ByteArray)) (inner:=[.string (⟨#[83,116,114,105,110,103]⟩ : ByteArray),.string (⟨#[78,117,109,98,101,114]⟩ : ByteArray),.string (⟨#[66,105,110,97,114,121]⟩ : ByteArray)]) (ok:=fun _ => True) (okp:=fun _ => True) ?hr ?hp (fun _ hk => hk) trivial (Below.refl _ _) (Nat.le_refl _) (by simp) ?_;(case hd => rfl);(case hg => rfl);(case hr => first|(go_simp;done)|(go_simp;rfl));(case hp => exact (Reps.one (show Kd.M Kd.string _ _ _ (⟨#[83,116,114,105,110,103]⟩ : ByteArray) [.string (⟨#[83,116,114,105,110,103]⟩ : ByteArray)] from rfl) (Reps.one (show Kd.M Kd.string _ _ _ (⟨#[78,117,109,98,101,114]⟩ : ByteArray) [.string (⟨#[78,117,109,98,101,114]⟩ : ByteArray)] from rfl) (Reps.one (show Kd.M Kd.string _ _ _ (⟨#[66,105,110,97,114,121]⟩ : ByteArray) [.string (⟨#[66,105,110,97,114,121]⟩ : ByteArray)] from rfl) (Reps.none _ _)))));intro v114 w2 ho3 hb hg_ hnew_;clear hg_ hnew_;(first|rw [← Ny113.out] at ho3|(simp only [Int.reduceToNat] at ho3;rw [← Ny113.out] at ho3));have n0_:=Aside0.mk (Kd.R_lower ho3 (below_size (by repeat (first|(with_reducible first|exact HB.out|apply below_alloc|apply pw_below_drewN|apply below_drew1)|exact HB.out))));have n1_:=Aside0.mk (below_step (by repeat (first|(with_reducible first|exact HB.out|apply below_alloc|apply pw_below_drewN|apply below_drew1)|exact HB.out)) hb);clear HB;have HO115:=n0_;have HB:=n1_;clear n0_ n1_;clear hb ho3));try go_wp2_with (first|((with_reducible refine gate_dst (N:=9) rfl ?_);(try (refine gate_guard (by rfl) ?_;dsimp only));refine Kd.R_lit Kd.string _ 9 ?hg (N:=9) ?hd (xs:=([(⟨#[83,116,114,105,110,103]⟩ : ByteArray),(⟨#[78,117,109,98,101,114]⟩ : ByteArray),(⟨#[66,105,110,97,114,121]⟩ : ByteArray)] : List ByteArray)) (inner:=[.string (⟨#[83,116,114,105,110,103]⟩ : ByteArray),.string (⟨#[78,117,109,98,101,114]⟩ : ByteArray),.string (⟨#[66,105,110,97,114,121]⟩ : ByteArray)]) (ok:=fun _ => True) (okp:=fun _ => True) ?hr ?hp (fun _ hk => hk) trivial (Below.refl _ _) (Nat.le_refl _) (by simp) ?_;(case hd => rfl);(case hg => rfl);(case hr => first|(go_simp;done)|(go_simp;rfl));(case hp => exact (Reps.one (show Kd.M Kd.string _ _ _ (⟨#[83,116,114,105,110,103]⟩ : ByteArray) [.string (⟨#[83,116,114,105,110,103]⟩ : ByteArray)] from rfl) (Reps.one (show Kd.M Kd.string _ _ _ (⟨#[78,117,109,98,101,114]⟩ : ByteArray) [.string (⟨#[78,117,109,98,101,114]⟩ : ByteArray)] from rfl) (Reps.one (show Kd.M Kd.string _ _ _ (⟨#[66,105,110,97,114,121]⟩ : ByteArray) [.string (⟨#[66,105,110,97,114,121]⟩ : ByteArray)] from rfl) (Reps.none _ _)))));intro v114 w2 ho3 hb hg_ hnew_;clear hg_ hnew_;(first|rw [← Ny113.out] at ho3|(simp only [Int.reduceToNat] at ho3;rw [← Ny113.out] at ho3));have n0_:=Aside0.mk (Kd.R_lower ho3 (below_size (by repeat (first|(with_reducible first|exact HB.out|apply below_alloc|apply pw_below_drewN|apply below_drew1)|exact HB.out))));have n1_:=Aside0.mk (below_step (by repeat (first|(with_reducible first|exact HB.out|apply below_alloc|apply pw_below_drewN|apply below_drew1)|exact HB.out)) hb);clear HB;have HO115:=n0_;have HB:=n1_;clear n0_ n1_;clear hb ho3)))
 go_loopg [5] k (fun kq v5 w' => ∃ (x5_1 : Int),v5 = .int .i64 x5_1 ∧ Aside0 (racewayref24_Type.l0 kq a0 y113 x5_1 = some (r1,r2)) ∧ Aside0 (kq ≤ k) ∧ Aside0 (Kd.R Kd.string 9 w' w.heap.size (fun _ => True) v114 y113) ∧ Aside0 (Below w.heap.size w w'))
 case atStart => exact ⟨(0),(by first|rfl|(simp;done)|(simp;decide +kernel)|(simp [*];done)),(by first|exact H'|(subst_vars;exact H')),⟨Nat.le_refl _⟩,⟨by (with_reducible repeat (first|apply Kd.R_alloc|apply Kd.R_drewN|apply Kd.R_drew));exact HO115.out⟩,⟨by repeat (first|(with_reducible first|exact HB.out|apply below_alloc|apply pw_below_drewN|apply below_drew1)|exact HB.out)⟩⟩
 case round =>
  clear H'
  try clear c1
  try clear p2
  obtain ⟨x5_1,rfl,HA,HK1,HO_4,HB⟩:=hrel
  cases gk with
  | zero => exact absurd HA.out (by simp [racewayref24_Type.l0])
  | succ k1 =>
   have H:=HA.out
   clear HA
   simp only [racewayref24_Type.l0] at H
   by_cases c4 : x5_1 < 3
   ·rw [if_pos c4] at H
    have c4b0 : decide (x5_1 < 3) = true:=decide_eq_true c4
    clear c4
    by_cases c5 : 0 ≤ x5_1
    ·rw [if_pos c5] at H
     have c5b0 : decide (0 ≤ x5_1) = true:=decide_eq_true c5
     clear c5
     by_cases c6 : x5_1 < (y113.length : Int)
     ·rw [if_pos c6] at H
      have c6b0 : decide (x5_1 < (y113.length : Int)) = true:=decide_eq_true c6
      clear c6
      have HC7:=Aside0.mk H
      clear H
      obtain ⟨Ao8,co8,eo8⟩:=Kd.R_slice HO_4.out
      subst eo8
      have p116 : 0 ≤ (x5_1 : Int):=of_decide_eq_true (by first|(with_reducible assumption)|assumption)
      have q116 : x5_1 < (y113.length : Int):=of_decide_eq_true (by first|(with_reducible assumption)|assumption)
      obtain ⟨ad116,e116,hx116_0⟩:=Kd.at_string (Kd.R_reads' HO_4.out).2.2 x5_1 p116 q116
      cases e116
      replace p116:=eq_true p116
      replace q116:=eq_true q116
      go_upto_region 6 with (fail)
      repeat (go_quiet (fail);go_upto_region 6 with (fail))
      go_cut [32] (fun v32 wc => ∃ (kq : Nat) (x32_6 : Bool),v32 = .bool x32_6 ∧ Aside0 (racewayref24_Type.j1 kq a0 y113 x5_1 ((rdOf ByteArray.empty y113 x5_1).size : Int) x32_6 = some (r1,r2)) ∧ Aside0 (kq ≤ k1) ∧ Aside0 (Kd.R Kd.string 9 wc w.heap.size (fun _ => True) (.slice (some ad116) y113.length co8) y113) ∧ Aside0 (Below w.heap.size w wc))
      case first =>
       have H:=HC7.out
       clear HC7
       by_cases c9 : (a0.size : Int) < ((rdOf ByteArray.empty y113 x5_1).size : Int)
       ·rw [if_pos c9] at H
        have c9b0 : decide ((a0.size : Int) < ((rdOf ByteArray.empty y113 x5_1).size : Int)) = true:=decide_eq_true c9
        have c9b1 : decide (a0.size < (rdOf ByteArray.empty y113 x5_1).size) = true:=decide_eq_true (Int.ofNat_lt.mp c9)
        clear c9
        (first|rw [c9b0]|(simp only [i64_w,i32_w];rw [c9b0])|skip)
        have H':=Aside0.mk H
        clear H
        go_wp2
        repeat (go_quiet (fail);try go_wp2)
        go_meet
        case rel => exact ⟨_,(true),(by first|rfl|(simp;done)|(simp;decide +kernel)|(simp [*];done)),(by first|exact H'|(subst_vars;exact H')),⟨by have:=HK1.out;first|omega|exact Nat.le_refl _⟩,⟨by (with_reducible repeat (first|apply Kd.R_alloc|apply Kd.R_drewN|apply Kd.R_drew));exact HO_4.out⟩,⟨by repeat (first|(with_reducible first|exact HB.out|apply below_alloc|apply pw_below_drewN|apply below_drew1)|exact HB.out)⟩⟩
       ·rw [if_neg c9] at H
        have c9b0 : decide ((a0.size : Int) < ((rdOf ByteArray.empty y113 x5_1).size : Int)) = false:=decide_eq_false c9
        have c9b1 : decide (a0.size < (rdOf ByteArray.empty y113 x5_1).size) = false:=decide_eq_false (fun h => c9 (Int.ofNat_lt.mpr h))
        clear c9
        (first|rw [c9b0]|(simp only [i64_w,i32_w];rw [c9b0])|skip)
        by_cases c10 : 0 ≤ ((rdOf ByteArray.empty y113 x5_1).size : Int)
        ·rw [if_pos c10] at H
         have c10b0:=eq_true c10
         have c10b1 : decide (0 ≤ ((rdOf ByteArray.empty y113 x5_1).size : Int)) = true:=decide_eq_true c10
         clear c10
         by_cases c11 : ((rdOf ByteArray.empty y113 x5_1).size : Int) ≤ (a0.size : Int)
         ·rw [if_pos c11] at H
          have c11b0:=eq_true c11
          have c11b1 : decide (((rdOf ByteArray.empty y113 x5_1).size : Int) ≤ (a0.size : Int)) = true:=decide_eq_true c11
          clear c11
          have H':=Aside0.mk H
          clear H
          have p117 : 0 ≤ (x5_1 : Int):=of_decide_eq_true (by first|(with_reducible assumption)|assumption)
          have q117 : x5_1 < (y113.length : Int):=of_decide_eq_true (by first|(with_reducible assumption)|assumption)
          obtain ⟨ad117,e117,hx117_0⟩:=Kd.at_string (Kd.R_reads' HO_4.out).2.2 x5_1 p117 q117
          obtain rfl : ad116 = ad117:=(by injection e117)
          replace p117:=eq_true p117
          replace q117:=eq_true q117
          go_wp2
          repeat (go_quiet (fail);try go_wp2)
          go_meet
          case rel => exact ⟨_,(((a0.extract 0 (((rdOf ByteArray.empty y113 x5_1).size : Int) : Int).toNat).toList != (rdOf ByteArray.empty y113 x5_1).toList)),(by first|rfl|(simp;done)|(simp;decide +kernel)|(simp [*];done)),(by first|exact H'|(subst_vars;exact H')),⟨by have:=HK1.out;first|omega|exact Nat.le_refl _⟩,⟨by (with_reducible repeat (first|apply Kd.R_alloc|apply Kd.R_drewN|apply Kd.R_drew));exact HO_4.out⟩,⟨by repeat (first|(with_reducible first|exact HB.out|apply below_alloc|apply pw_below_drewN|apply below_drew1)|exact HB.out)⟩⟩
         ·rw [if_neg c11] at H
          exact absurd H (by simp)
        ·rw [if_neg c10] at H
         exact absurd H (by simp)
      case rest =>
       clear HC7
       try clear c1
       try clear p1
       try clear q1
       try clear hx1
       try clear p2
       try clear c4
       try clear c4b0
       try clear c5
       try clear c5b0
       try clear c6
       try clear c6b0
       try clear c9
       try clear c9b0
       try clear c9b1
       try clear c10
       try clear c10b0
       try clear c10b1
       try clear c11
       try clear c11b0
       try clear c11b1
       try clear p11
       try clear q11
       try clear hx11
       try clear hx116_0
       try clear hx117_0
       try clear p116
       try clear p117
       try clear p2
       try clear q116
       try clear q117
       obtain ⟨kq,x32_6,rfl,HA,HJ6,HO_4,HB⟩:=hcut
       cases kq with
       | zero => exact absurd HA.out (by simp [racewayref24_Type.j1])
       | succ kj6 =>
        have H:=HA.out
        clear HA
        simp only [racewayref24_Type.j1] at H
        by_cases c12 : x32_6 = true
        ·subst c12
         have H1 : (racewayref24_Type.l0 kj6 a0 y113 (wrap64 (x5_1 + 1))) = some (r1,r2):=by rw [if_pos rfl] at H;exact H
         clear H
         have H:=H1
         clear H1
         have H':=Aside0.mk H
         clear H
         go_wp2
         repeat (go_quiet (fail);try go_wp2)
         go_roundg kj6
         case measure => have:=HK1.out;have:=HJ6.out;omega
         case rel => exact ⟨(wrap64 (x5_1 + 1)),(by first|rfl|(simp;done)|(simp;decide +kernel)|(simp [*];done)),(by first|exact H'|(subst_vars;exact H')),⟨by have:=HK1.out;have:=HJ6.out;omega⟩,⟨by (with_reducible repeat (first|apply Kd.R_alloc|apply Kd.R_drewN|apply Kd.R_drew));exact HO_4.out⟩,⟨by repeat (first|(with_reducible first|exact HB.out|apply below_alloc|apply pw_below_drewN|apply below_drew1)|exact HB.out)⟩⟩
        ·replace c12:=Bool.eq_false_iff.mpr c12
         subst c12
         have H1 : (if (a0.size : Int) = ((rdOf ByteArray.empty y113 x5_1).size : Int) then (some (wrap64 (x5_1 + 1),true)) else (if 0 ≤ ((rdOf ByteArray.empty y113 x5_1).size : Int) then (if ((rdOf ByteArray.empty y113 x5_1).size : Int) < (a0.size : Int) then (if (bt a0 ((rdOf ByteArray.empty y113 x5_1).size : Int)) = 46 then (if (a0.size : Int) > (wrap64 (((rdOf ByteArray.empty y113 x5_1).size : Int) + 1)) then (racewayref24_Type.j2 kj6 a0 y113 x5_1 ((rdOf ByteArray.empty y113 x5_1).size : Int) (decide ((a0.size : Int) ≤ (wrap64 (((rdOf ByteArray.empty y113 x5_1).size : Int) + 33))))) else (racewayref24_Type.j2 kj6 a0 y113 x5_1 ((rdOf ByteArray.empty y113 x5_1).size : Int) false)) else (racewayref24_Type.j2 kj6 a0 y113 x5_1 ((rdOf ByteArray.empty y113 x5_1).size : Int) false)) else (none)) else (none))) = some (r1,r2):=by rw [if_neg (show ¬ (false = true) by decide)] at H;exact H
         clear H
         have H:=H1
         clear H1
         by_cases c13 : (a0.size : Int) = ((rdOf ByteArray.empty y113 x5_1).size : Int)
         ·rw [if_pos c13] at H
          have c13b0 : ((a0.size : Int) == ((rdOf ByteArray.empty y113 x5_1).size : Int)) = true:=beq_iff_eq.mpr c13
          have c13b1 : ((a0.size : Int) != ((rdOf ByteArray.empty y113 x5_1).size : Int)) = false:=bne_eq_false_iff_eq.mpr c13
          have c13b2 : (a0.size == (rdOf ByteArray.empty y113 x5_1).size) = true:=by first|simpa using c13|(simp at c13 ⊢;omega)
          clear c13
          simp only [Option.some.injEq,Prod.mk.injEq] at H
          obtain ⟨rfl,rfl⟩:=H
          go_wp2
          repeat (go_quiet (fail);try go_wp2)
          go_ret2
          exact ⟨by first|rfl|(simp [errW_none,errW_some] <;> rfl)|(simp [*,errW_none,errW_some] <;> rfl),by repeat (first|(with_reducible first|exact HB.out|apply below_alloc|apply pw_below_drewN|apply below_drew1)|exact HB.out)⟩
         ·rw [if_neg c13] at H
          have c13b0 : ((a0.size : Int) == ((rdOf ByteArray.empty y113 x5_1).size : Int)) = false:=beq_eq_false_iff_ne.mpr c13
          have c13b1 : ((a0.size : Int) != ((rdOf ByteArray.empty y113 x5_1).size : Int)) = true:=bne_iff_ne.mpr c13
          have c13b2 : (a0.size == (rdOf ByteArray.empty y113 x5_1).size) = false:=by first|simpa using c13|(simp at c13 ⊢;omega)
          have HC14:=Aside0.mk H
          clear H
          go_upto_region 9 with (fail)
          repeat (go_quiet (fail);go_upto_region 9 with (fail))
          go_cut [7] (fun v7 wc => ∃ (kq : Nat) (x7_13 : Bool),v7 = .bool x7_13 ∧ Aside0 (racewayref24_Type.j2 kq a0 y113 x5_1 ((rdOf ByteArray.empty y113 x5_1).size : Int) x7_13 = some (r1,r2)) ∧ Aside0 (kq ≤ kj6) ∧ Aside0 (Kd.R Kd.string 9 wc w.heap.size (fun _ => True) (.slice (some ad116) y113.length co8) y113) ∧ Aside0 (Below w.heap.size w wc))
          case first =>
           have H:=HC14.out
           clear HC14
           by_cases c15 : 0 ≤ ((rdOf ByteArray.empty y113 x5_1).size : Int)
           ·rw [if_pos c15] at H
            have c15b0 : decide (0 ≤ ((rdOf ByteArray.empty y113 x5_1).size : Int)) = true:=decide_eq_true c15
            have c15b1 : decide (0 ≤ (rdOf ByteArray.empty y113 x5_1).size) = true:=decide_eq_true (by omega)
            clear c15
            (first|rw [c15b0]|(simp only [i64_w,i32_w];rw [c15b0])|skip)
            by_cases c16 : ((rdOf ByteArray.empty y113 x5_1).size : Int) < (a0.size : Int)
            ·rw [if_pos c16] at H
             have c16b0 : decide (((rdOf ByteArray.empty y113 x5_1).size : Int) < (a0.size : Int)) = true:=decide_eq_true c16
             have c16b1 : decide ((rdOf ByteArray.empty y113 x5_1).size < a0.size) = true:=decide_eq_true (Int.ofNat_lt.mp c16)
             clear c16
             by_cases c18 : (bt a0 ((rdOf ByteArray.empty y113 x5_1).size : Int)) = 46
             ·rw [if_pos c18] at H
              have c18b0 : ((bt a0 ((rdOf ByteArray.empty y113 x5_1).size : Int)) == 46) = true:=beq_iff_eq.mpr c18
              have c18b1 : ((bt a0 ((rdOf ByteArray.empty y113 x5_1).size : Int)) != 46) = false:=bne_eq_false_iff_eq.mpr c18
              clear c18
              by_cases c19 : (a0.size : Int) > (wrap64 (((rdOf ByteArray.empty y113 x5_1).size : Int) + 1))
              ·rw [if_pos c19] at H
               have c19b0 : decide ((wrap64 (((rdOf ByteArray.empty y113 x5_1).size : Int) + 1)) < (a0.size : Int)) = true:=decide_eq_true c19
               clear c19
               have H':=Aside0.mk H
               clear H
               have p17 : 0 ≤ (((rdOf ByteArray.empty y113 x5_1).size : Int) : Int):=of_decide_eq_true (by first|(with_reducible assumption)|assumption)
               have hz17 : ∀ h : (rdOf ByteArray.empty y113 x5_1).size < a0.size,((a0[(rdOf ByteArray.empty y113 x5_1).size]'h).toNat : Int) = bt a0 ((rdOf ByteArray.empty y113 x5_1).size : Int):=bt_at a0 ((rdOf ByteArray.empty y113 x5_1).size : Int)
               have q17 : ((rdOf ByteArray.empty y113 x5_1).size : Int) < (a0.size : Int):=of_decide_eq_true (by first|(with_reducible assumption)|assumption)
               have hx17:=bt_at a0 ((rdOf ByteArray.empty y113 x5_1).size : Int)
               replace p17:=eq_true p17
               replace q17:=eq_true q17
               go_wp2
               repeat (go_quiet (fail);try go_wp2)
               go_meet
               case rel => exact ⟨_,(decide ((a0.size : Int) ≤ (wrap64 (((rdOf ByteArray.empty y113 x5_1).size : Int) + 33)))),(by first|rfl|(simp;done)|(simp;decide +kernel)|(simp [*];done)),(by first|exact H'|(subst_vars;exact H')),⟨by have:=HK1.out;have:=HJ6.out;first|omega|exact Nat.le_refl _⟩,⟨by (with_reducible repeat (first|apply Kd.R_alloc|apply Kd.R_drewN|apply Kd.R_drew));exact HO_4.out⟩,⟨by repeat (first|(with_reducible first|exact HB.out|apply below_alloc|apply pw_below_drewN|apply below_drew1)|exact HB.out)⟩⟩
              ·rw [if_neg c19] at H
               have c19b0 : decide ((wrap64 (((rdOf ByteArray.empty y113 x5_1).size : Int) + 1)) < (a0.size : Int)) = false:=decide_eq_false c19
               clear c19
               have H':=Aside0.mk H
               clear H
               have p17 : 0 ≤ (((rdOf ByteArray.empty y113 x5_1).size : Int) : Int):=of_decide_eq_true (by first|(with_reducible assumption)|assumption)
               have hz17 : ∀ h : (rdOf ByteArray.empty y113 x5_1).size < a0.size,((a0[(rdOf ByteArray.empty y113 x5_1).size]'h).toNat : Int) = bt a0 ((rdOf ByteArray.empty y113 x5_1).size : Int):=bt_at a0 ((rdOf ByteArray.empty y113 x5_1).size : Int)
               have q17 : ((rdOf ByteArray.empty y113 x5_1).size : Int) < (a0.size : Int):=of_decide_eq_true (by first|(with_reducible assumption)|assumption)
               have hx17:=bt_at a0 ((rdOf ByteArray.empty y113 x5_1).size : Int)
               replace p17:=eq_true p17
               replace q17:=eq_true q17
               go_wp2
               repeat (go_quiet (fail);try go_wp2)
               go_meet
               case rel => exact ⟨_,(false),(by first|rfl|(simp;done)|(simp;decide +kernel)|(simp [*];done)),(by first|exact H'|(subst_vars;exact H')),⟨by have:=HK1.out;have:=HJ6.out;first|omega|exact Nat.le_refl _⟩,⟨by (with_reducible repeat (first|apply Kd.R_alloc|apply Kd.R_drewN|apply Kd.R_drew));exact HO_4.out⟩,⟨by repeat (first|(with_reducible first|exact HB.out|apply below_alloc|apply pw_below_drewN|apply below_drew1)|exact HB.out)⟩⟩
             ·rw [if_neg c18] at H
              have c18b0 : ((bt a0 ((rdOf ByteArray.empty y113 x5_1).size : Int)) == 46) = false:=beq_eq_false_iff_ne.mpr c18
              have c18b1 : ((bt a0 ((rdOf ByteArray.empty y113 x5_1).size : Int)) != 46) = true:=bne_iff_ne.mpr c18
              have H':=Aside0.mk H
              clear H
              have p17 : 0 ≤ (((rdOf ByteArray.empty y113 x5_1).size : Int) : Int):=of_decide_eq_true (by first|(with_reducible assumption)|assumption)
              have hz17 : ∀ h : (rdOf ByteArray.empty y113 x5_1).size < a0.size,((a0[(rdOf ByteArray.empty y113 x5_1).size]'h).toNat : Int) = bt a0 ((rdOf ByteArray.empty y113 x5_1).size : Int):=bt_at a0 ((rdOf ByteArray.empty y113 x5_1).size : Int)
              have q17 : ((rdOf ByteArray.empty y113 x5_1).size : Int) < (a0.size : Int):=of_decide_eq_true (by first|(with_reducible assumption)|assumption)
              have hx17:=bt_at a0 ((rdOf ByteArray.empty y113 x5_1).size : Int)
              replace p17:=eq_true p17
              replace q17:=eq_true q17
              go_wp2
              repeat (go_quiet (fail);try go_wp2)
              go_meet
              case rel => exact ⟨_,(false),(by first|rfl|(simp;done)|(simp;decide +kernel)|(simp [*];done)),(by first|exact H'|(subst_vars;exact H')),⟨by have:=HK1.out;have:=HJ6.out;first|omega|exact Nat.le_refl _⟩,⟨by (with_reducible repeat (first|apply Kd.R_alloc|apply Kd.R_drewN|apply Kd.R_drew));exact HO_4.out⟩,⟨by repeat (first|(with_reducible first|exact HB.out|apply below_alloc|apply pw_below_drewN|apply below_drew1)|exact HB.out)⟩⟩
            ·rw [if_neg c16] at H
             exact absurd H (by simp)
           ·rw [if_neg c15] at H
            exact absurd H (by simp)
          case rest =>
           clear HC14
           try clear c1
           try clear p1
           try clear q1
           try clear hx1
           try clear p2
           try clear c4
           try clear c4b0
           try clear c5
           try clear c5b0
           try clear c6
           try clear c6b0
           try clear p6
           try clear c9
           try clear c9b0
           try clear c9b1
           try clear c10
           try clear c10b0
           try clear c10b1
           try clear c11
           try clear c11b0
           try clear c11b1
           try clear p11
           try clear q11
           try clear hx11
           try clear c12
           try clear c13
           try clear c13b0
           try clear c13b1
           try clear c13b2
           try clear c15
           try clear c15b0
           try clear c15b1
           try clear c16
           try clear c16b0
           try clear c16b1
           try clear p17
           try clear q17
           try clear hx17
           try clear c18
           try clear c18b0
           try clear c18b1
           try clear c19
           try clear c19b0
           try clear hx116_0
           try clear hx117_0
           try clear p1
           try clear p11
           try clear p116
           try clear p117
           try clear p17
           try clear p2
           try clear q1
           try clear q11
           try clear q116
           try clear q117
           try clear q17
           obtain ⟨kq,x7_13,rfl,HA,HJ13,HO_4,HB⟩:=hcut
           cases kq with
           | zero => exact absurd HA.out (by simp [racewayref24_Type.j2])
           | succ kj13 =>
            have H:=HA.out
            clear HA
            simp only [racewayref24_Type.j2] at H
            have H':=Aside0.mk H
            clear H
            go_wp2
            repeat (go_quiet (fail);try go_wp2)
            go_loopg [7,8] kj13 (fun kq v7 v8 w' => ∃ (x7_4 : Bool) (x8_4 : Int),v7 = .bool x7_4 ∧ v8 = .int .i64 x8_4 ∧ Aside0 (racewayref24_Type.l1 kq a0 y113 x5_1 x7_4 x8_4 = some (r1,r2)) ∧ Aside0 (kq ≤ kj13) ∧ Aside0 (Kd.R Kd.string 9 w' w.heap.size (fun _ => True) (.slice (some ad116) y113.length co8) y113) ∧ Aside0 (Below w.heap.size w w'))
            case atStart => exact ⟨(x7_13),(wrap64 (((rdOf ByteArray.empty y113 x5_1).size : Int) + 1)),(by first|rfl|(simp;done)|(simp;decide +kernel)|(simp [*];done)),(by first|rfl|(simp;done)|(simp;decide +kernel)|(simp [*];done)),(by first|exact H'|(subst_vars;exact H')),⟨Nat.le_refl _⟩,⟨by (with_reducible repeat (first|apply Kd.R_alloc|apply Kd.R_drewN|apply Kd.R_drew));exact HO_4.out⟩,⟨by repeat (first|(with_reducible first|exact HB.out|apply below_alloc|apply pw_below_drewN|apply below_drew1)|exact HB.out)⟩⟩
            case round =>
             clear H'
             try clear c1
             try clear p1
             try clear q1
             try clear hx1
             try clear p2
             try clear c4
             try clear c4b0
             try clear c5
             try clear c5b0
             try clear c6
             try clear c6b0
             try clear p6
             try clear c9
             try clear c9b0
             try clear c9b1
             try clear c10
             try clear c10b0
             try clear c10b1
             try clear c11
             try clear c11b0
             try clear c11b1
             try clear p11
             try clear q11
             try clear hx11
             try clear c12
             try clear c13
             try clear c13b0
             try clear c13b1
             try clear c13b2
             try clear c15
             try clear c15b0
             try clear c15b1
             try clear c16
             try clear c16b0
             try clear c16b1
             try clear p17
             try clear q17
             try clear hx17
             try clear c18
             try clear c18b0
             try clear c18b1
             try clear c19
             try clear c19b0
             try clear hx116_0
             try clear hx117_0
             try clear p1
             try clear p11
             try clear p116
             try clear p117
             try clear p17
             try clear p2
             try clear p6
             try clear q1
             try clear q11
             try clear q116
             try clear q117
             try clear q17
             obtain ⟨x7_4,x8_4,rfl,rfl,HA,HK4,HO_4,HB⟩:=hrel
             cases gk with
             | zero => exact absurd HA.out (by simp [racewayref24_Type.l1])
             | succ k4 =>
              have H:=HA.out
              clear HA
              simp only [racewayref24_Type.l1] at H
              by_cases c20 : x8_4 < (a0.size : Int)
              ·rw [if_pos c20] at H
               have c20b0 : decide (x8_4 < (a0.size : Int)) = true:=decide_eq_true c20
               clear c20
               by_cases c21 : x7_4 = true
               ·subst c21
                have H1 : (if 0 ≤ x8_4 then ((racewayref24_letter.f (bt a0 x8_4)).bind fun t118 => (racewayref24_Type.l1 k4 a0 y113 x5_1 t118 (wrap64 (x8_4 + 1)))) else (none)) = some (r1,r2):=by rw [if_pos rfl] at H;exact H
                clear H
                have H:=H1
                clear H1
                by_cases c22 : 0 ≤ x8_4
                ·rw [if_pos c22] at H
                 have c22b0 : decide (0 ≤ x8_4) = true:=decide_eq_true c22
                 clear c22
                 replace H:=Option.bind_eq_some_iff.mp H
                 obtain ⟨t118,A240,H⟩:=H
                 replace H : (racewayref24_Type.l1 k4 a0 y113 x5_1 t118 (wrap64 (x8_4 + 1))) = some (r1,r2):=H
                 have A24:=Aside0.mk A240
                 clear A240
                 have H':=Aside0.mk H
                 clear H
                 have p23 : 0 ≤ (x8_4 : Int):=of_decide_eq_true (by first|(with_reducible assumption)|assumption)
                 have q23 : x8_4 < (a0.size : Int):=of_decide_eq_true (by first|(with_reducible assumption)|assumption)
                 have hx23:=bt_at a0 x8_4
                 replace p23:=eq_true p23
                 replace q23:=eq_true q23
                 go_wp2_with (first|(go_at_call 31;(with_reducible refine (racewayref24_letter.calls (bt a0 x8_4) t118 _ A24.out).mono ?_);rintro e w' ⟨rfl,⟨nd,rfl⟩⟩;(try first|exact ⟨rfl,_,World.drewN_drewN _ _ _⟩|exact ⟨rfl,_,Eq.trans (World.drewN_drewN _ _ _) (congrArg (World.drewN _) (Nat.add_assoc _ _ _))⟩)))
                 repeat (go_quiet (first|(go_at_call 31;(with_reducible refine (racewayref24_letter.calls (bt a0 x8_4) t118 _ A24.out).mono ?_);rintro e w' ⟨rfl,⟨nd,rfl⟩⟩;(try first|exact ⟨rfl,_,World.drewN_drewN _ _ _⟩|exact ⟨rfl,_,Eq.trans (World.drewN_drewN _ _ _) (congrArg (World.drewN _) (Nat.add_assoc _ _ _))⟩)));try go_wp2_with (first|(go_at_call 31;(with_reducible refine (racewayref24_letter.calls (bt a0 x8_4) t118 _ A24.out).mono ?_);rintro e w' ⟨rfl,⟨nd,rfl⟩⟩;(try first|exact ⟨rfl,_,World.drewN_drewN _ _ _⟩|exact ⟨rfl,_,Eq.trans (World.drewN_drewN _ _ _) (congrArg (World.drewN _) (Nat.add_assoc _ _ _))⟩))))
                 go_roundg k4
                 case measure => have:=HK1.out;have:=HJ6.out;have:=HJ13.out;have:=HK4.out;omega
                 case rel => exact ⟨(t118),(wrap64 (x8_4 + 1)),(by first|rfl|(simp;done)|(simp;decide +kernel)|(simp [*];done)),(by first|rfl|(simp;done)|(simp;decide +kernel)|(simp [*];done)),(by first|exact H'|(subst_vars;exact H')),⟨by have:=HK1.out;have:=HJ6.out;have:=HJ13.out;have:=HK4.out;omega⟩,⟨by (with_reducible repeat (first|apply Kd.R_alloc|apply Kd.R_drewN|apply Kd.R_drew));exact HO_4.out⟩,⟨by repeat (first|(with_reducible first|exact HB.out|apply below_alloc|apply pw_below_drewN|apply below_drew1)|exact HB.out)⟩⟩
                ·rw [if_neg c22] at H
                 exact absurd H (by simp)
               ·replace c21:=Bool.eq_false_iff.mpr c21
                subst c21
                have H1 : (racewayref24_Type.l1 k4 a0 y113 x5_1 false (wrap64 (x8_4 + 1))) = some (r1,r2):=by rw [if_neg (show ¬ (false = true) by decide)] at H;exact H
                clear H
                have H:=H1
                clear H1
                have H':=Aside0.mk H
                clear H
                go_wp2
                repeat (go_quiet (fail);try go_wp2)
                go_roundg k4
                case measure => have:=HK1.out;have:=HJ6.out;have:=HJ13.out;have:=HK4.out;omega
                case rel => exact ⟨(false),(wrap64 (x8_4 + 1)),(by first|rfl|(simp;done)|(simp;decide +kernel)|(simp [*];done)),(by first|rfl|(simp;done)|(simp;decide +kernel)|(simp [*];done)),(by first|exact H'|(subst_vars;exact H')),⟨by have:=HK1.out;have:=HJ6.out;have:=HJ13.out;have:=HK4.out;omega⟩,⟨by (with_reducible repeat (first|apply Kd.R_alloc|apply Kd.R_drewN|apply Kd.R_drew));exact HO_4.out⟩,⟨by repeat (first|(with_reducible first|exact HB.out|apply below_alloc|apply pw_below_drewN|apply below_drew1)|exact HB.out)⟩⟩
              ·rw [if_neg c20] at H
               have c20b0 : decide (x8_4 < (a0.size : Int)) = false:=decide_eq_false c20
               clear c20
               by_cases c25 : x7_4 = true
               ·subst c25
                have H1 : (some (wrap64 (x5_1 + 1),true)) = some (r1,r2):=by rw [if_pos rfl] at H;exact H
                clear H
                have H:=H1
                clear H1
                simp only [Option.some.injEq,Prod.mk.injEq] at H
                obtain ⟨rfl,rfl⟩:=H
                go_wp2
                repeat (go_quiet (fail);try go_wp2)
                go_ret2
                exact ⟨by first|rfl|(simp [errW_none,errW_some] <;> rfl)|(simp [*,errW_none,errW_some] <;> rfl),by repeat (first|(with_reducible first|exact HB.out|apply below_alloc|apply pw_below_drewN|apply below_drew1)|exact HB.out)⟩
               ·replace c25:=Bool.eq_false_iff.mpr c25
                subst c25
                have H1 : (racewayref24_Type.l0 k4 a0 y113 (wrap64 (x5_1 + 1))) = some (r1,r2):=by rw [if_neg (show ¬ (false = true) by decide)] at H;exact H
                clear H
                have H:=H1
                clear H1
                have H':=Aside0.mk H
                clear H
                go_wp2
                repeat (go_quiet (fail);try go_wp2)
                go_roundg k4
                case measure => have:=HK1.out;have:=HJ6.out;have:=HJ13.out;have:=HK4.out;omega
                case rel => exact ⟨(wrap64 (x5_1 + 1)),(by first|rfl|(simp;done)|(simp;decide +kernel)|(simp [*];done)),(by first|exact H'|(subst_vars;exact H')),⟨by have:=HK1.out;have:=HJ6.out;have:=HJ13.out;have:=HK4.out;omega⟩,⟨by (with_reducible repeat (first|apply Kd.R_alloc|apply Kd.R_drewN|apply Kd.R_drew));exact HO_4.out⟩,⟨by repeat (first|(with_reducible first|exact HB.out|apply below_alloc|apply pw_below_drewN|apply below_drew1)|exact HB.out)⟩⟩
     ·rw [if_neg c6] at H
      exact absurd H (by simp)
    ·rw [if_neg c5] at H
     exact absurd H (by simp)
   ·rw [if_neg c4] at H
    have c4b0 : decide (x5_1 < 3) = false:=decide_eq_false c4
    clear c4
    simp only [Option.some.injEq,Prod.mk.injEq] at H
    obtain ⟨rfl,rfl⟩:=H
    go_wp2
    repeat (go_quiet (fail);try go_wp2)
    go_ret2
    exact ⟨by first|rfl|(simp [errW_none,errW_some] <;> rfl)|(simp [*,errW_none,errW_some] <;> rfl),by repeat (first|(with_reducible first|exact HB.out|apply below_alloc|apply pw_below_drewN|apply below_drew1)|exact HB.out)⟩
mutual
def attribute_begins.l0 : Nat → ByteArray → ByteArray → Int → Int → Option (Bool)
 | 0,_,_,_,_ => none
 | k + 1,x0,x1,x13,x14 => if x14 < x13 then (if 0 ≤ x14 then (if x14 < (x0.size : Int) then (if (bt x0 x14) ≥ 65 then (attribute_begins.j1 k x0 x1 x14 (bt x0 x14) x13 x14 (decide ((bt x0 x14) ≤ 90))) else (attribute_begins.j1 k x0 x1 x14 (bt x0 x14) x13 x14 false)) else (none)) else (none)) else (some true)
def attribute_begins.j1 : Nat → ByteArray → ByteArray → Int → Int → Int → Int → Bool → Option (Bool)
 | 0,_,_,_,_,_,_,_ => none
 | k + 1,x0,x1,x5,x6,x13,x14,x25 => if x25 = true then (if 0 ≤ x5 then (if x5 < (x1.size : Int) then (if ((x6 + 32) % 256) = (bt x1 x5) then (attribute_begins.l0 k x0 x1 x13 (wrap64 (x14 + 1))) else (some false)) else (none)) else (none)) else (if 0 ≤ x5 then (if x5 < (x1.size : Int) then (if x6 = (bt x1 x5) then (attribute_begins.l0 k x0 x1 x13 (wrap64 (x14 + 1))) else (some false)) else (none)) else (none))
end
def attribute_begins.f (k : Nat) (a0 : ByteArray) (a1 : ByteArray) : Option (Bool):=if (a0.size : Int) < (a1.size : Int) then (some false) else (attribute_begins.l0 k a0 a1 (a1.size : Int) 0)
set_option maxHeartbeats 8000000 in
set_option maxRecDepth 100000 in
theorem attribute_begins.calls (k : Nat) (a0 : ByteArray) (a1 : ByteArray) (r : Bool) (w : World) (h : attribute_begins.f k a0 a1 = some r) :
  Calls Tryd.prog 33 #[.string a0,.string a1] w fun e w' => e = .returned (.bool r) ∧ Drawn0 w w':=by
 have H : (if (a0.size : Int) < (a1.size : Int) then (some false) else (attribute_begins.l0 k a0 a1 (a1.size : Int) 0)) = some r:=h
 clear h
 by_cases c3 : (a0.size : Int) < (a1.size : Int)
 ·rw [if_pos c3] at H
  have c3b0 : decide ((a0.size : Int) < (a1.size : Int)) = true:=decide_eq_true c3
  have c3b1 : decide (a0.size < a1.size) = true:=decide_eq_true (Int.ofNat_lt.mp c3)
  clear c3
  obtain rfl:=Option.some.inj H
  go_enter Tryd.func33,Tryd.ntmps33
  go_wp2
  go_ret
  exact ⟨by first|rfl|(simp;done)|(simp;decide +kernel)|(simp [*];done),by repeat (first|exact Drawn0.refl _|apply Drawn0.step)⟩
 ·rw [if_neg c3] at H
  have c3b0 : decide ((a0.size : Int) < (a1.size : Int)) = false:=decide_eq_false c3
  have c3b1 : decide (a0.size < a1.size) = false:=decide_eq_false (fun h => c3 (Int.ofNat_lt.mpr h))
  clear c3
  have H':=Aside0.mk H
  clear H
  go_enter Tryd.func33,Tryd.ntmps33
  go_wp2
  go_loopg [14] k (fun kq v14 w' => ∃ (x14_1 : Int),v14 = .int .i64 x14_1 ∧ Aside0 (attribute_begins.l0 kq a0 a1 (a1.size : Int) x14_1 = some r) ∧ Aside0 (kq ≤ k) ∧ Drawn0 w w')
  case atStart => exact ⟨(0),(by first|rfl|(simp;done)|(simp;decide +kernel)|(simp [*];done)),(by first|exact H'|(subst_vars;exact H')),⟨Nat.le_refl _⟩,by repeat (first|exact Drawn0.refl _|apply Drawn0.step)⟩
  case round =>
   clear H'
   try clear p2
   try clear c3
   try clear c3b0
   try clear c3b1
   obtain ⟨x14_1,rfl,HA,HK1,⟨m1,rfl⟩⟩:=hrel
   cases gk with
   | zero => exact absurd HA.out (by simp [attribute_begins.l0])
   | succ k1 =>
    have H:=HA.out
    clear HA
    simp only [attribute_begins.l0] at H
    by_cases c4 : x14_1 < (a1.size : Int)
    ·rw [if_pos c4] at H
     have c4b0 : decide (x14_1 < (a1.size : Int)) = true:=decide_eq_true c4
     clear c4
     by_cases c5 : 0 ≤ x14_1
     ·rw [if_pos c5] at H
      have c5b0 : decide (0 ≤ x14_1) = true:=decide_eq_true c5
      clear c5
      by_cases c6 : x14_1 < (a0.size : Int)
      ·rw [if_pos c6] at H
       have c6b0 : decide (x14_1 < (a0.size : Int)) = true:=decide_eq_true c6
       clear c6
       have HC8:=Aside0.mk H
       clear H
       have p7 : 0 ≤ (x14_1 : Int):=of_decide_eq_true (by first|(with_reducible assumption)|assumption)
       have q7 : x14_1 < (a0.size : Int):=of_decide_eq_true (by first|(with_reducible assumption)|assumption)
       have hx7:=bt_at a0 x14_1
       replace p7:=eq_true p7
       replace q7:=eq_true q7
       go_upto_region 7 with (fail)
       go_cut [25] (fun v25 wc => ∃ (kq : Nat) (x25_7 : Bool),v25 = .bool x25_7 ∧ Aside0 (attribute_begins.j1 kq a0 a1 x14_1 (bt a0 x14_1) (a1.size : Int) x14_1 x25_7 = some r) ∧ Aside0 (kq ≤ k1) ∧ Drawn0 w wc)
       case first =>
        have H:=HC8.out
        clear HC8
        by_cases c9 : (bt a0 x14_1) ≥ 65
        ·rw [if_pos c9] at H
         have c9b0 : decide (65 ≤ (bt a0 x14_1)) = true:=decide_eq_true c9
         clear c9
         (first|rw [c9b0]|(simp only [i64_w,i32_w];rw [c9b0])|skip)
         have H':=Aside0.mk H
         clear H
         go_wp2
         go_meet
         case rel => exact ⟨_,(decide ((bt a0 x14_1) ≤ 90)),(by first|rfl|(simp;done)|(simp;decide +kernel)|(simp [*];done)),(by first|exact H'|(subst_vars;exact H')),⟨by have:=HK1.out;first|omega|exact Nat.le_refl _⟩,by repeat (first|exact Drawn0.refl _|apply Drawn0.step)⟩
        ·rw [if_neg c9] at H
         have c9b0 : decide (65 ≤ (bt a0 x14_1)) = false:=decide_eq_false c9
         clear c9
         (first|rw [c9b0]|(simp only [i64_w,i32_w];rw [c9b0])|skip)
         have H':=Aside0.mk H
         clear H
         go_wp2
         go_meet
         case rel => exact ⟨_,(false),(by first|rfl|(simp;done)|(simp;decide +kernel)|(simp [*];done)),(by first|exact H'|(subst_vars;exact H')),⟨by have:=HK1.out;first|omega|exact Nat.le_refl _⟩,by repeat (first|exact Drawn0.refl _|apply Drawn0.step)⟩
       case rest =>
        clear HC8
        try clear p2
        try clear c3
        try clear c3b0
        try clear c3b1
        try clear c4
        try clear c4b0
        try clear c5
        try clear c5b0
        try clear c6
        try clear c6b0
        try clear p7
        try clear q7
        try clear hx7
        try clear c9
        try clear c9b0
        try clear p2
        try clear p7
        try clear q7
        obtain ⟨kq,x25_7,rfl,HA,HJ7,⟨mc7,rfl⟩⟩:=hcut
        cases kq with
        | zero => exact absurd HA.out (by simp [attribute_begins.j1])
        | succ kj7 =>
         have H:=HA.out
         clear HA
         simp only [attribute_begins.j1] at H
         by_cases c10 : x25_7 = true
         ·subst c10
          have H1 : (if 0 ≤ x14_1 then (if x14_1 < (a1.size : Int) then (if (((bt a0 x14_1) + 32) % 256) = (bt a1 x14_1) then (attribute_begins.l0 kj7 a0 a1 (a1.size : Int) (wrap64 (x14_1 + 1))) else (some false)) else (none)) else (none)) = some r:=by rw [if_pos rfl] at H;exact H
          clear H
          have H:=H1
          clear H1
          by_cases c11 : 0 ≤ x14_1
          ·rw [if_pos c11] at H
           have c11b0 : decide (0 ≤ x14_1) = true:=decide_eq_true c11
           clear c11
           by_cases c12 : x14_1 < (a1.size : Int)
           ·rw [if_pos c12] at H
            have c12b0 : decide (x14_1 < (a1.size : Int)) = true:=decide_eq_true c12
            clear c12
            by_cases c14 : (((bt a0 x14_1) + 32) % 256) = (bt a1 x14_1)
            ·rw [if_pos c14] at H
             have c14b0 : ((((bt a0 x14_1) + 32) % 256) == (bt a1 x14_1)) = true:=beq_iff_eq.mpr c14
             have c14b1 : ((((bt a0 x14_1) + 32) % 256) != (bt a1 x14_1)) = false:=bne_eq_false_iff_eq.mpr c14
             clear c14
             have H':=Aside0.mk H
             clear H
             have p13 : 0 ≤ (x14_1 : Int):=of_decide_eq_true (by first|(with_reducible assumption)|assumption)
             have q13 : x14_1 < (a1.size : Int):=of_decide_eq_true (by first|(with_reducible assumption)|assumption)
             have hx13:=bt_at a1 x14_1
             replace p13:=eq_true p13
             replace q13:=eq_true q13
             go_wp2
             go_roundg kj7
             case measure => have:=HK1.out;have:=HJ7.out;omega
             case rel => exact ⟨(wrap64 (x14_1 + 1)),(by first|rfl|(simp;done)|(simp;decide +kernel)|(simp [*];done)),(by first|exact H'|(subst_vars;exact H')),⟨by have:=HK1.out;have:=HJ7.out;omega⟩,by repeat (first|exact Drawn0.refl _|apply Drawn0.step)⟩
            ·rw [if_neg c14] at H
             have c14b0 : ((((bt a0 x14_1) + 32) % 256) == (bt a1 x14_1)) = false:=beq_eq_false_iff_ne.mpr c14
             have c14b1 : ((((bt a0 x14_1) + 32) % 256) != (bt a1 x14_1)) = true:=bne_iff_ne.mpr c14
             obtain rfl:=Option.some.inj H
             have p13 : 0 ≤ (x14_1 : Int):=of_decide_eq_true (by first|(with_reducible assumption)|assumption)
             have q13 : x14_1 < (a1.size : Int):=of_decide_eq_true (by first|(with_reducible assumption)|assumption)
             have hx13:=bt_at a1 x14_1
             replace p13:=eq_true p13
             replace q13:=eq_true q13
             go_wp2
             go_ret
             exact ⟨by first|rfl|(simp;done)|(simp;decide +kernel)|(simp [*];done),by repeat (first|exact Drawn0.refl _|apply Drawn0.step)⟩
           ·rw [if_neg c12] at H
            exact absurd H (by simp)
          ·rw [if_neg c11] at H
           exact absurd H (by simp)
         ·replace c10:=Bool.eq_false_iff.mpr c10
          subst c10
          have H1 : (if 0 ≤ x14_1 then (if x14_1 < (a1.size : Int) then (if (bt a0 x14_1) = (bt a1 x14_1) then (attribute_begins.l0 kj7 a0 a1 (a1.size : Int) (wrap64 (x14_1 + 1))) else (some false)) else (none)) else (none)) = some r:=by rw [if_neg (show ¬ (false = true) by decide)] at H;exact H
          clear H
          have H:=H1
          clear H1
          by_cases c15 : 0 ≤ x14_1
          ·rw [if_pos c15] at H
           have c15b0 : decide (0 ≤ x14_1) = true:=decide_eq_true c15
           clear c15
           by_cases c16 : x14_1 < (a1.size : Int)
           ·rw [if_pos c16] at H
            have c16b0 : decide (x14_1 < (a1.size : Int)) = true:=decide_eq_true c16
            clear c16
            by_cases c18 : (bt a0 x14_1) = (bt a1 x14_1)
            ·rw [if_pos c18] at H
             have c18b0 : ((bt a0 x14_1) == (bt a1 x14_1)) = true:=beq_iff_eq.mpr c18
             have c18b1 : ((bt a0 x14_1) != (bt a1 x14_1)) = false:=bne_eq_false_iff_eq.mpr c18
             clear c18
             have H':=Aside0.mk H
             clear H
             have p17 : 0 ≤ (x14_1 : Int):=of_decide_eq_true (by first|(with_reducible assumption)|assumption)
             have q17 : x14_1 < (a1.size : Int):=of_decide_eq_true (by first|(with_reducible assumption)|assumption)
             have hx17:=bt_at a1 x14_1
             replace p17:=eq_true p17
             replace q17:=eq_true q17
             go_wp2
             go_roundg kj7
             case measure => have:=HK1.out;have:=HJ7.out;omega
             case rel => exact ⟨(wrap64 (x14_1 + 1)),(by first|rfl|(simp;done)|(simp;decide +kernel)|(simp [*];done)),(by first|exact H'|(subst_vars;exact H')),⟨by have:=HK1.out;have:=HJ7.out;omega⟩,by repeat (first|exact Drawn0.refl _|apply Drawn0.step)⟩
            ·rw [if_neg c18] at H
             have c18b0 : ((bt a0 x14_1) == (bt a1 x14_1)) = false:=beq_eq_false_iff_ne.mpr c18
             have c18b1 : ((bt a0 x14_1) != (bt a1 x14_1)) = true:=bne_iff_ne.mpr c18
             obtain rfl:=Option.some.inj H
             have p17 : 0 ≤ (x14_1 : Int):=of_decide_eq_true (by first|(with_reducible assumption)|assumption)
             have q17 : x14_1 < (a1.size : Int):=of_decide_eq_true (by first|(with_reducible assumption)|assumption)
             have hx17:=bt_at a1 x14_1
             replace p17:=eq_true p17
             replace q17:=eq_true q17
             go_wp2
             go_ret
             exact ⟨by first|rfl|(simp;done)|(simp;decide +kernel)|(simp [*];done),by repeat (first|exact Drawn0.refl _|apply Drawn0.step)⟩
           ·rw [if_neg c16] at H
            exact absurd H (by simp)
          ·rw [if_neg c15] at H
           exact absurd H (by simp)
      ·rw [if_neg c6] at H
       exact absurd H (by simp)
     ·rw [if_neg c5] at H
      exact absurd H (by simp)
    ·rw [if_neg c4] at H
     have c4b0 : decide (x14_1 < (a1.size : Int)) = false:=decide_eq_false c4
     clear c4
     obtain rfl:=Option.some.inj H
     go_wp2
     go_ret
     exact ⟨by first|rfl|(simp;done)|(simp;decide +kernel)|(simp [*];done),by repeat (first|exact Drawn0.refl _|apply Drawn0.step)⟩
end Go.Proofs.YtolpefnedpgaaaaDoor.X
namespace Go.Proofs.YtolpefnedpgaaaaDoor.X
open Go.RowKit Go.Proofs.YtolpefnedpgaaaaDoorW.PrintWords Go.Proofs.YtolpefnedpgaaaaDoorW.PrintLast Go.Proofs.YtolpefnedpgaaaaDoorW.PrintMore
attribute [local go_sem] max2_int min2_int max_two min_two max_three min_three max_four min_four
set_option linter.unusedVariables false
set_option linter.unusedSimpArgs false
def racewayref23_Number.f (a0 : Int) : Option (List Int):=some (([(Int.tmod (wrap64 (Int.tdiv a0 16777216)) 256) % 256,(Int.tmod (wrap64 (Int.tdiv a0 65536)) 256) % 256,(Int.tmod (wrap64 (Int.tdiv a0 256)) 256) % 256,(Int.tmod a0 256) % 256] : List Int))
set_option maxHeartbeats 8000000 in
set_option maxRecDepth 100000 in
theorem racewayref23_Number.calls (a0 : Int) (r : List Int) (w : World) (h : racewayref23_Number.f a0 = some r) :
  Calls Tryd.prog 79 #[.int .i64 a0] w fun e w' => ∃ v0_ : Value,e = .returned (v0_) ∧ Kd.R (Kd.int .u8) 5 w' w.heap.size (fun _ => True) v0_ r ∧ Below w.heap.size w w':=by
 have HB:=Aside0.mk (Below.refl w.heap.size w)
 have H : (some (([(Int.tmod (wrap64 (Int.tdiv a0 16777216)) 256) % 256,(Int.tmod (wrap64 (Int.tdiv a0 65536)) 256) % 256,(Int.tmod (wrap64 (Int.tdiv a0 256)) 256) % 256,(Int.tmod a0 256) % 256] : List Int))) = some r:=h
 clear h
 obtain ⟨y108,hy108⟩ : ∃ y_ : List Int,y_ = (([(Int.tmod (wrap64 (Int.tdiv a0 16777216)) 256) % 256,(Int.tmod (wrap64 (Int.tdiv a0 65536)) 256) % 256,(Int.tmod (wrap64 (Int.tdiv a0 256)) 256) % 256,(Int.tmod a0 256) % 256] : List Int)):=⟨_,rfl⟩
 replace H : (some y108) = some r:=by first|(rw [hy108];with_reducible exact H)|(have H2_:=(Option.bind_some _ _).symm.trans H;rw [hy108];with_reducible exact H2_)|(have H2_:=(Option.bind_some _ _).symm.trans H;with_reducible exact H2_)|with_reducible exact H|(rw [hy108];exact H)|exact H
 have Ny108:=Aside0.mk hy108
 clear hy108
 obtain rfl:=Option.some.inj H
 go_enter Tryd.func79,Tryd.ntmps79
 go_wp2_with (first|((with_reducible refine gate_dst (N:=18) rfl ?_);refine Kd.R_lit (Kd.int .u8) _ 5 ?hg (N:=18) ?hd (xs:=([(Int.tmod (wrap64 (Int.tdiv a0 16777216)) 256) % 256,(Int.tmod (wrap64 (Int.tdiv a0 65536)) 256) % 256,(Int.tmod (wrap64 (Int.tdiv a0 256)) 256) % 256,(Int.tmod a0 256) % 256] : List Int)) (inner:=[.int .u8 ((Int.tmod (wrap64 (Int.tdiv a0 16777216)) 256) % 256),.int .u8 ((Int.tmod (wrap64 (Int.tdiv a0 65536)) 256) % 256),.int .u8 ((Int.tmod (wrap64 (Int.tdiv a0 256)) 256) % 256),.int .u8 ((Int.tmod a0 256) % 256)]) (ok:=fun _ => True) (okp:=fun _ => True) ?hr ?hp (fun _ hk => hk) trivial (Below.refl _ _) (Nat.le_refl _) (by simp) ?_;(case hd => rfl);(case hg => rfl);(case hr => first|(go_simp;done)|(go_simp;rfl));(case hp => exact (Reps.one (show Kd.M (Kd.int .u8) _ _ _ ((Int.tmod (wrap64 (Int.tdiv a0 16777216)) 256) % 256) [.int .u8 ((Int.tmod (wrap64 (Int.tdiv a0 16777216)) 256) % 256)] from rfl) (Reps.one (show Kd.M (Kd.int .u8) _ _ _ ((Int.tmod (wrap64 (Int.tdiv a0 65536)) 256) % 256) [.int .u8 ((Int.tmod (wrap64 (Int.tdiv a0 65536)) 256) % 256)] from rfl) (Reps.one (show Kd.M (Kd.int .u8) _ _ _ ((Int.tmod (wrap64 (Int.tdiv a0 256)) 256) % 256) [.int .u8 ((Int.tmod (wrap64 (Int.tdiv a0 256)) 256) % 256)] from rfl) (Reps.one (show Kd.M (Kd.int .u8) _ _ _ ((Int.tmod a0 256) % 256) [.int .u8 ((Int.tmod a0 256) % 256)] from rfl) (Reps.none _ _))))));intro v109 w2 ho3 hb hg_ hnew_;clear hg_ hnew_;(first|rw [← Ny108.out] at ho3|(simp only [Int.reduceToNat] at ho3;rw [← Ny108.out] at ho3));have n0_:=Aside0.mk (Kd.R_lower ho3 (below_size (by repeat (first|(with_reducible first|exact HB.out|apply below_alloc|apply pw_below_drewN|apply below_drew1)|exact HB.out))));have n1_:=Aside0.mk (below_step (by repeat (first|(with_reducible first|exact HB.out|apply below_alloc|apply pw_below_drewN|apply below_drew1)|exact HB.out)) hb);clear HB;have HO110:=n0_;have HB:=n1_;clear n0_ n1_;clear hb ho3))
 go_ret
 exact ⟨_,by first|rfl|(simp [errW_none,errW_some] <;> rfl)|(simp [*,errW_none,errW_some] <;> rfl),by (with_reducible repeat (first|apply Kd.R_alloc|apply Kd.R_drewN|apply Kd.R_drew));exact HO110.out,by repeat (first|(with_reducible first|exact HB.out|apply below_alloc|apply pw_below_drewN|apply below_drew1)|exact HB.out)⟩
end Go.Proofs.YtolpefnedpgaaaaDoor.X
namespace Go.Proofs.YtolpefnedpgaaaaDoor.X
open Go.RowKit Go.Proofs.YtolpefnedpgaaaaDoorW.PrintWords Go.Proofs.YtolpefnedpgaaaaDoorW.PrintLast Go.Proofs.YtolpefnedpgaaaaDoorW.PrintMore
attribute [local go_sem] max2_int min2_int max_two min_two max_three min_three max_four min_four
set_option linter.unusedVariables false
set_option linter.unusedSimpArgs false
def racewayref23_Text.f (a0 : ByteArray) : Option (List Int):=(racewayref23_Number.f (a0.size : Int)).bind fun t111 => (if t111.length + a0.size < 140737488355328 then (some (t111 ++ bytesOf a0)) else (none))
set_option maxHeartbeats 8000000 in
set_option maxRecDepth 100000 in
theorem racewayref23_Text.calls (a0 : ByteArray) (r : List Int) (w : World) (h : racewayref23_Text.f a0 = some r) :
  Calls Tryd.prog 51 #[.string a0] w fun e w' => ∃ v0_ : Value,e = .returned (v0_) ∧ Kd.R (Kd.int .u8) 5 w' w.heap.size (fun _ => True) v0_ r ∧ Below w.heap.size w w':=by
 have HB:=Aside0.mk (Below.refl w.heap.size w)
 have H : ((racewayref23_Number.f (a0.size : Int)).bind fun t111 => (if t111.length + a0.size < 140737488355328 then (some (t111 ++ bytesOf a0)) else (none))) = some r:=h
 clear h
 replace H:=Option.bind_eq_some_iff.mp H
 obtain ⟨t111,A20,H⟩:=H
 replace H : (if t111.length + a0.size < 140737488355328 then (some (t111 ++ bytesOf a0)) else (none)) = some r:=H
 have A2:=Aside0.mk A20
 clear A20
 by_cases c3 : t111.length + a0.size < 140737488355328
 ·rw [if_pos c3] at H
  have LMc3:=Aside0.mk c3
  clear c3
  obtain ⟨y114,hy114⟩ : ∃ y_ : List Int,y_ = (t111 ++ bytesOf a0):=⟨_,rfl⟩
  replace H : (some y114) = some r:=by first|(rw [hy114];with_reducible exact H)|(have H2_:=(Option.bind_some _ _).symm.trans H;rw [hy114];with_reducible exact H2_)|(have H2_:=(Option.bind_some _ _).symm.trans H;with_reducible exact H2_)|with_reducible exact H|(rw [hy114];exact H)|exact H
  have Ny114:=Aside0.mk hy114
  clear hy114
  obtain rfl:=Option.some.inj H
  go_enter Tryd.func51,Tryd.ntmps51
  go_wp2_with (first|((with_reducible refine gate_callee (f:=79) rfl ?_);refine goesL_ (some 5) rfl rfl Tryd.func79 (by kernel_rfl) rfl #[.int .i64 (a0.size : Int)] rfl (by (try simp only [List.map_toArray,List.map_cons,List.map_nil]);first|done|rfl|(simp only [List.length_drop,List.length_take];rfl)) ?_;(with_reducible refine (racewayref23_Number.calls (a0.size : Int) t111 _ A2.out).mono ?_);rintro e w4 ⟨v112,rfl,ho0,hb⟩;refine ⟨_,rfl,?_⟩;have n0_:=Aside0.mk (Kd.R_lower ho0 (below_size (by repeat (first|(with_reducible first|exact HB.out|apply below_alloc|apply pw_below_drewN|apply below_drew1)|exact HB.out))));have n1_:=Aside0.mk (below_step (by repeat (first|(with_reducible first|exact HB.out|apply below_alloc|apply pw_below_drewN|apply below_drew1)|exact HB.out)) hb);clear HB;have HO113:=n0_;have HB:=n1_;clear n0_ n1_;(try clear hb);(try clear hb2);(try clear hk);(try clear hi);(try clear ho0))|(at_builtin;refine print_append_str (w0:=w) w.heap.size rfl (.tmp 5) _ 63 9 5 rfl Tryd.underlying63 Tryd.underlying9 info5 v112 t111 a0 rfl rfl ?aO ?aB ?aS ?aL ?_;(case aB => exact (by repeat (first|(with_reducible first|exact HB.out|apply below_alloc|apply pw_below_drewN|apply below_drew1)|exact HB.out)));(case aO => exact (Kd.own_of_R (by (with_reducible repeat (first|apply Kd.R_alloc|apply Kd.R_drewN|apply Kd.R_drew));exact HO113.out)));(case aS => exact (below_size (by repeat (first|(with_reducible first|exact HB.out|apply below_alloc|apply pw_below_drewN|apply below_drew1)|exact HB.out))));(case aL => have:=LMc3.out;omega);intro v115 w5 ho0 hb hg;have ho:=Kd.R_of_own (h1:=fun _ => rfl) (ok:=fun _ => True) ho0 (fun _ _ => trivial);clear ho0;have hat:=True.intro;rw [← Ny114.out] at ho;change Kd.R (Kd.int .u8) 5 w5 w.heap.size (fun _ => True) v115 y114 at ho;have n0_:=Aside0.mk (hb);have n1_:=Aside0.mk (ho);clear HB;clear HO113;have HB:=n0_;have HO116:=n1_;clear n0_ n1_;clear ho hb hg hat))
  go_ret
  exact ⟨_,by first|rfl|(simp [errW_none,errW_some] <;> rfl)|(simp [*,errW_none,errW_some] <;> rfl),by (with_reducible repeat (first|apply Kd.R_alloc|apply Kd.R_drewN|apply Kd.R_drew));exact HO116.out,by repeat (first|(with_reducible first|exact HB.out|apply below_alloc|apply pw_below_drewN|apply below_drew1)|exact HB.out)⟩
 ·rw [if_neg c3] at H
  exact absurd H (by simp)
end Go.Proofs.YtolpefnedpgaaaaDoor.X
namespace Go.Proofs.YtolpefnedpgaaaaDoor.X
open Go.RowKit Go.Proofs.YtolpefnedpgaaaaDoorW.PrintWords Go.Proofs.YtolpefnedpgaaaaDoorW.PrintLast Go.Proofs.YtolpefnedpgaaaaDoorW.PrintMore
attribute [local go_sem] max2_int min2_int max_two min_two max_three min_three max_four min_four
set_option linter.unusedVariables false
set_option linter.unusedSimpArgs false
def racewayref22_Hex.l0 : Nat → List Int → ByteArray → Int → Option (ByteArray)
 | 0,_,_,_ => none
 | k + 1,x0,x3,x4 => if x4 < (x0.length : Int) then (if 0 ≤ x4 then (if 0 ≤ (wrap64 (Int.tdiv (wrap64 (rd x0 x4)) 16)) then (if (wrap64 (Int.tdiv (wrap64 (rd x0 x4)) 16)) ≤ (wrap64 ((wrap64 (Int.tdiv (wrap64 (rd x0 x4)) 16)) + 1)) then (if (wrap64 ((wrap64 (Int.tdiv (wrap64 (rd x0 x4)) 16)) + 1)) ≤ 16 then (if x3.size + ((⟨#[48,49,50,51,52,53,54,55,56,57,97,98,99,100,101,102]⟩ : ByteArray).extract ((wrap64 (Int.tdiv (wrap64 (rd x0 x4)) 16)) : Int).toNat ((wrap64 ((wrap64 (Int.tdiv (wrap64 (rd x0 x4)) 16)) + 1)) : Int).toNat).size ≤ 9223372036854775807 then (if 0 ≤ (Int.tmod (wrap64 (rd x0 x4)) 16) then (if (Int.tmod (wrap64 (rd x0 x4)) 16) ≤ (wrap64 ((Int.tmod (wrap64 (rd x0 x4)) 16) + 1)) then (if (wrap64 ((Int.tmod (wrap64 (rd x0 x4)) 16) + 1)) ≤ 16 then (if x3.size + (((⟨#[48,49,50,51,52,53,54,55,56,57,97,98,99,100,101,102]⟩ : ByteArray).extract ((wrap64 (Int.tdiv (wrap64 (rd x0 x4)) 16)) : Int).toNat ((wrap64 ((wrap64 (Int.tdiv (wrap64 (rd x0 x4)) 16)) + 1)) : Int).toNat).size) + ((⟨#[48,49,50,51,52,53,54,55,56,57,97,98,99,100,101,102]⟩ : ByteArray).extract ((Int.tmod (wrap64 (rd x0 x4)) 16) : Int).toNat ((wrap64 ((Int.tmod (wrap64 (rd x0 x4)) 16) + 1)) : Int).toNat).size ≤ 9223372036854775807 then (racewayref22_Hex.l0 k x0 ((x3 ++ ((⟨#[48,49,50,51,52,53,54,55,56,57,97,98,99,100,101,102]⟩ : ByteArray).extract ((wrap64 (Int.tdiv (wrap64 (rd x0 x4)) 16)) : Int).toNat ((wrap64 ((wrap64 (Int.tdiv (wrap64 (rd x0 x4)) 16)) + 1)) : Int).toNat)) ++ ((⟨#[48,49,50,51,52,53,54,55,56,57,97,98,99,100,101,102]⟩ : ByteArray).extract ((Int.tmod (wrap64 (rd x0 x4)) 16) : Int).toNat ((wrap64 ((Int.tmod (wrap64 (rd x0 x4)) 16) + 1)) : Int).toNat)) (wrap64 (x4 + 1))) else (none)) else (none)) else (none)) else (none)) else (none)) else (none)) else (none)) else (none)) else (none)) else (some x3)
def racewayref22_Hex.f (k : Nat) (l0 : List Int) : Option (ByteArray):=racewayref22_Hex.l0 k l0 (⟨#[]⟩ : ByteArray) 0
set_option maxHeartbeats 8000000 in
set_option maxRecDepth 100000 in
theorem racewayref22_Hex.calls (k : Nat) (A0 : Option Addr) (c0 : Nat) (l0 : List Int) (r : ByteArray) (w : World) (hr0 : Kd.C (Kd.int .u8) w A0 l0.length l0) (hc0 : l0.length ≤ c0) (h : racewayref22_Hex.f k l0 = some r) :
  Calls Tryd.prog 52 #[.slice A0 l0.length c0] w fun e w' => e = .returned (.string r) ∧ Drawn0 w w':=by
 have HR0:=Aside0.mk hr0
 have HC0:=Aside0.mk hc0
 clear hr0 hc0
 have H : (racewayref22_Hex.l0 k l0 (⟨#[]⟩ : ByteArray) 0) = some r:=h
 clear h
 have H':=Aside0.mk H
 clear H
 go_enter Tryd.func52,Tryd.ntmps52
 go_wp2
 repeat (go_quiet (fail);try go_wp2)
 go_loopg [3,4] k (fun kq v3 v4 w' => ∃ (x3_1 : ByteArray) (x4_1 : Int),v3 = .string x3_1 ∧ v4 = .int .i64 x4_1 ∧ Aside0 (racewayref22_Hex.l0 kq l0 x3_1 x4_1 = some r) ∧ Aside0 (kq ≤ k) ∧ Drawn0 w w')
 case atStart => exact ⟨((⟨#[]⟩ : ByteArray)),(0),(by first|rfl|(simp;done)|(simp;decide +kernel)|(simp [*];done)),(by first|rfl|(simp;done)|(simp;decide +kernel)|(simp [*];done)),(by first|exact H'|(subst_vars;exact H')),⟨Nat.le_refl _⟩,by repeat (first|exact Drawn0.refl _|apply Drawn0.step)⟩
 case round =>
  clear H'
  obtain ⟨x3_1,x4_1,rfl,rfl,HA,HK1,⟨m1,rfl⟩⟩:=hrel
  cases gk with
  | zero => exact absurd HA.out (by simp [racewayref22_Hex.l0])
  | succ k1 =>
   have H:=HA.out
   clear HA
   simp only [racewayref22_Hex.l0] at H
   by_cases c2 : x4_1 < (l0.length : Int)
   ·rw [if_pos c2] at H
    have c2b0 : decide (x4_1 < (l0.length : Int)) = true:=decide_eq_true c2
    clear c2
    by_cases c3 : 0 ≤ x4_1
    ·rw [if_pos c3] at H
     have c3b0 : decide (0 ≤ x4_1) = true:=decide_eq_true c3
     clear c3
     obtain ⟨ji4,hji4⟩ : ∃ j_ : Int,(wrap64 (Int.tdiv (wrap64 (rd l0 x4_1)) 16)) = j_:=⟨_,rfl⟩
     replace H : (if 0 ≤ (ji4) then (if (ji4) ≤ (wrap64 ((ji4) + 1)) then (if (wrap64 ((ji4) + 1)) ≤ 16 then (if x3_1.size + ((⟨#[48,49,50,51,52,53,54,55,56,57,97,98,99,100,101,102]⟩ : ByteArray).extract ((ji4) : Int).toNat ((wrap64 ((ji4) + 1)) : Int).toNat).size ≤ 9223372036854775807 then (if 0 ≤ (Int.tmod (wrap64 (rd l0 x4_1)) 16) then (if (Int.tmod (wrap64 (rd l0 x4_1)) 16) ≤ (wrap64 ((Int.tmod (wrap64 (rd l0 x4_1)) 16) + 1)) then (if (wrap64 ((Int.tmod (wrap64 (rd l0 x4_1)) 16) + 1)) ≤ 16 then (if x3_1.size + (((⟨#[48,49,50,51,52,53,54,55,56,57,97,98,99,100,101,102]⟩ : ByteArray).extract ((ji4) : Int).toNat ((wrap64 ((ji4) + 1)) : Int).toNat).size) + ((⟨#[48,49,50,51,52,53,54,55,56,57,97,98,99,100,101,102]⟩ : ByteArray).extract ((Int.tmod (wrap64 (rd l0 x4_1)) 16) : Int).toNat ((wrap64 ((Int.tmod (wrap64 (rd l0 x4_1)) 16) + 1)) : Int).toNat).size ≤ 9223372036854775807 then (racewayref22_Hex.l0 k1 l0 ((x3_1 ++ ((⟨#[48,49,50,51,52,53,54,55,56,57,97,98,99,100,101,102]⟩ : ByteArray).extract ((ji4) : Int).toNat ((wrap64 ((ji4) + 1)) : Int).toNat)) ++ ((⟨#[48,49,50,51,52,53,54,55,56,57,97,98,99,100,101,102]⟩ : ByteArray).extract ((Int.tmod (wrap64 (rd l0 x4_1)) 16) : Int).toNat ((wrap64 ((Int.tmod (wrap64 (rd l0 x4_1)) 16) + 1)) : Int).toNat)) (wrap64 (x4_1 + 1))) else (none)) else (none)) else (none)) else (none)) else (none)) else (none)) else (none)) else (none)) = some r:=by first|(rw [hji4] at H;exact H)|(simp only [hji4] at H ⊢;exact H)
     have hji4w : (IntKind.i64.wrap (Int.tdiv (wrap64 (rd l0 x4_1)) 16)) = ji4:=(i64_w _).trans hji4
     by_cases c5 : 0 ≤ (ji4)
     ·rw [if_pos c5] at H
      have c5b0:=eq_true c5
      have c5b1 : decide (0 ≤ (ji4)) = true:=decide_eq_true c5
      clear c5
      by_cases c6 : (ji4) ≤ (wrap64 ((ji4) + 1))
      ·rw [if_pos c6] at H
       have c6b0:=eq_true c6
       have c6b1 : decide ((ji4) ≤ (wrap64 ((ji4) + 1))) = true:=decide_eq_true c6
       by_cases c7 : (wrap64 ((ji4) + 1)) ≤ 16
       ·rw [if_pos c7] at H
        have c7b0:=eq_true c7
        have c7b1 : decide ((wrap64 ((ji4) + 1)) ≤ 16) = true:=decide_eq_true c7
        by_cases c8 : x3_1.size + ((⟨#[48,49,50,51,52,53,54,55,56,57,97,98,99,100,101,102]⟩ : ByteArray).extract ((ji4) : Int).toNat ((wrap64 ((ji4) + 1)) : Int).toNat).size ≤ 9223372036854775807
        ·rw [if_pos c8] at H
         have c8b0:=eq_true c8
         have c8b1 : decide (x3_1.size + ((⟨#[48,49,50,51,52,53,54,55,56,57,97,98,99,100,101,102]⟩ : ByteArray).extract ((ji4) : Int).toNat ((wrap64 ((ji4) + 1)) : Int).toNat).size ≤ 9223372036854775807) = true:=decide_eq_true c8
         try have c8b2 : (9223372036854775807 < x3_1.size + ((⟨#[48,49,50,51,52,53,54,55,56,57,97,98,99,100,101,102]⟩ : ByteArray).extract ((ji4) : Int).toNat ((wrap64 ((ji4) + 1)) : Int).toNat).size) = False:=eq_false (Nat.not_lt.2 c8)
         obtain ⟨ji9,hji9⟩ : ∃ j_ : Int,(Int.tmod (wrap64 (rd l0 x4_1)) 16) = j_:=⟨_,rfl⟩
         replace H : (if 0 ≤ (ji9) then (if (ji9) ≤ (wrap64 ((ji9) + 1)) then (if (wrap64 ((ji9) + 1)) ≤ 16 then (if x3_1.size + (((⟨#[48,49,50,51,52,53,54,55,56,57,97,98,99,100,101,102]⟩ : ByteArray).extract ((ji4) : Int).toNat ((wrap64 ((ji4) + 1)) : Int).toNat).size) + ((⟨#[48,49,50,51,52,53,54,55,56,57,97,98,99,100,101,102]⟩ : ByteArray).extract ((ji9) : Int).toNat ((wrap64 ((ji9) + 1)) : Int).toNat).size ≤ 9223372036854775807 then (racewayref22_Hex.l0 k1 l0 ((x3_1 ++ ((⟨#[48,49,50,51,52,53,54,55,56,57,97,98,99,100,101,102]⟩ : ByteArray).extract ((ji4) : Int).toNat ((wrap64 ((ji4) + 1)) : Int).toNat)) ++ ((⟨#[48,49,50,51,52,53,54,55,56,57,97,98,99,100,101,102]⟩ : ByteArray).extract ((ji9) : Int).toNat ((wrap64 ((ji9) + 1)) : Int).toNat)) (wrap64 (x4_1 + 1))) else (none)) else (none)) else (none)) else (none)) = some r:=by first|(rw [hji9] at H;exact H)|(simp only [hji9] at H ⊢;exact H)
         by_cases c10 : 0 ≤ (ji9)
         ·rw [if_pos c10] at H
          have c10b0:=eq_true c10
          have c10b1 : decide (0 ≤ (ji9)) = true:=decide_eq_true c10
          clear c10
          by_cases c11 : (ji9) ≤ (wrap64 ((ji9) + 1))
          ·rw [if_pos c11] at H
           have c11b0:=eq_true c11
           have c11b1 : decide ((ji9) ≤ (wrap64 ((ji9) + 1))) = true:=decide_eq_true c11
           by_cases c12 : (wrap64 ((ji9) + 1)) ≤ 16
           ·rw [if_pos c12] at H
            have c12b0:=eq_true c12
            have c12b1 : decide ((wrap64 ((ji9) + 1)) ≤ 16) = true:=decide_eq_true c12
            by_cases c13 : x3_1.size + (((⟨#[48,49,50,51,52,53,54,55,56,57,97,98,99,100,101,102]⟩ : ByteArray).extract ((ji4) : Int).toNat ((wrap64 ((ji4) + 1)) : Int).toNat).size) + ((⟨#[48,49,50,51,52,53,54,55,56,57,97,98,99,100,101,102]⟩ : ByteArray).extract ((ji9) : Int).toNat ((wrap64 ((ji9) + 1)) : Int).toNat).size ≤ 9223372036854775807
            ·rw [if_pos c13] at H
             have c13b0:=eq_true c13
             have c13b1 : decide (x3_1.size + (((⟨#[48,49,50,51,52,53,54,55,56,57,97,98,99,100,101,102]⟩ : ByteArray).extract ((ji4) : Int).toNat ((wrap64 ((ji4) + 1)) : Int).toNat).size) + ((⟨#[48,49,50,51,52,53,54,55,56,57,97,98,99,100,101,102]⟩ : ByteArray).extract ((ji9) : Int).toNat ((wrap64 ((ji9) + 1)) : Int).toNat).size ≤ 9223372036854775807) = true:=decide_eq_true c13
             try have c13b2 : (9223372036854775807 < x3_1.size + (((⟨#[48,49,50,51,52,53,54,55,56,57,97,98,99,100,101,102]⟩ : ByteArray).extract ((ji4) : Int).toNat ((wrap64 ((ji4) + 1)) : Int).toNat).size) + ((⟨#[48,49,50,51,52,53,54,55,56,57,97,98,99,100,101,102]⟩ : ByteArray).extract ((ji9) : Int).toNat ((wrap64 ((ji9) + 1)) : Int).toNat).size) = False:=eq_false (Nat.not_lt.2 c13)
             have g8_ : (9223372036854775807 < x3_1.size + ((wrap64 (ji4 + 1)).toNat - ji4.toNat)) = False:=eq_false (by have h_:=c8;have b_:=c7;simp only [ByteArray.size_extract,show (⟨#[48,49,50,51,52,53,54,55,56,57,97,98,99,100,101,102]⟩ : ByteArray).size = 16 from rfl] at h_;omega)
             have g13_ : (9223372036854775807 < x3_1.size + ((wrap64 (ji4 + 1)).toNat - ji4.toNat) + ((wrap64 (ji9 + 1)).toNat - ji9.toNat)) = False:=eq_false (by have h_:=c13;have b_:=c7;have d_:=c12;simp only [ByteArray.size_extract,show (⟨#[48,49,50,51,52,53,54,55,56,57,97,98,99,100,101,102]⟩ : ByteArray).size = 16 from rfl] at h_;omega)
             have H':=Aside0.mk H
             clear H
             have p117 : 0 ≤ (x4_1 : Int):=of_decide_eq_true (by first|(with_reducible assumption)|assumption)
             have q117 : x4_1 < (l0.length : Int):=of_decide_eq_true (by first|(with_reducible assumption)|assumption)
             obtain ⟨ad117,e117,hx117_0⟩:=Kd.at_int HR0.out x4_1 p117 q117
             cases e117
             replace p117:=eq_true p117
             replace q117:=eq_true q117
             have p118 : 0 ≤ (x4_1 : Int):=of_decide_eq_true (by first|(with_reducible assumption)|assumption)
             have q118 : x4_1 < (l0.length : Int):=of_decide_eq_true (by first|(with_reducible assumption)|assumption)
             obtain ⟨ad118,e118,hx118_0⟩:=Kd.at_int HR0.out x4_1 p118 q118
             obtain rfl : ad117 = ad118:=(by injection e118)
             replace p118:=eq_true p118
             replace q118:=eq_true q118
             go_wp2
             repeat (go_quiet (fail);try go_wp2)
             go_roundg k1
             case measure => have:=HK1.out;omega
             case rel => exact ⟨((x3_1 ++ ((⟨#[48,49,50,51,52,53,54,55,56,57,97,98,99,100,101,102]⟩ : ByteArray).extract ((ji4) : Int).toNat ((wrap64 ((ji4) + 1)) : Int).toNat)) ++ ((⟨#[48,49,50,51,52,53,54,55,56,57,97,98,99,100,101,102]⟩ : ByteArray).extract ((ji9) : Int).toNat ((wrap64 ((ji9) + 1)) : Int).toNat)),(wrap64 (x4_1 + 1)),(by first|rfl|(simp;done)|(simp only [← hji4,← hji9] <;> (first|rfl|simp))|(simp [*];done)),(by first|rfl|(simp;done)|(simp;decide +kernel)|(simp [*];done)),(by first|exact H'|(subst_vars;exact H')),⟨by have:=HK1.out;omega⟩,by repeat (first|exact Drawn0.refl _|apply Drawn0.step)⟩
            ·rw [if_neg c13] at H
             exact absurd H (by simp)
           ·rw [if_neg c12] at H
            exact absurd H (by simp)
          ·rw [if_neg c11] at H
           exact absurd H (by simp)
         ·rw [if_neg c10] at H
          exact absurd H (by simp)
        ·rw [if_neg c8] at H
         exact absurd H (by simp)
       ·rw [if_neg c7] at H
        exact absurd H (by simp)
      ·rw [if_neg c6] at H
       exact absurd H (by simp)
     ·rw [if_neg c5] at H
      exact absurd H (by simp)
    ·rw [if_neg c3] at H
     exact absurd H (by simp)
   ·rw [if_neg c2] at H
    have c2b0 : decide (x4_1 < (l0.length : Int)) = false:=decide_eq_false c2
    clear c2
    obtain rfl:=Option.some.inj H
    go_wp2
    repeat (go_quiet (fail);try go_wp2)
    go_ret
    exact ⟨by first|rfl|(simp;done)|(simp;decide +kernel)|(simp [*];done),by repeat (first|exact Drawn0.refl _|apply Drawn0.step)⟩
end Go.Proofs.YtolpefnedpgaaaaDoor.X
namespace Go.Proofs.YtolpefnedpgaaaaDoor.X
open Go.RowKit Go.Proofs.YtolpefnedpgaaaaDoorW.PrintWords Go.Proofs.YtolpefnedpgaaaaDoorW.PrintLast Go.Proofs.YtolpefnedpgaaaaDoorW.PrintMore
attribute [local go_sem] max2_int min2_int max_two min_two max_three min_three max_four min_four
set_option linter.unusedVariables false
set_option linter.unusedSimpArgs false
mutual
def racewayref23_padded.l0 : Nat → List Int → List Int → Option (List Int)
 | 0,_,_ => none
 | k + 1,x0,x3 => if ((x3.length : Int) % 64) = 56 then (racewayref23_padded.l1 k x3 (IntKind.u64.wrap ((IntKind.u64.wrap ((x0.length : Int))) * 8)) 0) else (if x3.length < 140737488355328 then (racewayref23_padded.l0 k x0 (x3 ++ [0])) else (none))
def racewayref23_padded.l1 : Nat → List Int → Int → Int → Option (List Int)
 | 0,_,_,_ => none
 | k + 1,x3,x4,x5 => if x5 < 8 then (if x3.length < 140737488355328 then (racewayref23_padded.l1 k (x3 ++ [(x4) % 256]) (IntKind.u64.wrap (Int.tdiv x4 256)) (wrap64 (x5 + 1))) else (none)) else (some x3)
end
def racewayref23_padded.f (k : Nat) (l0 : List Int) : Option (List Int):=(some (([] : List Int) : List Int)).bind fun y239 => (if y239.length + l0.length < 140737488355328 then ((some (y239 ++ l0 : List Int)).bind fun y242 => (if y242.length < 140737488355328 then (racewayref23_padded.l0 k l0 (y242 ++ [128])) else (none))) else (none))
set_option maxHeartbeats 8000000 in
set_option maxRecDepth 100000 in
theorem racewayref23_padded.calls (k : Nat) (A0 : Option Addr) (c0 : Nat) (l0 : List Int) (r : List Int) (w : World) (hr0 : Kd.C (Kd.int .u8) w A0 l0.length l0) (hc0 : l0.length ≤ c0) (h : racewayref23_padded.f k l0 = some r) :
  Calls Tryd.prog 80 #[.slice A0 l0.length c0] w fun e w' => ∃ v0_ : Value,e = .returned (v0_) ∧ Kd.R (Kd.int .u8) 5 w' w.heap.size (fun _ => True) v0_ r ∧ Below w.heap.size w w':=by
 have HR0:=Aside0.mk hr0
 have HC0:=Aside0.mk hc0
 clear hr0 hc0
 have HB:=Aside0.mk (Below.refl w.heap.size w)
 have H : ((some (([] : List Int) : List Int)).bind fun y239 => (if y239.length + l0.length < 140737488355328 then ((some (y239 ++ l0 : List Int)).bind fun y242 => (if y242.length < 140737488355328 then (racewayref23_padded.l0 k l0 (y242 ++ [128])) else (none))) else (none))) = some r:=h
 clear h
 obtain ⟨y239,hy239⟩ : ∃ y_ : List Int,y_ = (([] : List Int)):=⟨_,rfl⟩
 replace H : (if y239.length + l0.length < 140737488355328 then ((some (y239 ++ l0 : List Int)).bind fun y242 => (if y242.length < 140737488355328 then (racewayref23_padded.l0 k l0 (y242 ++ [128])) else (none))) else (none)) = some r:=by first|(rw [hy239];with_reducible exact H)|(have H2_:=(Option.bind_some _ _).symm.trans H;rw [hy239];with_reducible exact H2_)|(have H2_:=(Option.bind_some _ _).symm.trans H;with_reducible exact H2_)|with_reducible exact H|(rw [hy239];exact H)|exact H
 have Ny239:=Aside0.mk hy239
 clear hy239
 by_cases c2 : y239.length + l0.length < 140737488355328
 ·rw [if_pos c2] at H
  have LMc2:=Aside0.mk c2
  clear c2
  obtain ⟨y242,hy242⟩ : ∃ y_ : List Int,y_ = (y239 ++ l0):=⟨_,rfl⟩
  replace H : (if y242.length < 140737488355328 then (racewayref23_padded.l0 k l0 (y242 ++ [128])) else (none)) = some r:=by first|(rw [hy242];with_reducible exact H)|(have H2_:=(Option.bind_some _ _).symm.trans H;rw [hy242];with_reducible exact H2_)|(have H2_:=(Option.bind_some _ _).symm.trans H;with_reducible exact H2_)|with_reducible exact H|(rw [hy242];exact H)|exact H
  have Ny242:=Aside0.mk hy242
  clear hy242
  by_cases c3 : y242.length < 140737488355328
  ·rw [if_pos c3] at H
   have LMc3:=Aside0.mk c3
   clear c3
   obtain ⟨y245,hy245⟩ : ∃ y_ : List Int,y_ = (y242 ++ [128]):=⟨_,rfl⟩
   replace H : (racewayref23_padded.l0 k l0 y245) = some r:=by first|(rw [hy245];with_reducible exact H)|(have H2_:=(Option.bind_some _ _).symm.trans H;rw [hy245];with_reducible exact H2_)|(have H2_:=(Option.bind_some _ _).symm.trans H;with_reducible exact H2_)|with_reducible exact H|(rw [hy245];exact H)|exact H
   have Ny245:=Aside0.mk hy245
   clear hy245
   have H':=Aside0.mk H
   clear H
   go_enter Tryd.func80,Tryd.ntmps80
   go_wp2_with (first|((with_reducible refine gate_dst (N:=6) rfl ?_);refine Kd.R_lit (Kd.int .u8) _ 5 ?hg (N:=6) ?hd (xs:=([] : List Int)) (inner:=[]) (ok:=fun _ => True) (okp:=fun _ => True) ?hr ?hp (fun _ hk => hk) trivial (Below.refl _ _) (Nat.le_refl _) (by simp) ?_;(case hd => rfl);(case hg => rfl);(case hr => first|(go_simp;done)|(go_simp;rfl));(case hp => exact (Reps.none _ _));intro v240 w4 ho5 hb hg_ hnew_;clear hg_ hnew_;(first|rw [← Ny239.out] at ho5|(simp only [Int.reduceToNat] at ho5;rw [← Ny239.out] at ho5));have n0_:=Aside0.mk (Kd.R_lower ho5 (below_size (by repeat (first|(with_reducible first|exact HB.out|apply below_alloc|apply pw_below_drewN|apply below_drew1)|exact HB.out))));have n1_:=Aside0.mk (below_step (by repeat (first|(with_reducible first|exact HB.out|apply below_alloc|apply pw_below_drewN|apply below_drew1)|exact HB.out)) hb);clear HB;have HO241:=n0_;have HB:=n1_;clear n0_ n1_;clear hb ho5)|((with_reducible refine gate_builtin (b:=.append) (xs:=#[.tmp 6,.tmp 7]) rfl ?_);at_builtin;refine Kd.R_append_rows (Kd.int .u8) (w0:=w) w.heap.size rfl (.tmp 6) (.tmp 7) 63 5 (.int .u8 0) 1 rfl Tryd.underlying63 info5 rfl (by decide) (by omega) v240 y239 l0 _ _ _ (fun _ => True) (fun _ => False) rfl rfl ?aO ?aR (fun _ _ h => h) (fun _ h => h.elim) ?aF ?aB ?aS ?aL ?_;(case aR => repeat (first|exact (Kd.C_below HR0.out HB.out)|(with_reducible refine Kd.C_alloc ?_ _)|(with_reducible refine Kd.C_drewN ?_ _)|(with_reducible refine Kd.C_drew ?_)));(case aB => exact (by repeat (first|(with_reducible first|exact HB.out|apply below_alloc|apply pw_below_drewN|apply below_drew1)|exact HB.out)));(case aF => exact (fun _ _ => trivial));(case aO => exact (by (with_reducible repeat (first|apply Kd.R_alloc|apply Kd.R_drewN|apply Kd.R_drew));exact HO241.out));(case aS => exact (below_size (by repeat (first|(with_reducible first|exact HB.out|apply below_alloc|apply pw_below_drewN|apply below_drew1)|exact HB.out))));(case aL => have:=LMc2.out;omega);intro v243 w6 ho hb hg hat;rw [← Ny242.out] at ho;have n0_:=Aside0.mk (hb);have n1_:=Aside0.mk (ho);clear HB;clear HO241;have HB:=n0_;have HO244:=n1_;clear n0_ n1_;clear ho hb hg hat)|((with_reducible refine gate_builtin (b:=.append) (xs:=#[.tmp 8,.tmp 9]) rfl ?_);at_builtin;refine Kd.R_append (Kd.int .u8) (w0:=w) w.heap.size rfl (.tmp 8) (.tmp 9) 63 5 (.int .u8 0) 1 rfl Tryd.underlying63 info5 rfl (by decide) (by omega) v243 y242 128 [.int .u8 128] (fun _ => True) (fun _ => False) rfl rfl ?aP (fun _ hk => hk.elim) ?aF ?aO ?aB ?aS ?aL ?_;(case aP => exact rfl);(case aB => exact (by repeat (first|(with_reducible first|exact HB.out|apply below_alloc|apply pw_below_drewN|apply below_drew1)|exact HB.out)));(case aF => exact (fun _ _ => trivial));(case aO => exact (by (with_reducible repeat (first|apply Kd.R_alloc|apply Kd.R_drewN|apply Kd.R_drew));exact HO244.out));(case aS => exact (below_size (by repeat (first|(with_reducible first|exact HB.out|apply below_alloc|apply pw_below_drewN|apply below_drew1)|exact HB.out))));(case aL => have:=LMc3.out;omega);intro v246 w7 ho hb hg hat;rw [← Ny245.out] at ho;have n0_:=Aside0.mk (hb);have n1_:=Aside0.mk (ho);clear HB;clear HO244;have HB:=n0_;have HO247:=n1_;clear n0_ n1_;clear ho hb hg hat))
   go_loopg [3] k (fun kq v3 w' => ∃ (x3_1 : List Int),Aside0 (racewayref23_padded.l0 kq l0 x3_1 = some r) ∧ Aside0 (kq ≤ k) ∧ Aside0 (Kd.R (Kd.int .u8) 5 w' w.heap.size (fun _ => True) v3 x3_1) ∧ Aside0 (Below w.heap.size w w'))
   case atStart => exact ⟨(y245),(by first|exact H'|(subst_vars;exact H')),⟨Nat.le_refl _⟩,⟨by (with_reducible repeat (first|apply Kd.R_alloc|apply Kd.R_drewN|apply Kd.R_drew));exact HO247.out⟩,⟨by repeat (first|(with_reducible first|exact HB.out|apply below_alloc|apply pw_below_drewN|apply below_drew1)|exact HB.out)⟩⟩
   case round =>
    clear H'
    try clear c2
    try clear p2
    try clear c3
    obtain ⟨x3_1,HA,HK1,HO_3,HB⟩:=hrel
    cases gk with
    | zero => exact absurd HA.out (by simp [racewayref23_padded.l0])
    | succ k1 =>
     have H:=HA.out
     clear HA
     simp only [racewayref23_padded.l0] at H
     by_cases c8 : ((x3_1.length : Int) % 64) = 56
     ·rw [if_pos c8] at H
      have c8b0 : (((x3_1.length : Int) % 64) == 56) = true:=beq_iff_eq.mpr c8
      have c8b1 : (((x3_1.length : Int) % 64) != 56) = false:=bne_eq_false_iff_eq.mpr c8
      clear c8
      have H':=Aside0.mk H
      clear H
      obtain ⟨Ao9,co9,eo9⟩:=Kd.R_slice HO_3.out
      subst eo9
      go_wp2
      go_loopg [3,4,5] k1 (fun kq v3 v4 v5 w' => ∃ (x3_2 : List Int) (x4_2 : Int) (x5_2 : Int),v4 = .int .u64 x4_2 ∧ v5 = .int .i64 x5_2 ∧ Aside0 (racewayref23_padded.l1 kq x3_2 x4_2 x5_2 = some r) ∧ Aside0 (kq ≤ k1) ∧ Aside0 (Kd.R (Kd.int .u8) 5 w' w.heap.size (fun _ => True) v3 x3_2) ∧ Aside0 (Below w.heap.size w w'))
      case atStart => exact ⟨(x3_1),(IntKind.u64.wrap ((IntKind.u64.wrap ((l0.length : Int))) * 8)),(0),(by first|rfl|(simp;done)|(simp;decide +kernel)|(simp [*];done)),(by first|rfl|(simp;done)|(simp;decide +kernel)|(simp [*];done)),(by first|exact H'|(subst_vars;exact H')),⟨Nat.le_refl _⟩,⟨by (with_reducible repeat (first|apply Kd.R_alloc|apply Kd.R_drewN|apply Kd.R_drew));exact HO_3.out⟩,⟨by repeat (first|(with_reducible first|exact HB.out|apply below_alloc|apply pw_below_drewN|apply below_drew1)|exact HB.out)⟩⟩
      case round =>
       clear H'
       try clear c2
       try clear p2
       try clear c3
       try clear c8
       try clear c8b0
       try clear c8b1
       try clear p2
       obtain ⟨x3_2,x4_2,x5_2,rfl,rfl,HA,HK2,HO_3,HB⟩:=hrel
       cases gk with
       | zero => exact absurd HA.out (by simp [racewayref23_padded.l1])
       | succ k2 =>
        have H:=HA.out
        clear HA
        simp only [racewayref23_padded.l1] at H
        by_cases c10 : x5_2 < 8
        ·rw [if_pos c10] at H
         have c10b0 : decide (x5_2 < 8) = true:=decide_eq_true c10
         clear c10
         by_cases c11 : x3_2.length < 140737488355328
         ·rw [if_pos c11] at H
          have LMc11:=Aside0.mk c11
          clear c11
          obtain ⟨y251,hy251⟩ : ∃ y_ : List Int,y_ = (x3_2 ++ [(x4_2) % 256]):=⟨_,rfl⟩
          replace H : (racewayref23_padded.l1 k2 y251 (IntKind.u64.wrap (Int.tdiv x4_2 256)) (wrap64 (x5_2 + 1))) = some r:=by first|(rw [hy251];with_reducible exact H)|(have H2_:=(Option.bind_some _ _).symm.trans H;rw [hy251];with_reducible exact H2_)|(have H2_:=(Option.bind_some _ _).symm.trans H;with_reducible exact H2_)|with_reducible exact H|(rw [hy251];exact H)|exact H
          have Ny251:=Aside0.mk hy251
          clear hy251
          have H':=Aside0.mk H
          clear H
          go_wp2_with (first|((with_reducible refine gate_builtin (b:=.append) (xs:=#[.tmp 26,.tmp 29]) rfl ?_);at_builtin;refine Kd.R_append (Kd.int .u8) (w0:=w) w.heap.size rfl (.tmp 26) (.tmp 29) 63 5 (.int .u8 0) 1 rfl Tryd.underlying63 info5 rfl (by decide) (by omega) u3 x3_2 ((x4_2) % 256) [.int .u8 ((x4_2) % 256)] (fun _ => True) (fun _ => False) rfl rfl ?aP (fun _ hk => hk.elim) ?aF ?aO ?aB ?aS ?aL ?_;(case aP => exact rfl);(case aB => exact (by repeat (first|(with_reducible first|exact HB.out|apply below_alloc|apply pw_below_drewN|apply below_drew1)|exact HB.out)));(case aF => exact (fun _ _ => trivial));(case aO => exact (by (with_reducible repeat (first|apply Kd.R_alloc|apply Kd.R_drewN|apply Kd.R_drew));exact HO_3.out));(case aS => exact (below_size (by repeat (first|(with_reducible first|exact HB.out|apply below_alloc|apply pw_below_drewN|apply below_drew1)|exact HB.out))));(case aL => have:=LMc11.out;omega);intro v252 w12 ho hb hg hat;rw [← Ny251.out] at ho;have n0_:=Aside0.mk (hb);have n1_:=Aside0.mk (ho);clear HB;clear HO_3;have HB:=n0_;have HO253:=n1_;clear n0_ n1_;clear ho hb hg hat))
          go_roundg k2
          case measure => have:=HK1.out;have:=HK2.out;omega
          case rel => exact ⟨(y251),(IntKind.u64.wrap (Int.tdiv x4_2 256)),(wrap64 (x5_2 + 1)),(by first|rfl|(simp;done)|(simp;decide +kernel)|(simp [*];done)),(by first|rfl|(simp;done)|(simp;decide +kernel)|(simp [*];done)),(by first|exact H'|(subst_vars;exact H')),⟨by have:=HK1.out;have:=HK2.out;omega⟩,⟨by (with_reducible repeat (first|apply Kd.R_alloc|apply Kd.R_drewN|apply Kd.R_drew));exact HO253.out⟩,⟨by repeat (first|(with_reducible first|exact HB.out|apply below_alloc|apply pw_below_drewN|apply below_drew1)|exact HB.out)⟩⟩
         ·rw [if_neg c11] at H
          exact absurd H (by simp)
        ·rw [if_neg c10] at H
         have c10b0 : decide (x5_2 < 8) = false:=decide_eq_false c10
         clear c10
         obtain rfl:=Option.some.inj H
         go_wp2
         go_ret
         exact ⟨_,by first|rfl|(simp [errW_none,errW_some] <;> rfl)|(simp [*,errW_none,errW_some] <;> rfl),by (with_reducible repeat (first|apply Kd.R_alloc|apply Kd.R_drewN|apply Kd.R_drew));exact HO_3.out,by repeat (first|(with_reducible first|exact HB.out|apply below_alloc|apply pw_below_drewN|apply below_drew1)|exact HB.out)⟩
     ·rw [if_neg c8] at H
      have c8b0 : (((x3_1.length : Int) % 64) == 56) = false:=beq_eq_false_iff_ne.mpr c8
      have c8b1 : (((x3_1.length : Int) % 64) != 56) = true:=bne_iff_ne.mpr c8
      by_cases c13 : x3_1.length < 140737488355328
      ·rw [if_pos c13] at H
       have LMc13:=Aside0.mk c13
       clear c13
       obtain ⟨y248,hy248⟩ : ∃ y_ : List Int,y_ = (x3_1 ++ [0]):=⟨_,rfl⟩
       replace H : (racewayref23_padded.l0 k1 l0 y248) = some r:=by first|(rw [hy248];with_reducible exact H)|(have H2_:=(Option.bind_some _ _).symm.trans H;rw [hy248];with_reducible exact H2_)|(have H2_:=(Option.bind_some _ _).symm.trans H;with_reducible exact H2_)|with_reducible exact H|(rw [hy248];exact H)|exact H
       have Ny248:=Aside0.mk hy248
       clear hy248
       have H':=Aside0.mk H
       clear H
       obtain ⟨Ao14,co14,eo14⟩:=Kd.R_slice HO_3.out
       subst eo14
       go_wp2_with (first|((with_reducible refine gate_builtin (b:=.append) (xs:=#[.tmp 15,.tmp 16]) rfl ?_);at_builtin;refine Kd.R_append (Kd.int .u8) (w0:=w) w.heap.size rfl (.tmp 15) (.tmp 16) 63 5 (.int .u8 0) 1 rfl Tryd.underlying63 info5 rfl (by decide) (by omega) (.slice Ao14 x3_1.length co14) x3_1 0 [.int .u8 0] (fun _ => True) (fun _ => False) rfl rfl ?aP (fun _ hk => hk.elim) ?aF ?aO ?aB ?aS ?aL ?_;(case aP => exact rfl);(case aB => exact (by repeat (first|(with_reducible first|exact HB.out|apply below_alloc|apply pw_below_drewN|apply below_drew1)|exact HB.out)));(case aF => exact (fun _ _ => trivial));(case aO => exact (by (with_reducible repeat (first|apply Kd.R_alloc|apply Kd.R_drewN|apply Kd.R_drew));exact HO_3.out));(case aS => exact (below_size (by repeat (first|(with_reducible first|exact HB.out|apply below_alloc|apply pw_below_drewN|apply below_drew1)|exact HB.out))));(case aL => have:=LMc13.out;omega);intro v249 w15 ho hb hg hat;rw [← Ny248.out] at ho;have n0_:=Aside0.mk (hb);have n1_:=Aside0.mk (ho);clear HB;clear HO_3;have HB:=n0_;have HO250:=n1_;clear n0_ n1_;clear ho hb hg hat))
       go_roundg k1
       case measure => have:=HK1.out;omega
       case rel => exact ⟨(y248),(by first|exact H'|(subst_vars;exact H')),⟨by have:=HK1.out;omega⟩,⟨by (with_reducible repeat (first|apply Kd.R_alloc|apply Kd.R_drewN|apply Kd.R_drew));exact HO250.out⟩,⟨by repeat (first|(with_reducible first|exact HB.out|apply below_alloc|apply pw_below_drewN|apply below_drew1)|exact HB.out)⟩⟩
      ·rw [if_neg c13] at H
       exact absurd H (by simp)
  ·rw [if_neg c3] at H
   exact absurd H (by simp)
 ·rw [if_neg c2] at H
  exact absurd H (by simp)
end Go.Proofs.YtolpefnedpgaaaaDoor.X
namespace Go.Proofs.YtolpefnedpgaaaaDoor.X
open Go.RowKit Go.Proofs.YtolpefnedpgaaaaDoorW.PrintWords Go.Proofs.YtolpefnedpgaaaaDoorW.PrintLast Go.Proofs.YtolpefnedpgaaaaDoorW.PrintMore
attribute [local go_sem] max2_int min2_int max_two min_two max_three min_three max_four min_four
set_option linter.unusedVariables false
set_option linter.unusedSimpArgs false
def racewayref23_sines.f  : Option (List Int):=some (([3614090360,3905402710,606105819,3250441966,4118548399,1200080426,2821735955,4249261313,1770035416,2336552879,4294925233,2304563134,1804603682,4254626195,2792965006,1236535329,4129170786,3225465664,643717713,3921069994,3593408605,38016083,3634488961,3889429448,568446438,3275163606,4107603335,1163531501,2850285829,4243563512,1735328473,2368359562,4294588738,2272392833,1839030562,4259657740,2763975236,1272893353,4139469664,3200236656,681279174,3936430074,3572445317,76029189,3654602809,3873151461,530742520,3299628645,4096336452,1126891415,2878612391,4237533241,1700485571,2399980690,4293915773,2240044497,1873313359,4264355552,2734768916,1309151649,4149444226,3174756917,718787259,3951481745] : List Int))
set_option maxHeartbeats 8000000 in
set_option maxRecDepth 100000 in
theorem racewayref23_sines.calls  (r : List Int) (w : World) (h : racewayref23_sines.f  = some r) :
  Calls Tryd.prog 81 #[] w fun e w' => ∃ v0_ : Value,e = .returned (v0_) ∧ Kd.R (Kd.int .u32) 93 w' w.heap.size (fun _ => True) v0_ r ∧ Below w.heap.size w w':=by
 have HB:=Aside0.mk (Below.refl w.heap.size w)
 have H : (some (([3614090360,3905402710,606105819,3250441966,4118548399,1200080426,2821735955,4249261313,1770035416,2336552879,4294925233,2304563134,1804603682,4254626195,2792965006,1236535329,4129170786,3225465664,643717713,3921069994,3593408605,38016083,3634488961,3889429448,568446438,3275163606,4107603335,1163531501,2850285829,4243563512,1735328473,2368359562,4294588738,2272392833,1839030562,4259657740,2763975236,1272893353,4139469664,3200236656,681279174,3936430074,3572445317,76029189,3654602809,3873151461,530742520,3299628645,4096336452,1126891415,2878612391,4237533241,1700485571,2399980690,4293915773,2240044497,1873313359,4264355552,2734768916,1309151649,4149444226,3174756917,718787259,3951481745] : List Int))) = some r:=h
 clear h
 obtain ⟨y254,hy254⟩ : ∃ y_ : List Int,y_ = (([3614090360,3905402710,606105819,3250441966,4118548399,1200080426,2821735955,4249261313,1770035416,2336552879,4294925233,2304563134,1804603682,4254626195,2792965006,1236535329,4129170786,3225465664,643717713,3921069994,3593408605,38016083,3634488961,3889429448,568446438,3275163606,4107603335,1163531501,2850285829,4243563512,1735328473,2368359562,4294588738,2272392833,1839030562,4259657740,2763975236,1272893353,4139469664,3200236656,681279174,3936430074,3572445317,76029189,3654602809,3873151461,530742520,3299628645,4096336452,1126891415,2878612391,4237533241,1700485571,2399980690,4293915773,2240044497,1873313359,4264355552,2734768916,1309151649,4149444226,3174756917,718787259,3951481745] : List Int)):=⟨_,rfl⟩
 replace H : (some y254) = some r:=by first|(rw [hy254];with_reducible exact H)|(have H2_:=(Option.bind_some _ _).symm.trans H;rw [hy254];with_reducible exact H2_)|(have H2_:=(Option.bind_some _ _).symm.trans H;with_reducible exact H2_)|with_reducible exact H|(rw [hy254];exact H)|exact H
 have Ny254:=Aside0.mk hy254
 clear hy254
 obtain rfl:=Option.some.inj H
 go_enter Tryd.func81,Tryd.ntmps81
 go_wp2_with (first|((with_reducible refine gate_dst (N:=1) rfl ?_);refine Kd.R_lit (Kd.int .u32) _ 93 ?hg (N:=1) ?hd (xs:=([3614090360,3905402710,606105819,3250441966,4118548399,1200080426,2821735955,4249261313,1770035416,2336552879,4294925233,2304563134,1804603682,4254626195,2792965006,1236535329,4129170786,3225465664,643717713,3921069994,3593408605,38016083,3634488961,3889429448,568446438,3275163606,4107603335,1163531501,2850285829,4243563512,1735328473,2368359562,4294588738,2272392833,1839030562,4259657740,2763975236,1272893353,4139469664,3200236656,681279174,3936430074,3572445317,76029189,3654602809,3873151461,530742520,3299628645,4096336452,1126891415,2878612391,4237533241,1700485571,2399980690,4293915773,2240044497,1873313359,4264355552,2734768916,1309151649,4149444226,3174756917,718787259,3951481745] : List Int)) (inner:=[.int .u32 3614090360,.int .u32 3905402710,.int .u32 606105819,.int .u32 3250441966,.int .u32 4118548399,.int .u32 1200080426,.int .u32 2821735955,.int .u32 4249261313,.int .u32 1770035416,.int .u32 2336552879,.int .u32 4294925233,.int .u32 2304563134,.int .u32 1804603682,.int .u32 4254626195,.int .u32 2792965006,.int .u32 1236535329,.int .u32 4129170786,.int .u32 3225465664,.int .u32 643717713,.int .u32 3921069994,.int .u32 3593408605,.int .u32 38016083,.int .u32 3634488961,.int .u32 3889429448,.int .u32 568446438,.int .u32 3275163606,.int .u32 4107603335,.int .u32 1163531501,.int .u32 2850285829,.int .u32 4243563512,.int .u32 1735328473,.int .u32 2368359562,.int .u32 4294588738,.int .u32 2272392833,.int .u32 1839030562,.int .u32 4259657740,.int .u32 2763975236,.int .u32 1272893353,.int .u32 4139469664,.int .u32 3200236656,.int .u32 681279174,.int .u32 3936430074,.int .u32 3572445317,.int .u32 76029189,.int .u32 3654602809,.int .u32 3873151461,.int .u32 530742520,.int .u32 3299628645,.int .u32 4096336452,.int .u32 1126891415,.int .u32 2878612391,.int .u32 4237533241,.int .u32 1700485571,.int .u32 2399980690,.int .u32 4293915773,.int .u32 2240044497,.int .u32 1873313359,.int .u32 4264355552,.int .u32 2734768916,.int .u32 1309151649,.int .u32 4149444226,.int .u32 3174756917,.int .u32 718787259,.int .u32 3951481745]) (ok:=fun _ => True) (okp:=fun _ => True) ?hr ?hp (fun _ hk => hk) trivial (Below.refl _ _) (Nat.le_refl _) (by simp) ?_;(case hd => rfl);(case hg => rfl);(case hr => first|(go_simp;done)|(go_simp;rfl));(case hp => exact (Reps.one (show Kd.M (Kd.int .u32) _ _ _ 3614090360 [.int .u32 3614090360] from rfl) (Reps.one (show Kd.M (Kd.int .u32) _ _ _ 3905402710 [.int .u32 3905402710] from rfl) (Reps.one (show Kd.M (Kd.int .u32) _ _ _ 606105819 [.int .u32 606105819] from rfl) (Reps.one (show Kd.M (Kd.int .u32) _ _ _ 3250441966 [.int .u32 3250441966] from rfl) (Reps.one (show Kd.M (Kd.int .u32) _ _ _ 4118548399 [.int .u32 4118548399] from rfl) (Reps.one (show Kd.M (Kd.int .u32) _ _ _ 1200080426 [.int .u32 1200080426] from rfl) (Reps.one (show Kd.M (Kd.int .u32) _ _ _ 2821735955 [.int .u32 2821735955] from rfl) (Reps.one (show Kd.M (Kd.int .u32) _ _ _ 4249261313 [.int .u32 4249261313] from rfl) (Reps.one (show Kd.M (Kd.int .u32) _ _ _ 1770035416 [.int .u32 1770035416] from rfl) (Reps.one (show Kd.M (Kd.int .u32) _ _ _ 2336552879 [.int .u32 2336552879] from rfl) (Reps.one (show Kd.M (Kd.int .u32) _ _ _ 4294925233 [.int .u32 4294925233] from rfl) (Reps.one (show Kd.M (Kd.int .u32) _ _ _ 2304563134 [.int .u32 2304563134] from rfl) (Reps.one (show Kd.M (Kd.int .u32) _ _ _ 1804603682 [.int .u32 1804603682] from rfl) (Reps.one (show Kd.M (Kd.int .u32) _ _ _ 4254626195 [.int .u32 4254626195] from rfl) (Reps.one (show Kd.M (Kd.int .u32) _ _ _ 2792965006 [.int .u32 2792965006] from rfl) (Reps.one (show Kd.M (Kd.int .u32) _ _ _ 1236535329 [.int .u32 1236535329] from rfl) (Reps.one (show Kd.M (Kd.int .u32) _ _ _ 4129170786 [.int .u32 4129170786] from rfl) (Reps.one (show Kd.M (Kd.int .u32) _ _ _ 3225465664 [.int .u32 3225465664] from rfl) (Reps.one (show Kd.M (Kd.int .u32) _ _ _ 643717713 [.int .u32 643717713] from rfl) (Reps.one (show Kd.M (Kd.int .u32) _ _ _ 3921069994 [.int .u32 3921069994] from rfl) (Reps.one (show Kd.M (Kd.int .u32) _ _ _ 3593408605 [.int .u32 3593408605] from rfl) (Reps.one (show Kd.M (Kd.int .u32) _ _ _ 38016083 [.int .u32 38016083] from rfl) (Reps.one (show Kd.M (Kd.int .u32) _ _ _ 3634488961 [.int .u32 3634488961] from rfl) (Reps.one (show Kd.M (Kd.int .u32) _ _ _ 3889429448 [.int .u32 3889429448] from rfl) (Reps.one (show Kd.M (Kd.int .u32) _ _ _ 568446438 [.int .u32 568446438] from rfl) (Reps.one (show Kd.M (Kd.int .u32) _ _ _ 3275163606 [.int .u32 3275163606] from rfl) (Reps.one (show Kd.M (Kd.int .u32) _ _ _ 4107603335 [.int .u32 4107603335] from rfl) (Reps.one (show Kd.M (Kd.int .u32) _ _ _ 1163531501 [.int .u32 1163531501] from rfl) (Reps.one (show Kd.M (Kd.int .u32) _ _ _ 2850285829 [.int .u32 2850285829] from rfl) (Reps.one (show Kd.M (Kd.int .u32) _ _ _ 4243563512 [.int .u32 4243563512] from rfl) (Reps.one (show Kd.M (Kd.int .u32) _ _ _ 1735328473 [.int .u32 1735328473] from rfl) (Reps.one (show Kd.M (Kd.int .u32) _ _ _ 2368359562 [.int .u32 2368359562] from rfl) (Reps.one (show Kd.M (Kd.int .u32) _ _ _ 4294588738 [.int .u32 4294588738] from rfl) (Reps.one (show Kd.M (Kd.int .u32) _ _ _ 2272392833 [.int .u32 2272392833] from rfl) (Reps.one (show Kd.M (Kd.int .u32) _ _ _ 1839030562 [.int .u32 1839030562] from rfl) (Reps.one (show Kd.M (Kd.int .u32) _ _ _ 4259657740 [.int .u32 4259657740] from rfl) (Reps.one (show Kd.M (Kd.int .u32) _ _ _ 2763975236 [.int .u32 2763975236] from rfl) (Reps.one (show Kd.M (Kd.int .u32) _ _ _ 1272893353 [.int .u32 1272893353] from rfl) (Reps.one (show Kd.M (Kd.int .u32) _ _ _ 4139469664 [.int .u32 4139469664] from rfl) (Reps.one (show Kd.M (Kd.int .u32) _ _ _ 3200236656 [.int .u32 3200236656] from rfl) (Reps.one (show Kd.M (Kd.int .u32) _ _ _ 681279174 [.int .u32 681279174] from rfl) (Reps.one (show Kd.M (Kd.int .u32) _ _ _ 3936430074 [.int .u32 3936430074] from rfl) (Reps.one (show Kd.M (Kd.int .u32) _ _ _ 3572445317 [.int .u32 3572445317] from rfl) (Reps.one (show Kd.M (Kd.int .u32) _ _ _ 76029189 [.int .u32 76029189] from rfl) (Reps.one (show Kd.M (Kd.int .u32) _ _ _ 3654602809 [.int .u32 3654602809] from rfl) (Reps.one (show Kd.M (Kd.int .u32) _ _ _ 3873151461 [.int .u32 3873151461] from rfl) (Reps.one (show Kd.M (Kd.int .u32) _ _ _ 530742520 [.int .u32 530742520] from rfl) (Reps.one (show Kd.M (Kd.int .u32) _ _ _ 3299628645 [.int .u32 3299628645] from rfl) (Reps.one (show Kd.M (Kd.int .u32) _ _ _ 4096336452 [.int .u32 4096336452] from rfl) (Reps.one (show Kd.M (Kd.int .u32) _ _ _ 1126891415 [.int .u32 1126891415] from rfl) (Reps.one (show Kd.M (Kd.int .u32) _ _ _ 2878612391 [.int .u32 2878612391] from rfl) (Reps.one (show Kd.M (Kd.int .u32) _ _ _ 4237533241 [.int .u32 4237533241] from rfl) (Reps.one (show Kd.M (Kd.int .u32) _ _ _ 1700485571 [.int .u32 1700485571] from rfl) (Reps.one (show Kd.M (Kd.int .u32) _ _ _ 2399980690 [.int .u32 2399980690] from rfl) (Reps.one (show Kd.M (Kd.int .u32) _ _ _ 4293915773 [.int .u32 4293915773] from rfl) (Reps.one (show Kd.M (Kd.int .u32) _ _ _ 2240044497 [.int .u32 2240044497] from rfl) (Reps.one (show Kd.M (Kd.int .u32) _ _ _ 1873313359 [.int .u32 1873313359] from rfl) (Reps.one (show Kd.M (Kd.int .u32) _ _ _ 4264355552 [.int .u32 4264355552] from rfl) (Reps.one (show Kd.M (Kd.int .u32) _ _ _ 2734768916 [.int .u32 2734768916] from rfl) (Reps.one (show Kd.M (Kd.int .u32) _ _ _ 1309151649 [.int .u32 1309151649] from rfl) (Reps.one (show Kd.M (Kd.int .u32) _ _ _ 4149444226 [.int .u32 4149444226] from rfl) (Reps.one (show Kd.M (Kd.int .u32) _ _ _ 3174756917 [.int .u32 3174756917] from rfl) (Reps.one (show Kd.M (Kd.int .u32) _ _ _ 718787259 [.int .u32 718787259] from rfl) (Reps.one (show Kd.M (Kd.int .u32) _ _ _ 3951481745 [.int .u32 3951481745] from rfl) (Reps.none _ _))))))))))))))))))))))))))))))))))))))))))))))))))))))))))))))))));intro v255 w1 ho2 hb hg_ hnew_;clear hg_ hnew_;(first|rw [← Ny254.out] at ho2|(simp only [Int.reduceToNat] at ho2;rw [← Ny254.out] at ho2));have n0_:=Aside0.mk (Kd.R_lower ho2 (below_size (by repeat (first|(with_reducible first|exact HB.out|apply below_alloc|apply pw_below_drewN|apply below_drew1)|exact HB.out))));have n1_:=Aside0.mk (below_step (by repeat (first|(with_reducible first|exact HB.out|apply below_alloc|apply pw_below_drewN|apply below_drew1)|exact HB.out)) hb);clear HB;have HO256:=n0_;have HB:=n1_;clear n0_ n1_;clear hb ho2))
 go_ret
 exact ⟨_,by first|rfl|(simp [errW_none,errW_some] <;> rfl)|(simp [*,errW_none,errW_some] <;> rfl),by (with_reducible repeat (first|apply Kd.R_alloc|apply Kd.R_drewN|apply Kd.R_drew));exact HO256.out,by repeat (first|(with_reducible first|exact HB.out|apply below_alloc|apply pw_below_drewN|apply below_drew1)|exact HB.out)⟩
end Go.Proofs.YtolpefnedpgaaaaDoor.X
namespace Go.Proofs.YtolpefnedpgaaaaDoor.X
open Go.RowKit Go.Proofs.YtolpefnedpgaaaaDoorW.PrintWords Go.Proofs.YtolpefnedpgaaaaDoorW.PrintLast Go.Proofs.YtolpefnedpgaaaaDoorW.PrintMore
attribute [local go_sem] max2_int min2_int max_two min_two max_three min_three max_four min_four
set_option linter.unusedVariables false
set_option linter.unusedSimpArgs false
def racewayref23_turn.f (a0 : Int) (a1 : Int) : Option (Int):=if 0 ≤ a1 then (if 0 ≤ (wrap64 (32 - a1)) then (some (Go.bits .or .u32 (shl .u32 a0 a1) (shr .u32 a0 (wrap64 (32 - a1))))) else (none)) else (none)
set_option maxHeartbeats 8000000 in
set_option maxRecDepth 100000 in
theorem racewayref23_turn.calls (a0 : Int) (a1 : Int) (r : Int) (w : World) (h : racewayref23_turn.f a0 a1 = some r) :
  Calls Tryd.prog 102 #[.int .u32 a0,.int .i64 a1] w fun e w' => e = .returned (.int .u32 r) ∧ Drawn0 w w':=by
 have H : (if 0 ≤ a1 then (if 0 ≤ (wrap64 (32 - a1)) then (some (Go.bits .or .u32 (shl .u32 a0 a1) (shr .u32 a0 (wrap64 (32 - a1))))) else (none)) else (none)) = some r:=h
 clear h
 by_cases c3 : 0 ≤ a1
 ·rw [if_pos c3] at H
  have c3b0:=eq_true c3
  have c3b1 : decide (0 ≤ a1) = true:=decide_eq_true c3
  clear c3
  obtain ⟨ji4,hji4⟩ : ∃ j_ : Int,(shl .u32 a0 a1) = j_:=⟨_,rfl⟩
  replace H : (if 0 ≤ (wrap64 (32 - a1)) then (some (Go.bits .or .u32 (ji4) (shr .u32 a0 (wrap64 (32 - a1))))) else (none)) = some r:=by first|(rw [hji4] at H;exact H)|(simp only [hji4] at H ⊢;exact H)
  have hji4_ : (IntKind.u32.wrap (a0 * 2 ^ min a1.toNat 32)) = ji4:=hji4
  have hji4z : a1 ≤ 32 → (IntKind.u32.wrap (a0 * 2 ^ a1.toNat)) = ji4:=shl_small hji4
  obtain ⟨ji5,hji5⟩ : ∃ j_ : Int,(wrap64 (32 - a1)) = j_:=⟨_,rfl⟩
  replace H : (if 0 ≤ (ji5) then (some (Go.bits .or .u32 (ji4) (shr .u32 a0 (ji5)))) else (none)) = some r:=by first|(rw [hji5] at H;exact H)|(simp only [hji5] at H ⊢;exact H)
  have hji5w : (IntKind.i64.wrap (32 - a1)) = ji5:=(i64_w _).trans hji5
  by_cases c6 : 0 ≤ (ji5)
  ·rw [if_pos c6] at H
   have c6b0:=eq_true c6
   have c6b1 : decide (0 ≤ (ji5)) = true:=decide_eq_true c6
   clear c6
   obtain ⟨ji7,hji7⟩ : ∃ j_ : Int,(shr .u32 a0 (ji5)) = j_:=⟨_,rfl⟩
   replace H : (some (Go.bits .or .u32 (ji4) (ji7))) = some r:=by first|(rw [hji7] at H;exact H)|(simp only [hji7] at H ⊢;exact H)
   have hji7_ : (a0 / 2 ^ min (ji5).toNat 32) = ji7:=hji7
   have hji7z : (ji5) ≤ 32 → (a0 / 2 ^ (ji5).toNat) = ji7:=shr_small hji7
   obtain rfl:=Option.some.inj H
   go_enter Tryd.func102,Tryd.ntmps102
   go_wp2
   repeat (go_quiet (fail);try go_wp2)
   go_ret
   exact ⟨by first|rfl|(simp;done)|(simp only [← hji4,← hji5,← hji7] <;> (first|rfl|simp))|(simp [*];done),by repeat (first|exact Drawn0.refl _|apply Drawn0.step)⟩
  ·rw [if_neg c6] at H
   exact absurd H (by simp)
 ·rw [if_neg c3] at H
  exact absurd H (by simp)
end Go.Proofs.YtolpefnedpgaaaaDoor.X
namespace Go.Proofs.YtolpefnedpgaaaaDoor.X
open Go.RowKit Go.Proofs.YtolpefnedpgaaaaDoorW.PrintWords Go.Proofs.YtolpefnedpgaaaaDoorW.PrintLast Go.Proofs.YtolpefnedpgaaaaDoorW.PrintMore
attribute [local go_sem] max2_int min2_int max_two min_two max_three min_three max_four min_four
set_option linter.unusedVariables false
set_option linter.unusedSimpArgs false
def racewayref23_round.f (l0 : List Int) (a1 : Int) (a2 : Int) : Option (List Int):=if 3 < (l0.length : Int) then (if 1 < (l0.length : Int) then (if 0 < (l0.length : Int) then ((racewayref23_turn.f (((rd l0 0) + a1) % 4294967296) a2).bind fun t233 => (if 2 < (l0.length : Int) then (some (([rd l0 3,((rd l0 1) + t233) % 4294967296,rd l0 1,rd l0 2] : List Int))) else (none))) else (none)) else (none)) else (none)
def racewayref23_round.T1 : Bool × List (List Nat × List Nat):=(true,[([],[]),([0],[0]),([1],[1]),([],[]),([3],[3]),([4],[4]),([],[]),([6],[6]),([7],[7]),([],[]),([8,9],[8,9]),([],[]),([10,11],[10,11]),([5,12],[5,12]),([],[]),([14],[14]),([15],[15]),([],[]),([17],[17]),([18],[18]),([2,13,16,19],[2,13,16,19]),([20,12,0,1,2,3,4,5,6,7,8,9,10,11,12,13,14,15,16,17,18,19,20],[20])])
def racewayref23_round.B1 : List Nat:=[0,1,3,0,8,24,0,64,192,0,960,0,4032,8184,0,16384,49152,0,131072,393216,1048575,2097151]
theorem racewayref23_round.tab1 : rtab .any (opsOf Tryd.f82 1) = racewayref23_round.T1:=by kernel_rfl
theorem racewayref23_round.bits1 : waitsOk racewayref23_round.T1.2 racewayref23_round.B1 = true:=by kernel_rfl
set_option maxHeartbeats 8000000 in
set_option maxRecDepth 100000 in
theorem racewayref23_round.calls (A0 : Option Addr) (c0 : Nat) (l0 : List Int) (a1 : Int) (a2 : Int) (r : List Int) (w : World) (hr0 : Kd.C (Kd.int .u32) w A0 l0.length l0) (hc0 : l0.length ≤ c0) (h : racewayref23_round.f l0 a1 a2 = some r) :
  Calls Tryd.prog 82 #[.slice A0 l0.length c0,.int .u32 a1,.int .i64 a2] w fun e w' => ∃ v0_ : Value,e = .returned (v0_) ∧ Kd.R (Kd.int .u32) 93 w' w.heap.size (fun _ => True) v0_ r ∧ Below w.heap.size w w':=by
 have HR0:=Aside0.mk hr0
 have HC0:=Aside0.mk hc0
 clear hr0 hc0
 have HB:=Aside0.mk (Below.refl w.heap.size w)
 have H : (if 3 < (l0.length : Int) then (if 1 < (l0.length : Int) then (if 0 < (l0.length : Int) then ((racewayref23_turn.f (((rd l0 0) + a1) % 4294967296) a2).bind fun t233 => (if 2 < (l0.length : Int) then (some (([rd l0 3,((rd l0 1) + t233) % 4294967296,rd l0 1,rd l0 2] : List Int))) else (none))) else (none)) else (none)) else (none)) = some r:=h
 clear h
 by_cases c4 : 3 < (l0.length : Int)
 ·rw [if_pos c4] at H
  have c4b0 : decide (3 < (l0.length : Int)) = true:=decide_eq_true c4
  have c4b1 : decide (3 < l0.length) = true:=decide_eq_true (by omega)
  clear c4
  by_cases c5 : 1 < (l0.length : Int)
  ·rw [if_pos c5] at H
   have c5b0 : decide (1 < (l0.length : Int)) = true:=decide_eq_true c5
   have c5b1 : decide (1 < l0.length) = true:=decide_eq_true (by omega)
   clear c5
   by_cases c6 : 0 < (l0.length : Int)
   ·rw [if_pos c6] at H
    have c6b0 : decide (0 < (l0.length : Int)) = true:=decide_eq_true c6
    have c6b1 : decide (0 < l0.length) = true:=decide_eq_true (by omega)
    clear c6
    replace H:=Option.bind_eq_some_iff.mp H
    obtain ⟨t233,A70,H⟩:=H
    replace H : (if 2 < (l0.length : Int) then (some (([rd l0 3,((rd l0 1) + t233) % 4294967296,rd l0 1,rd l0 2] : List Int))) else (none)) = some r:=H
    have A7:=Aside0.mk A70
    clear A70
    by_cases c8 : 2 < (l0.length : Int)
    ·rw [if_pos c8] at H
     have c8b0 : decide (2 < (l0.length : Int)) = true:=decide_eq_true c8
     have c8b1 : decide (2 < l0.length) = true:=decide_eq_true (by omega)
     clear c8
     obtain ⟨y236,hy236⟩ : ∃ y_ : List Int,y_ = (([rd l0 3,((rd l0 1) + t233) % 4294967296,rd l0 1,rd l0 2] : List Int)):=⟨_,rfl⟩
     replace H : (some y236) = some r:=by first|(rw [hy236];with_reducible exact H)|(have H2_:=(Option.bind_some _ _).symm.trans H;rw [hy236];with_reducible exact H2_)|(have H2_:=(Option.bind_some _ _).symm.trans H;with_reducible exact H2_)|with_reducible exact H|(rw [hy236];exact H)|exact H
     have Ny236:=Aside0.mk hy236
     clear hy236
     obtain rfl:=Option.some.inj H
     go_enter Tryd.func82,Tryd.ntmps82
     try go_wp2
     have n0_:=Aside0.mk (below_drew1 HB.out)
     clear HB
     have HB:=n0_
     clear n0_
     have p230 : 0 ≤ (3 : Int):=(by omega)
     have q230 : 3 < (l0.length : Int):=of_decide_eq_true (by first|(with_reducible assumption)|assumption)
     obtain ⟨ad230,e230,hx230_0⟩:=Kd.at_int HR0.out 3 p230 q230
     have hw230_0:=hx230_0
     (try rw [show ((3 : Int)).toNat = 3 from rfl] at hw230_0)
     (try rw [show 3 * 1 = 3 from rfl] at hw230_0)
     (try simp only [Nat.reduceMul,Nat.reduceEqDiff,Go.Addr.add,↓reduceIte] at hw230_0)
     cases e230
     (try simp only [show (3 : Int).toNat = 3 from rfl,Nat.reduceMul,Nat.reduceEqDiff,Go.Addr.add,↓reduceIte] at hx230_0)
     have qi230 : (3 < l0.length) = True:=eq_true (by omega)
     (try rw [show ((3 : Int)).toNat = 3 from rfl] at hx230_0)
     replace hx230_0:=(HB.out.cell (World.block_lt_of_cell? w _ hx230_0)).trans hx230_0
     replace p230:=eq_true p230
     replace q230:=eq_true q230
     have p231 : 0 ≤ (1 : Int):=(by omega)
     have q231 : 1 < (l0.length : Int):=of_decide_eq_true (by first|(with_reducible assumption)|assumption)
     obtain ⟨ad231,e231,hx231_0⟩:=Kd.at_int HR0.out 1 p231 q231
     have hw231_0:=hx231_0
     (try rw [show ((1 : Int)).toNat = 1 from rfl] at hw231_0)
     (try rw [show 1 * 1 = 1 from rfl] at hw231_0)
     (try simp only [Nat.reduceMul,Nat.reduceEqDiff,Go.Addr.add,↓reduceIte] at hw231_0)
     obtain rfl : ad230 = ad231:=(by injection e231)
     (try simp only [show (1 : Int).toNat = 1 from rfl,Nat.reduceMul,Nat.reduceEqDiff,Go.Addr.add,↓reduceIte] at hx231_0)
     have qi231 : (1 < l0.length) = True:=eq_true (by omega)
     (try rw [show ((1 : Int)).toNat = 1 from rfl] at hx231_0)
     replace hx231_0:=(HB.out.cell (World.block_lt_of_cell? w _ hx231_0)).trans hx231_0
     replace p231:=eq_true p231
     replace q231:=eq_true q231
     have p232 : 0 ≤ (0 : Int):=(by omega)
     have q232 : 0 < (l0.length : Int):=of_decide_eq_true (by first|(with_reducible assumption)|assumption)
     obtain ⟨ad232,e232,hx232_0⟩:=Kd.at_int HR0.out 0 p232 q232
     have hw232_0:=hx232_0
     (try rw [show ((0 : Int)).toNat = 0 from rfl] at hw232_0)
     (try rw [show 0 * 1 = 0 from rfl] at hw232_0)
     (try rw [Addr.add_zero'] at hw232_0)
     obtain rfl : ad230 = ad232:=(by injection e232)
     have qi232 : (0 < l0.length) = True:=eq_true (by omega)
     (try rw [show ((0 : Int)).toNat = 0 from rfl] at hx232_0)
     (try rw [Addr.add_zero'] at hx232_0)
     replace hx232_0:=(HB.out.cell (World.block_lt_of_cell? w _ hx232_0)).trans hx232_0
     replace p232:=eq_true p232
     replace q232:=eq_true q232
     have p234 : 0 ≤ (1 : Int):=(by omega)
     have q234 : 1 < (l0.length : Int):=of_decide_eq_true (by first|(with_reducible assumption)|assumption)
     obtain ⟨ad234,e234,hx234_0⟩:=Kd.at_int HR0.out 1 p234 q234
     have hw234_0:=hx234_0
     (try rw [show ((1 : Int)).toNat = 1 from rfl] at hw234_0)
     (try rw [show 1 * 1 = 1 from rfl] at hw234_0)
     (try simp only [Nat.reduceMul,Nat.reduceEqDiff,Go.Addr.add,↓reduceIte] at hw234_0)
     obtain rfl : ad230 = ad234:=(by injection e234)
     (try simp only [show (1 : Int).toNat = 1 from rfl,Nat.reduceMul,Nat.reduceEqDiff,Go.Addr.add,↓reduceIte] at hx234_0)
     have qi234 : (1 < l0.length) = True:=eq_true (by omega)
     (try rw [show ((1 : Int)).toNat = 1 from rfl] at hx234_0)
     replace hx234_0:=(HB.out.cell (World.block_lt_of_cell? w _ hx234_0)).trans hx234_0
     replace p234:=eq_true p234
     replace q234:=eq_true q234
     have p235 : 0 ≤ (2 : Int):=(by omega)
     have q235 : 2 < (l0.length : Int):=of_decide_eq_true (by first|(with_reducible assumption)|assumption)
     obtain ⟨ad235,e235,hx235_0⟩:=Kd.at_int HR0.out 2 p235 q235
     have hw235_0:=hx235_0
     (try rw [show ((2 : Int)).toNat = 2 from rfl] at hw235_0)
     (try rw [show 2 * 1 = 2 from rfl] at hw235_0)
     (try simp only [Nat.reduceMul,Nat.reduceEqDiff,Go.Addr.add,↓reduceIte] at hw235_0)
     obtain rfl : ad230 = ad235:=(by injection e235)
     (try simp only [show (2 : Int).toNat = 2 from rfl,Nat.reduceMul,Nat.reduceEqDiff,Go.Addr.add,↓reduceIte] at hx235_0)
     have qi235 : (2 < l0.length) = True:=eq_true (by omega)
     (try rw [show ((2 : Int)).toNat = 2 from rfl] at hx235_0)
     replace hx235_0:=(HB.out.cell (World.block_lt_of_cell? w _ hx235_0)).trans hx235_0
     replace p235:=eq_true p235
     replace q235:=eq_true q235
     refine start_ (n:=22) (S:=fun w' => w'.cell? ⟨ad230.block,ad230.off + 3,none⟩ = some (.int .u32 (rd l0 3)) ∧ w'.cell? ⟨ad230.block,ad230.off + 1,none⟩ = some (.int .u32 (rd l0 1)) ∧ w'.cell? ad230 = some (.int .u32 (rd l0 0)) ∧ w'.cell? ⟨ad230.block,ad230.off + 1,none⟩ = some (.int .u32 (rd l0 1)) ∧ w'.cell? ⟨ad230.block,ad230.off + 2,none⟩ = some (.int .u32 (rd l0 2))) (ds:=[]) #[false,false,false,false,false,false,false,false,false,false,false,false,false,false,false,false,false,false,false,false,false,false] (by kernel_rfl) rfl rfl ⟨((HB.out.cell (World.block_lt_of_cell? w _ hw230_0)).trans hw230_0),((HB.out.cell (World.block_lt_of_cell? w _ hw231_0)).trans hw231_0),((HB.out.cell (World.block_lt_of_cell? w _ hw232_0)).trans hw232_0),((HB.out.cell (World.block_lt_of_cell? w _ hw234_0)).trans hw234_0),((HB.out.cell (World.block_lt_of_cell? w _ hw235_0)).trans hw235_0)⟩ (fun hHeld => ?_);refine with_tabW racewayref23_round.tab1 racewayref23_round.bits1 (fun HT_ HW_ => ?_)
     generalize w.drew = w9 at HB hx230_0 hx231_0 hx232_0 hx234_0 hx235_0 hHeld ⊢
     refine pure_ (i:=0) (N:=some 7) (v:=?_) (a':=?_) #[true,false,false,false,false,false,false,false,false,false,false,false,false,false,false,false,false,false,false,false,false,false] rfl rfl (any_of HT_.out (by kernel_rfl)) (fun _ _ _ h => h) (Or.inl ⟨by rfl,?_⟩) ?_ ?_
     rotate_left
     ·intro w'
      go_simp
      with_reducible rfl
     rotate_left
     ·simp only [Act.put,List.setIfInBounds_toArray,List.set_cons_zero,List.set_cons_succ,i64_w,i32_w]
      rfl
     refine pure_ (i:=1) (N:=some 8) (v:=?_) (a':=?_) #[true,true,false,false,false,false,false,false,false,false,false,false,false,false,false,false,false,false,false,false,false,false] rfl rfl (any_of HT_.out (by kernel_rfl)) (fun _ _ _ h => h) (Or.inl ⟨by rfl,?_⟩) ?_ ?_
     rotate_left
     ·intro w'
      go_simp
      with_reducible rfl
     rotate_left
     ·simp only [Act.put,List.setIfInBounds_toArray,List.set_cons_zero,List.set_cons_succ,i64_w,i32_w]
      rfl
     refine pure_ (i:=3) (N:=some 10) (v:=?_) (a':=?_) #[true,true,false,true,false,false,false,false,false,false,false,false,false,false,false,false,false,false,false,false,false,false] rfl rfl (any_of HT_.out (by kernel_rfl)) (fun _ _ _ h => h) (Or.inl ⟨by rfl,?_⟩) ?_ ?_
     rotate_left
     ·intro w'
      go_simp
      with_reducible rfl
     rotate_left
     ·simp only [Act.put,List.setIfInBounds_toArray,List.set_cons_zero,List.set_cons_succ,i64_w,i32_w]
      rfl
     refine pure_ (i:=4) (N:=some 11) (v:=?_) (a':=?_) #[true,true,false,true,true,false,false,false,false,false,false,false,false,false,false,false,false,false,false,false,false,false] rfl rfl (any_of HT_.out (by kernel_rfl)) (fun _ _ _ h => h) (Or.inl ⟨by rfl,?_⟩) ?_ ?_
     rotate_left
     ·intro w'
      go_simp
      with_reducible rfl
     rotate_left
     ·simp only [Act.put,List.setIfInBounds_toArray,List.set_cons_zero,List.set_cons_succ,i64_w,i32_w]
      rfl
     refine pure_ (i:=6) (N:=some 13) (v:=?_) (a':=?_) #[true,true,false,true,true,false,true,false,false,false,false,false,false,false,false,false,false,false,false,false,false,false] rfl rfl (any_of HT_.out (by kernel_rfl)) (fun _ _ _ h => h) (Or.inl ⟨by rfl,?_⟩) ?_ ?_
     rotate_left
     ·intro w'
      go_simp
      with_reducible rfl
     rotate_left
     ·simp only [Act.put,List.setIfInBounds_toArray,List.set_cons_zero,List.set_cons_succ,i64_w,i32_w]
      rfl
     refine pure_ (i:=7) (N:=some 14) (v:=?_) (a':=?_) #[true,true,false,true,true,false,true,true,false,false,false,false,false,false,false,false,false,false,false,false,false,false] rfl rfl (any_of HT_.out (by kernel_rfl)) (fun _ _ _ h => h) (Or.inl ⟨by rfl,?_⟩) ?_ ?_
     rotate_left
     ·intro w'
      go_simp
      with_reducible rfl
     rotate_left
     ·simp only [Act.put,List.setIfInBounds_toArray,List.set_cons_zero,List.set_cons_succ,i64_w,i32_w]
      rfl
     refine pure_ (i:=9) (N:=some 16) (v:=?_) (a':=?_) #[true,true,false,true,true,false,true,true,false,true,false,false,false,false,false,false,false,false,false,false,false,false] rfl rfl (any_of HT_.out (by kernel_rfl)) (fun _ _ _ h => h) (Or.inl ⟨by rfl,?_⟩) ?_ ?_
     rotate_left
     ·intro w'
      go_simp
      with_reducible rfl
     rotate_left
     ·simp only [Act.put,List.setIfInBounds_toArray,List.set_cons_zero,List.set_cons_succ,i64_w,i32_w]
      rfl
     refine pure_ (i:=11) (N:=some 18) (v:=?_) (a':=?_) #[true,true,false,true,true,false,true,true,false,true,false,true,false,false,false,false,false,false,false,false,false,false] rfl rfl (any_of HT_.out (by kernel_rfl)) (fun _ _ _ h => h) (Or.inl ⟨by rfl,?_⟩) ?_ ?_
     rotate_left
     ·intro w'
      go_simp
      with_reducible rfl
     rotate_left
     ·simp only [Act.put,List.setIfInBounds_toArray,List.set_cons_zero,List.set_cons_succ,i64_w,i32_w]
      rfl
     refine pure_ (i:=14) (N:=some 21) (v:=?_) (a':=?_) #[true,true,false,true,true,false,true,true,false,true,false,true,false,false,true,false,false,false,false,false,false,false] rfl rfl (any_of HT_.out (by kernel_rfl)) (fun _ _ _ h => h) (Or.inl ⟨by rfl,?_⟩) ?_ ?_
     rotate_left
     ·intro w'
      go_simp
      with_reducible rfl
     rotate_left
     ·simp only [Act.put,List.setIfInBounds_toArray,List.set_cons_zero,List.set_cons_succ,i64_w,i32_w]
      rfl
     refine pure_ (i:=15) (N:=some 22) (v:=?_) (a':=?_) #[true,true,false,true,true,false,true,true,false,true,false,true,false,false,true,true,false,false,false,false,false,false] rfl rfl (any_of HT_.out (by kernel_rfl)) (fun _ _ _ h => h) (Or.inl ⟨by rfl,?_⟩) ?_ ?_
     rotate_left
     ·intro w'
      go_simp
      with_reducible rfl
     rotate_left
     ·simp only [Act.put,List.setIfInBounds_toArray,List.set_cons_zero,List.set_cons_succ,i64_w,i32_w]
      rfl
     refine pure_ (i:=17) (N:=some 24) (v:=?_) (a':=?_) #[true,true,false,true,true,false,true,true,false,true,false,true,false,false,true,true,false,true,false,false,false,false] rfl rfl (any_of HT_.out (by kernel_rfl)) (fun _ _ _ h => h) (Or.inl ⟨by rfl,?_⟩) ?_ ?_
     rotate_left
     ·intro w'
      go_simp
      with_reducible rfl
     rotate_left
     ·simp only [Act.put,List.setIfInBounds_toArray,List.set_cons_zero,List.set_cons_succ,i64_w,i32_w]
      rfl
     refine pure_ (i:=18) (N:=some 25) (v:=?_) (a':=?_) #[true,true,false,true,true,false,true,true,false,true,false,true,false,false,true,true,false,true,true,false,false,false] rfl rfl (any_of HT_.out (by kernel_rfl)) (fun _ _ _ h => h) (Or.inl ⟨by rfl,?_⟩) ?_ ?_
     rotate_left
     ·intro w'
      go_simp
      with_reducible rfl
     rotate_left
     ·simp only [Act.put,List.setIfInBounds_toArray,List.set_cons_zero,List.set_cons_succ,i64_w,i32_w]
      rfl
     refine take_ (i:=2) (N:=some 9) (v:=?_) (a':=?_) #[true,true,true,true,true,false,true,true,false,true,false,true,false,false,true,true,false,true,true,false,false,false] rfl rfl (take_ofW HT_.out HW_.out (by kernel_rfl)) (fun _ _ _ h => h) (Or.inl ⟨by rfl,?_⟩) hHeld ?_ ?_
     rotate_left
     ·rintro w' ⟨s0,s1,s2,s3,s4⟩
      go_simp
      with_reducible rfl
     rotate_left
     ·simp only [Act.put,List.setIfInBounds_toArray,List.set_cons_zero,List.set_cons_succ,i64_w,i32_w]
      rfl
     refine take_ (i:=5) (N:=some 12) (v:=?_) (a':=?_) #[true,true,true,true,true,true,true,true,false,true,false,true,false,false,true,true,false,true,true,false,false,false] rfl rfl (take_ofW HT_.out HW_.out (by kernel_rfl)) (fun _ _ _ h => h) (Or.inl ⟨by rfl,?_⟩) hHeld ?_ ?_
     rotate_left
     ·rintro w' ⟨s0,s1,s2,s3,s4⟩
      go_simp
      with_reducible rfl
     rotate_left
     ·simp only [Act.put,List.setIfInBounds_toArray,List.set_cons_zero,List.set_cons_succ,i64_w,i32_w]
      rfl
     refine take_ (i:=8) (N:=some 15) (v:=?_) (a':=?_) #[true,true,true,true,true,true,true,true,true,true,false,true,false,false,true,true,false,true,true,false,false,false] rfl rfl (take_ofW HT_.out HW_.out (by kernel_rfl)) (fun _ _ _ h => h) (Or.inl ⟨by rfl,?_⟩) hHeld ?_ ?_
     rotate_left
     ·rintro w' ⟨s0,s1,s2,s3,s4⟩
      go_simp
      with_reducible rfl
     rotate_left
     ·simp only [Act.put,List.setIfInBounds_toArray,List.set_cons_zero,List.set_cons_succ,i64_w,i32_w]
      rfl
     refine pure_ (i:=10) (N:=some 17) (v:=?_) (a':=?_) #[true,true,true,true,true,true,true,true,true,true,true,true,false,false,true,true,false,true,true,false,false,false] rfl rfl (any_of HT_.out (by kernel_rfl)) (fun _ _ _ h => h) (Or.inl ⟨by rfl,?_⟩) ?_ ?_
     rotate_left
     ·intro w'
      go_simp
      with_reducible rfl
     rotate_left
     ·simp only [Act.put,List.setIfInBounds_toArray,List.set_cons_zero,List.set_cons_succ,i64_w,i32_w]
      rfl
     refine take_ (i:=16) (N:=some 23) (v:=?_) (a':=?_) #[true,true,true,true,true,true,true,true,true,true,true,true,false,false,true,true,true,true,true,false,false,false] rfl rfl (take_ofW HT_.out HW_.out (by kernel_rfl)) (fun _ _ _ h => h) (Or.inl ⟨by rfl,?_⟩) hHeld ?_ ?_
     rotate_left
     ·rintro w' ⟨s0,s1,s2,s3,s4⟩
      go_simp
      with_reducible rfl
     rotate_left
     ·simp only [Act.put,List.setIfInBounds_toArray,List.set_cons_zero,List.set_cons_succ,i64_w,i32_w]
      rfl
     refine take_ (i:=19) (N:=some 26) (v:=?_) (a':=?_) #[true,true,true,true,true,true,true,true,true,true,true,true,false,false,true,true,true,true,true,true,false,false] rfl rfl (take_ofW HT_.out HW_.out (by kernel_rfl)) (fun _ _ _ h => h) (Or.inl ⟨by rfl,?_⟩) hHeld ?_ ?_
     rotate_left
     ·rintro w' ⟨s0,s1,s2,s3,s4⟩
      go_simp
      with_reducible rfl
     rotate_left
     ·simp only [Act.put,List.setIfInBounds_toArray,List.set_cons_zero,List.set_cons_succ,i64_w,i32_w]
      rfl
     refine one_ (i:=12) (N:=some 19) #[true,true,true,true,true,true,true,true,true,true,true,true,true,false,true,true,true,true,true,true,false,false] rfl rfl (one_of HT_.out (by kernel_rfl)) (by decide) (fun K hK => ?_)
     refine goes_ Tryd.func102 (by kernel_rfl) rfl #[.int .u32 (((rd l0 0) + a1) % 4294967296),.int .i64 a2] (by rfl) rfl rfl (by (try simp only [List.map_toArray,List.map_cons,List.map_nil]);first|done|rfl|(simp only [List.length_drop,List.length_take];rfl)) ?_
     with_reducible refine (racewayref23_turn.calls (((rd l0 0) + a1) % 4294967296) a2 t233 _ A7.out).mono ?_
     rintro e w' ⟨rfl,⟨nd,rfl⟩⟩
     refine ⟨_,rfl,?_⟩
     refine hK.out _ _ ⟨((HB.out.cell (World.block_lt_of_cell? w _ hw230_0)).trans hw230_0),((HB.out.cell (World.block_lt_of_cell? w _ hw231_0)).trans hw231_0),((HB.out.cell (World.block_lt_of_cell? w _ hw232_0)).trans hw232_0),((HB.out.cell (World.block_lt_of_cell? w _ hw234_0)).trans hw234_0),((HB.out.cell (World.block_lt_of_cell? w _ hw235_0)).trans hw235_0)⟩ (fun hHeld => ?_)
     clear hK K
     refine norm_ (a':=?_) ?_ ?_
     rotate_left
     ·show Act.put _ (some 19) _ = _
      simp only [Act.put,List.setIfInBounds_toArray,List.set_cons_zero,List.set_cons_succ,i64_w,i32_w]
      rfl
     refine pure_ (i:=13) (N:=some 20) (v:=?_) (a':=?_) #[true,true,true,true,true,true,true,true,true,true,true,true,true,true,true,true,true,true,true,true,false,false] rfl rfl (any_of HT_.out (by kernel_rfl)) (fun _ _ _ h => h) (Or.inl ⟨by rfl,?_⟩) ?_ ?_
     rotate_left
     ·intro w'
      go_simp
      with_reducible rfl
     rotate_left
     ·simp only [Act.put,List.setIfInBounds_toArray,List.set_cons_zero,List.set_cons_succ,i64_w,i32_w]
      rfl
     refine one_ (i:=20) (N:=some 27) #[true,true,true,true,true,true,true,true,true,true,true,true,true,true,true,true,true,true,true,true,true,false] rfl rfl (one_of HT_.out (by kernel_rfl)) (by decide) (fun K hK => ?_)
     refine Kd.R_lit_step (Kd.int .u32) _ 93 ?hg (N:=27) ?hd (xs:=([rd l0 3,((rd l0 1) + t233) % 4294967296,rd l0 1,rd l0 2] : List Int)) (inner:=[.int .u32 (rd l0 3),.int .u32 (((rd l0 1) + t233) % 4294967296),.int .u32 (rd l0 1),.int .u32 (rd l0 2)]) (ok:=fun _ => True) (okp:=fun _ => True) ?hr ?hp (fun _ hk => hk) trivial (Below.refl _ _) (Nat.le_refl _) (by simp) ?_;(case hd => rfl);(case hg => rfl);(case hr => first|(go_simp;done)|(go_simp;rfl));(case hp => exact (Reps.one (show Kd.M (Kd.int .u32) _ _ _ (rd l0 3) [.int .u32 (rd l0 3)] from rfl) (Reps.one (show Kd.M (Kd.int .u32) _ _ _ (((rd l0 1) + t233) % 4294967296) [.int .u32 (((rd l0 1) + t233) % 4294967296)] from rfl) (Reps.one (show Kd.M (Kd.int .u32) _ _ _ (rd l0 1) [.int .u32 (rd l0 1)] from rfl) (Reps.one (show Kd.M (Kd.int .u32) _ _ _ (rd l0 2) [.int .u32 (rd l0 2)] from rfl) (Reps.none _ _))))))
     intro v237 w10 ho11 hb hg_ hnew_
     clear hg_ hnew_
     (first|rw [← Ny236.out] at ho11|(simp only [Int.reduceToNat] at ho11;rw [← Ny236.out] at ho11))
     have n0_:=Aside0.mk (Kd.R_lower ho11 (below_size (by repeat (first|(with_reducible first|exact HB.out|apply below_alloc|apply pw_below_drewN|apply below_drew1)|exact HB.out))))
     have n1_:=Aside0.mk (below_step (by repeat (first|(with_reducible first|exact HB.out|apply below_alloc|apply pw_below_drewN|apply below_drew1)|exact HB.out)) hb)
     clear HB
     have HO238:=n0_
     have HB:=n1_
     clear n0_ n1_
     clear hb ho11
     refine hK.out _ _ ⟨((HB.out.cell (World.block_lt_of_cell? w _ hw230_0)).trans hw230_0),((HB.out.cell (World.block_lt_of_cell? w _ hw231_0)).trans hw231_0),((HB.out.cell (World.block_lt_of_cell? w _ hw232_0)).trans hw232_0),((HB.out.cell (World.block_lt_of_cell? w _ hw234_0)).trans hw234_0),((HB.out.cell (World.block_lt_of_cell? w _ hw235_0)).trans hw235_0)⟩ (fun hHeld => ?_)
     clear hK K
     refine norm_ (a':=?_) ?_ ?_
     rotate_left
     ·show Act.put _ (some 27) _ = _
      simp only [Act.put,List.setIfInBounds_toArray,List.set_cons_zero,List.set_cons_succ,i64_w,i32_w]
      rfl
     refine pure_ (i:=21) (N:=some 6) (v:=?_) (a':=?_) #[true,true,true,true,true,true,true,true,true,true,true,true,true,true,true,true,true,true,true,true,true,true] rfl rfl (any_of HT_.out (by kernel_rfl)) (fun _ _ _ h => h) (Or.inl ⟨by rfl,?_⟩) ?_ ?_
     rotate_left
     ·intro w'
      go_simp
      with_reducible rfl
     rotate_left
     ·simp only [Act.put,List.setIfInBounds_toArray,List.set_cons_zero,List.set_cons_succ,i64_w,i32_w]
      rfl
     refine done_ (done_of HT_.out (by kernel_rfl)) ?_
     try go_wp2
     go_ret
     exact ⟨_,by first|rfl|(simp [errW_none,errW_some] <;> rfl)|(simp [*,errW_none,errW_some] <;> rfl),by (with_reducible repeat (first|apply Kd.R_alloc|apply Kd.R_drewN|apply Kd.R_drew));exact HO238.out,by repeat (first|(with_reducible first|exact HB.out|apply below_alloc|apply pw_below_drewN|apply below_drew1)|exact HB.out)⟩
    ·rw [if_neg c8] at H
     exact absurd H (by simp)
   ·rw [if_neg c6] at H
    exact absurd H (by simp)
  ·rw [if_neg c5] at H
   exact absurd H (by simp)
 ·rw [if_neg c4] at H
  exact absurd H (by simp)
end Go.Proofs.YtolpefnedpgaaaaDoor.X
namespace Go.Proofs.YtolpefnedpgaaaaDoor.X
open Go.RowKit Go.Proofs.YtolpefnedpgaaaaDoorW.PrintWords Go.Proofs.YtolpefnedpgaaaaDoorW.PrintLast Go.Proofs.YtolpefnedpgaaaaDoorW.PrintMore
attribute [local go_sem] max2_int min2_int max_two min_two max_three min_three max_four min_four
set_option linter.unusedVariables false
set_option linter.unusedSimpArgs false
mutual
def racewayref23_Of.l0 : Nat → List Int → List Int → List Int → Int → Option (List Int)
 | 0,_,_,_,_ => none
 | k + 1,x3,x4,x5,x6 => if x6 < (x3.length : Int) then (racewayref23_Of.l1 k x3 x4 x5 x6 ([] : List Int) 0) else (racewayref23_Of.l7 k x4 ([] : List Int) 0)
def racewayref23_Of.l1 : Nat → List Int → List Int → List Int → Int → List Int → Int → Option (List Int)
 | 0,_,_,_,_,_,_ => none
 | k + 1,x3,x4,x5,x6,x7,x8 => if x8 < 16 then (if 0 ≤ (wrap64 (x6 + (wrap64 (4 * x8)))) then (if (wrap64 (x6 + (wrap64 (4 * x8)))) < (x3.length : Int) then (if 0 ≤ (wrap64 ((wrap64 (x6 + (wrap64 (4 * x8)))) + 1)) then (if (wrap64 ((wrap64 (x6 + (wrap64 (4 * x8)))) + 1)) < (x3.length : Int) then (if 0 ≤ (wrap64 ((wrap64 (x6 + (wrap64 (4 * x8)))) + 2)) then (if (wrap64 ((wrap64 (x6 + (wrap64 (4 * x8)))) + 2)) < (x3.length : Int) then (if 0 ≤ (wrap64 ((wrap64 (x6 + (wrap64 (4 * x8)))) + 3)) then (if (wrap64 ((wrap64 (x6 + (wrap64 (4 * x8)))) + 3)) < (x3.length : Int) then (if x7.length < 35184372088832 then (racewayref23_Of.l1 k x3 x4 x5 x6 (x7 ++ [(((((((rd x3 (wrap64 (x6 + (wrap64 (4 * x8))))) % 4294967296) + ((((rd x3 (wrap64 ((wrap64 (x6 + (wrap64 (4 * x8)))) + 1))) % 4294967296) * 256) % 4294967296)) % 4294967296) + ((((rd x3 (wrap64 ((wrap64 (x6 + (wrap64 (4 * x8)))) + 2))) % 4294967296) * 65536) % 4294967296)) % 4294967296) + ((((rd x3 (wrap64 ((wrap64 (x6 + (wrap64 (4 * x8)))) + 3))) % 4294967296) * 16777216) % 4294967296)) % 4294967296]) (wrap64 (x8 + 1))) else (none)) else (none)) else (none)) else (none)) else (none)) else (none)) else (none)) else (none)) else (none)) else ((some (([] : List Int) : List Int)).bind fun y144 => (if y144.length + x4.length < 35184372088832 then (racewayref23_Of.l2 k x3 x4 x5 x6 x7 (y144 ++ x4) 0) else (none)))
def racewayref23_Of.l2 : Nat → List Int → List Int → List Int → Int → List Int → List Int → Int → Option (List Int)
 | 0,_,_,_,_,_,_,_ => none
 | k + 1,x3,x4,x5,x6,x7,x10,x11 => if x11 < 16 then (if 1 < (x10.length : Int) then (if 2 < (x10.length : Int) then (if 3 < (x10.length : Int) then (if 0 ≤ x11 then (if x11 < (x7.length : Int) then (if x11 < (x5.length : Int) then ((some (([7,12,17,22] : List Int) : List Int)).bind fun y156 => (if 0 ≤ (Int.tmod x11 4) then (if (Int.tmod x11 4) < (y156.length : Int) then ((racewayref23_round.f x10 (((((Go.bits .or .u32 (Go.bits .and .u32 (rd x10 1) (rd x10 2)) (Go.bits .and .u32 (Go.bits .xor .u32 (rd x10 1) 4294967295) (rd x10 3))) + (rd x7 x11)) % 4294967296) + (rd x5 x11)) % 4294967296) (rd y156 (Int.tmod x11 4))).bind fun t160 => (racewayref23_Of.l2 k x3 x4 x5 x6 x7 t160 (wrap64 (x11 + 1)))) else (none)) else (none))) else (none)) else (none)) else (none)) else (none)) else (none)) else (none)) else (racewayref23_Of.l3 k x3 x4 x5 x6 x7 x10 0)
def racewayref23_Of.l3 : Nat → List Int → List Int → List Int → Int → List Int → List Int → Int → Option (List Int)
 | 0,_,_,_,_,_,_,_ => none
 | k + 1,x3,x4,x5,x6,x7,x10,x13 => if x13 < 16 then (if 1 < (x10.length : Int) then (if 3 < (x10.length : Int) then (if 2 < (x10.length : Int) then (if 0 ≤ (Int.tmod (wrap64 (1 + (wrap64 (5 * x13)))) 16) then (if (Int.tmod (wrap64 (1 + (wrap64 (5 * x13)))) 16) < (x7.length : Int) then (if 0 ≤ (wrap64 (16 + x13)) then (if (wrap64 (16 + x13)) < (x5.length : Int) then ((some (([5,9,14,20] : List Int) : List Int)).bind fun y169 => (if 0 ≤ (Int.tmod x13 4) then (if (Int.tmod x13 4) < (y169.length : Int) then ((racewayref23_round.f x10 (((((Go.bits .or .u32 (Go.bits .and .u32 (rd x10 1) (rd x10 3)) (Go.bits .and .u32 (rd x10 2) (Go.bits .xor .u32 (rd x10 3) 4294967295))) + (rd x7 (Int.tmod (wrap64 (1 + (wrap64 (5 * x13)))) 16))) % 4294967296) + (rd x5 (wrap64 (16 + x13)))) % 4294967296) (rd y169 (Int.tmod x13 4))).bind fun t173 => (racewayref23_Of.l3 k x3 x4 x5 x6 x7 t173 (wrap64 (x13 + 1)))) else (none)) else (none))) else (none)) else (none)) else (none)) else (none)) else (none)) else (none)) else (none)) else (racewayref23_Of.l4 k x3 x4 x5 x6 x7 x10 0)
def racewayref23_Of.l4 : Nat → List Int → List Int → List Int → Int → List Int → List Int → Int → Option (List Int)
 | 0,_,_,_,_,_,_,_ => none
 | k + 1,x3,x4,x5,x6,x7,x10,x15 => if x15 < 16 then (if 1 < (x10.length : Int) then (if 2 < (x10.length : Int) then (if 3 < (x10.length : Int) then (if 0 ≤ (Int.tmod (wrap64 (5 + (wrap64 (3 * x15)))) 16) then (if (Int.tmod (wrap64 (5 + (wrap64 (3 * x15)))) 16) < (x7.length : Int) then (if 0 ≤ (wrap64 (32 + x15)) then (if (wrap64 (32 + x15)) < (x5.length : Int) then ((some (([4,11,16,23] : List Int) : List Int)).bind fun y181 => (if 0 ≤ (Int.tmod x15 4) then (if (Int.tmod x15 4) < (y181.length : Int) then ((racewayref23_round.f x10 (((((Go.bits .xor .u32 (Go.bits .xor .u32 (rd x10 1) (rd x10 2)) (rd x10 3)) + (rd x7 (Int.tmod (wrap64 (5 + (wrap64 (3 * x15)))) 16))) % 4294967296) + (rd x5 (wrap64 (32 + x15)))) % 4294967296) (rd y181 (Int.tmod x15 4))).bind fun t185 => (racewayref23_Of.l4 k x3 x4 x5 x6 x7 t185 (wrap64 (x15 + 1)))) else (none)) else (none))) else (none)) else (none)) else (none)) else (none)) else (none)) else (none)) else (none)) else (racewayref23_Of.l5 k x3 x4 x5 x6 x7 x10 0)
def racewayref23_Of.l5 : Nat → List Int → List Int → List Int → Int → List Int → List Int → Int → Option (List Int)
 | 0,_,_,_,_,_,_,_ => none
 | k + 1,x3,x4,x5,x6,x7,x10,x16 => if x16 < 16 then (if 2 < (x10.length : Int) then (if 1 < (x10.length : Int) then (if 3 < (x10.length : Int) then (if 0 ≤ (Int.tmod (wrap64 (7 * x16)) 16) then (if (Int.tmod (wrap64 (7 * x16)) 16) < (x7.length : Int) then (if 0 ≤ (wrap64 (48 + x16)) then (if (wrap64 (48 + x16)) < (x5.length : Int) then ((some (([6,10,15,21] : List Int) : List Int)).bind fun y193 => (if 0 ≤ (Int.tmod x16 4) then (if (Int.tmod x16 4) < (y193.length : Int) then ((racewayref23_round.f x10 (((((Go.bits .xor .u32 (rd x10 2) (Go.bits .or .u32 (rd x10 1) (Go.bits .xor .u32 (rd x10 3) 4294967295))) + (rd x7 (Int.tmod (wrap64 (7 * x16)) 16))) % 4294967296) + (rd x5 (wrap64 (48 + x16)))) % 4294967296) (rd y193 (Int.tmod x16 4))).bind fun t197 => (racewayref23_Of.l5 k x3 x4 x5 x6 x7 t197 (wrap64 (x16 + 1)))) else (none)) else (none))) else (none)) else (none)) else (none)) else (none)) else (none)) else (none)) else (none)) else (racewayref23_Of.l6 k x3 x4 x5 x6 x10 0)
def racewayref23_Of.l6 : Nat → List Int → List Int → List Int → Int → List Int → Int → Option (List Int)
 | 0,_,_,_,_,_,_ => none
 | k + 1,x3,x4,x5,x6,x10,x18 => if x18 < 4 then (if 0 ≤ x18 then (if x18 < (x4.length : Int) then (if x18 < (x10.length : Int) then (racewayref23_Of.l6 k x3 (x4.set (x18 : Int).toNat (((rd x4 x18) + (rd x10 x18)) % 4294967296)) x5 x6 x10 (wrap64 (x18 + 1))) else (none)) else (none)) else (none)) else (racewayref23_Of.l0 k x3 x4 x5 (wrap64 (x6 + 64)))
def racewayref23_Of.l7 : Nat → List Int → List Int → Int → Option (List Int)
 | 0,_,_,_ => none
 | k + 1,x4,x19,x20 => if x20 < 4 then (if 0 ≤ x20 then (if x20 < (x4.length : Int) then ((some (([(rd x4 x20) % 256,((rd x4 x20) / 256) % 256,((rd x4 x20) / 65536) % 256,((rd x4 x20) / 16777216) % 256] : List Int) : List Int)).bind fun y207 => (if x19.length + y207.length < 140737488355328 then (racewayref23_Of.l7 k x4 (x19 ++ y207) (wrap64 (x20 + 1))) else (none))) else (none)) else (none)) else (some x19)
end
def racewayref23_Of.f (k : Nat) (l0 : List Int) : Option (List Int):=(racewayref23_padded.f k l0).bind fun t128 => ((racewayref23_sines.f).bind fun t134 => (racewayref23_Of.l0 k t128 (([1732584193,4023233417,2562383102,271733878] : List Int)) t134 0))
def racewayref23_Of.T12 : Bool × List (List Nat × List Nat):=(true,[([],[]),([],[]),([],[]),([1,2],[1,2]),([3],[3]),([4],[4]),([],[]),([],[]),([7],[7]),([6,8],[6,8]),([9],[9]),([10],[10]),([11],[11]),([5,12],[5,12]),([],[]),([],[]),([15],[15]),([14,16],[14,16]),([17],[17]),([18],[18]),([19],[19]),([13,20],[13,20]),([],[]),([],[]),([23],[23]),([22,24],[22,24]),([25],[25]),([26],[26]),([27],[27]),([21,28],[21,28]),([29],[29]),([0,30],[0,30]),([31,31,0,1,2,3,4,5,6,7,8,9,10,11,12,13,14,15,16,17,18,19,20,21,22,23,24,25,26,27,28,29,30,31],[0,31])])
def racewayref23_Of.B12 : List Nat:=[0,0,0,6,14,30,0,0,128,448,960,1984,4032,8190,0,0,32768,114688,245760,507904,1032192,2097150,0,0,8388608,29360128,62914560,130023424,264241152,536870910,1073741822,2147483647,4294967295]
theorem racewayref23_Of.tab12 : rtab .any (opsOf Tryd.f53 12) = racewayref23_Of.T12:=by kernel_rfl
theorem racewayref23_Of.bits12 : waitsOk racewayref23_Of.T12.2 racewayref23_Of.B12 = true:=by kernel_rfl
def racewayref23_Of.T17 : Bool × List (List Nat × List Nat):=(true,[([],[]),([0],[0]),([1],[1]),([],[]),([3],[3]),([4],[4]),([2,5],[2,5]),([],[]),([7],[7]),([8],[8]),([9],[9]),([],[]),([11],[11]),([12],[12]),([10,13],[10,13]),([6,14],[6,14]),([15,0,1,2,3,4,5,6,7,8,9,10,11,12,13,14,15],[15])])
def racewayref23_Of.B17 : List Nat:=[0,1,3,0,8,24,63,0,128,384,896,0,2048,6144,16256,32767,65535]
theorem racewayref23_Of.tab17 : rtab .any (opsOf Tryd.f53 17) = racewayref23_Of.T17:=by kernel_rfl
theorem racewayref23_Of.bits17 : waitsOk racewayref23_Of.T17.2 racewayref23_Of.B17 = true:=by kernel_rfl
def racewayref23_Of.T18 : Bool × List (List Nat × List Nat):=(true,[([],[]),([],[]),([],[]),([],[]),([2,3],[2,3]),([4],[4]),([1,5],[1,5]),([],[]),([],[]),([7,8],[7,8]),([9],[9]),([6,10],[6,10]),([],[]),([],[]),([13],[13]),([12,14],[12,14]),([15],[15]),([0,11,16],[0,11,16]),([17,17,0,1,2,3,4,5,6,7,8,9,10,11,12,13,14,15,16,17],[0,17])])
def racewayref23_Of.B18 : List Nat:=[0,0,0,0,12,28,62,0,0,384,896,2046,0,0,8192,28672,61440,131071,262143]
theorem racewayref23_Of.tab18 : rtab .any (opsOf Tryd.f53 18) = racewayref23_Of.T18:=by kernel_rfl
theorem racewayref23_Of.bits18 : waitsOk racewayref23_Of.T18.2 racewayref23_Of.B18 = true:=by kernel_rfl
def racewayref23_Of.T22 : Bool × List (List Nat × List Nat):=(true,[([],[]),([0],[0]),([1],[1]),([],[]),([3],[3]),([4],[4]),([2,5],[2,5]),([],[]),([7],[7]),([8],[8]),([],[]),([10],[10]),([11],[11]),([12],[12]),([9,13],[9,13]),([6,14],[6,14]),([15,0,1,2,3,4,5,6,7,8,9,10,11,12,13,14,15],[15])])
def racewayref23_Of.B22 : List Nat:=[0,1,3,0,8,24,63,0,128,384,0,1024,3072,7168,16256,32767,65535]
theorem racewayref23_Of.tab22 : rtab .any (opsOf Tryd.f53 22) = racewayref23_Of.T22:=by kernel_rfl
theorem racewayref23_Of.bits22 : waitsOk racewayref23_Of.T22.2 racewayref23_Of.B22 = true:=by kernel_rfl
def racewayref23_Of.T23 : Bool × List (List Nat × List Nat):=(true,[([],[]),([],[]),([],[]),([],[]),([3],[3]),([4],[4]),([5],[5]),([2,6],[2,6]),([7],[7]),([1,8],[1,8]),([],[]),([],[]),([11],[11]),([10,12],[10,12]),([13],[13]),([9,14],[9,14]),([],[]),([],[]),([17],[17]),([16,18],[16,18]),([19],[19]),([0,15,20],[0,15,20]),([21,21,0,1,2,3,4,5,6,7,8,9,10,11,12,13,14,15,16,17,18,19,20,21],[0,21])])
def racewayref23_Of.B23 : List Nat:=[0,0,0,0,8,24,56,124,252,510,0,0,2048,7168,15360,32766,0,0,131072,458752,983040,2097151,4194303]
theorem racewayref23_Of.tab23 : rtab .any (opsOf Tryd.f53 23) = racewayref23_Of.T23:=by kernel_rfl
theorem racewayref23_Of.bits23 : waitsOk racewayref23_Of.T23.2 racewayref23_Of.B23 = true:=by kernel_rfl
def racewayref23_Of.T27 : Bool × List (List Nat × List Nat):=(true,[([],[]),([],[]),([1],[1]),([2],[2]),([],[]),([4],[4]),([5],[5]),([3,6],[3,6]),([],[]),([8],[8]),([9],[9]),([7,10],[7,10]),([],[]),([],[]),([13],[13]),([14],[14]),([15],[15]),([12,16],[12,16]),([17],[17]),([11,18],[11,18]),([],[]),([],[]),([21],[21]),([20,22],[20,22]),([23],[23]),([19,24],[19,24]),([],[]),([],[]),([27],[27]),([26,28],[26,28]),([29],[29]),([0,25,30],[0,25,30]),([31,31,0,1,2,3,4,5,6,7,8,9,10,11,12,13,14,15,16,17,18,19,20,21,22,23,24,25,26,27,28,29,30,31],[0,1,4,8,31])])
def racewayref23_Of.B27 : List Nat:=[0,0,2,6,0,16,48,126,0,256,768,2046,0,0,8192,24576,57344,126976,258048,524286,0,0,2097152,7340032,15728640,33554430,0,0,134217728,469762048,1006632960,2147483647,4294967295]
theorem racewayref23_Of.tab27 : rtab .any (opsOf Tryd.f53 27) = racewayref23_Of.T27:=by kernel_rfl
theorem racewayref23_Of.bits27 : waitsOk racewayref23_Of.T27.2 racewayref23_Of.B27 = true:=by kernel_rfl
def racewayref23_Of.T31 : Bool × List (List Nat × List Nat):=(true,[([],[]),([0],[0]),([1],[1]),([],[]),([3],[3]),([4],[4]),([],[]),([6],[6]),([7],[7]),([8],[8]),([5,9],[5,9]),([2,10],[2,10]),([11,0,1,2,3,4,5,6,7,8,9,10,11],[11])])
def racewayref23_Of.B31 : List Nat:=[0,1,3,0,8,24,0,64,192,448,1016,2047,4095]
theorem racewayref23_Of.tab31 : rtab .any (opsOf Tryd.f53 31) = racewayref23_Of.T31:=by kernel_rfl
theorem racewayref23_Of.bits31 : waitsOk racewayref23_Of.T31.2 racewayref23_Of.B31 = true:=by kernel_rfl
def racewayref23_Of.T32 : Bool × List (List Nat × List Nat):=(true,[([],[]),([],[]),([],[]),([],[]),([3],[3]),([4],[4]),([2,5],[2,5]),([6],[6]),([1,7],[1,7]),([],[]),([],[]),([10],[10]),([9,11],[9,11]),([12],[12]),([8,13],[8,13]),([],[]),([],[]),([16],[16]),([15,17],[15,17]),([18],[18]),([0,14,19],[0,14,19]),([20,20,0,1,2,3,4,5,6,7,8,9,10,11,12,13,14,15,16,17,18,19,20],[0,20])])
def racewayref23_Of.B32 : List Nat:=[0,0,0,0,8,24,60,124,254,0,0,1024,3584,7680,16382,0,0,65536,229376,491520,1048575,2097151]
theorem racewayref23_Of.tab32 : rtab .any (opsOf Tryd.f53 32) = racewayref23_Of.T32:=by kernel_rfl
theorem racewayref23_Of.bits32 : waitsOk racewayref23_Of.T32.2 racewayref23_Of.B32 = true:=by kernel_rfl
def racewayref23_Of.T36 : Bool × List (List Nat × List Nat):=(true,[([],[]),([],[]),([],[]),([],[]),([2,3],[2,3]),([4],[4]),([],[]),([],[]),([6,7],[6,7]),([8],[8]),([5,9],[5,9]),([0,1,0,1,2,3,4,5,6,7,8,9,10],[0,1]),([11,10,0,1,2,3,4,5,6,7,8,9,10],[10,11])])
def racewayref23_Of.B36 : List Nat:=[0,0,0,0,12,28,0,0,192,448,1020,2047,4095]
theorem racewayref23_Of.tab36 : rtab .any (opsOf Tryd.f53 36) = racewayref23_Of.T36:=by kernel_rfl
theorem racewayref23_Of.bits36 : waitsOk racewayref23_Of.T36.2 racewayref23_Of.B36 = true:=by kernel_rfl
def racewayref23_Of.T41 : Bool × List (List Nat × List Nat):=(true,[([],[]),([],[]),([],[]),([1,2],[1,2]),([3],[3]),([4],[4]),([],[]),([],[]),([6,7],[6,7]),([8],[8]),([9],[9]),([10],[10]),([],[]),([],[]),([12,13],[12,13]),([14],[14]),([15],[15]),([16],[16]),([],[]),([],[]),([18,19],[18,19]),([20],[20]),([21],[21]),([22],[22]),([5,11,17,23],[5,11,17,23]),([0,24],[0,24]),([25,25,0,1,2,3,4,5,6,7,8,9,10,11,12,13,14,15,16,17,18,19,20,21,22,23,24,25],[0,25])])
def racewayref23_Of.B41 : List Nat:=[0,0,0,6,14,30,0,0,192,448,960,1984,0,0,12288,28672,61440,126976,0,0,786432,1835008,3932160,8126464,16777214,33554431,67108863]
theorem racewayref23_Of.tab41 : rtab .any (opsOf Tryd.f53 41) = racewayref23_Of.T41:=by kernel_rfl
theorem racewayref23_Of.bits41 : waitsOk racewayref23_Of.T41.2 racewayref23_Of.B41 = true:=by kernel_rfl
end Go.Proofs.YtolpefnedpgaaaaDoor.X
