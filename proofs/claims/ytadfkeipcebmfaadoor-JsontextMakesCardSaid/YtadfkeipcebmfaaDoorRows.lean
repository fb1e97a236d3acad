/-
  NARROWER THAN 'FOR EVERY INPUT', by the rows' own cells (each row's printed sentence says how): JsontextParses: laid · JsontextBack: laid · JsontextBlanks: laid · JsontextDeep: laid · JsontextMakes: laid · JsontextTrees: laid · JsontextGets: laid.
  DERIVED. THE GIVEN ROWS OF THIS SEAT. 7 by the template 'for every input the law returns true; each argument reads behind the call as it read before'; 0 by the template 'total and deterministic' (their statements: YtadfkeipcebmfaaDoorTotals.lean).
  GIVEN WITH THE SEED: the statements are not yours to turn. If you find one false, say at which input.
  Laid BY PROGRAM, IN A SANDBOX (cutbox-rows.mjs): the forced cells as the released guide's own fill.sh prints them over the translation bda061267aeda821… (all of the seat's roots in one cut). By AI agents, Wed Nov 11 2026. No macro, syntax, notation, axiom, sorry.
-/
import Derived.Test.YtadfkeipcebmfaaDoorChecked
import GoSem.PinnedTables
import GoSem.Claim
import GoSem.ClaimJoined
import GoSem.ClaimMapViews
import Derived.JoinedTies
import Derived.KernelRfl
namespace Go.Proofs.YtadfkeipcebmfaaDoor
/- THE CELL 'sum', in the pinned program and in every row, IS THE sha256 OF THE DUMP (.gsa) THAT YtadfkeipcebmfaaDoorProg.lean LOADS. Nothing in Lean hashes anything: it is a label: what it is worth is what the hold of that sum in a sandbox is worth. -/
noncomputable def Tryd.pinned : Pinned := { name := "ytadfkeipcebmfaadoor", sum := "bda061267aeda8212c54bdf334431b6024ee13c3124a02931cdc200ff46c2d97", checked := Tryd.checked }
namespace Rows
def none {H : Type} : Left H := { results := [], args := [] }

/- WHAT THE LISTED PACKAGE-LEVEL VARIABLES READ AS WHEN THE CALL BEGINS. Each datum BY PROGRAM (the guide's laid-datum.mjs) off the statement by which the dump's own 'gosem.cut.vars' lays the variable. In a bare row this is a premise. The card (YtadfkeipcebmfaaDoorCards.lean) ties it to the program's text. -/
def laid_unicode_utf8_acceptRanges {H : Type} : DataW H := .agg [.agg [.lit (.int .u8 128), .lit (.int .u8 191)], .agg [.lit (.int .u8 160), .lit (.int .u8 191)], .agg [.lit (.int .u8 128), .lit (.int .u8 159)], .agg [.lit (.int .u8 144), .lit (.int .u8 191)], .agg [.lit (.int .u8 128), .lit (.int .u8 143)], .agg [.lit (.int .u8 0), .lit (.int .u8 0)], .agg [.lit (.int .u8 0), .lit (.int .u8 0)], .agg [.lit (.int .u8 0), .lit (.int .u8 0)], .agg [.lit (.int .u8 0), .lit (.int .u8 0)], .agg [.lit (.int .u8 0), .lit (.int .u8 0)], .agg [.lit (.int .u8 0), .lit (.int .u8 0)], .agg [.lit (.int .u8 0), .lit (.int .u8 0)], .agg [.lit (.int .u8 0), .lit (.int .u8 0)], .agg [.lit (.int .u8 0), .lit (.int .u8 0)], .agg [.lit (.int .u8 0), .lit (.int .u8 0)], .agg [.lit (.int .u8 0), .lit (.int .u8 0)]]
/-- One of Go's own tables, pinned by name: the form's constant. -/
def laid_unicode_utf8_first : DataW Unit := Go.Pinned.utf8First

/-- 'racewaylaw25.JsontextParses': WHATEVER THE INPUT: true; the input reads as it did. -/
def jsontextParsesSpec : ChangeSpec := { name := "jsontextParses", fn := fun _ => fun
  | [d] => { results := [.lit (.bool true)], args := [d] }
  | _ => none }
def jsontextParsesRow : OpenClaim := { program := "ytadfkeipcebmfaadoor", sum := "bda061267aeda8212c54bdf334431b6024ee13c3124a02931cdc200ff46c2d97", func := "raceway/racewaylaw25.JsontextParses", spec := "jsontextParses", inPlace := ["internal/bytealg.IndexByteString", "internal/abi.NoEscape"], unfollowed := true, recurses := true, named := ["unicode/utf8.first", "unicode/utf8.acceptRanges"], apart := false, laid := [("unicode/utf8.acceptRanges", laid_unicode_utf8_acceptRanges), ("unicode/utf8.first", laid_unicode_utf8_first)] }
def JsontextParsesSaid : Prop := jsontextParsesRow.holds Tryd.pinned (OpenSpec.ofChange jsontextParsesSpec)

/-- ITS FALSE NEIGHBOUR: 'it returns false'. Refute it at one input. -/
def jsontextParsesWrong : ChangeSpec := { name := "jsontextParses", fn := fun _ => fun
  | [d] => { results := [.lit (.bool false)], args := [d] }
  | _ => none }
def JsontextParsesWrongFalsely : Prop := jsontextParsesRow.holds Tryd.pinned (OpenSpec.ofChange jsontextParsesWrong)

/-- 'racewaylaw25.JsontextBack': WHATEVER THE INPUT: true; the input reads as it did. -/
def jsontextBackSpec : ChangeSpec := { name := "jsontextBack", fn := fun _ => fun
  | [d1, d2] => { results := [.lit (.bool true)], args := [d1, d2] }
  | _ => none }
def jsontextBackRow : OpenClaim := { program := "ytadfkeipcebmfaadoor", sum := "bda061267aeda8212c54bdf334431b6024ee13c3124a02931cdc200ff46c2d97", func := "raceway/racewaylaw25.JsontextBack", spec := "jsontextBack", inPlace := ["internal/bytealg.IndexByteString", "internal/abi.NoEscape"], unfollowed := true, recurses := true, named := ["unicode/utf8.first", "unicode/utf8.acceptRanges"], apart := false, laid := [("unicode/utf8.acceptRanges", laid_unicode_utf8_acceptRanges), ("unicode/utf8.first", laid_unicode_utf8_first)] }
def JsontextBackSaid : Prop := jsontextBackRow.holds Tryd.pinned (OpenSpec.ofChange jsontextBackSpec)

/-- ITS FALSE NEIGHBOUR: 'it returns false'. Refute it at one input. -/
def jsontextBackWrong : ChangeSpec := { name := "jsontextBack", fn := fun _ => fun
  | [d1, d2] => { results := [.lit (.bool false)], args := [d1, d2] }
  | _ => none }
def JsontextBackWrongFalsely : Prop := jsontextBackRow.holds Tryd.pinned (OpenSpec.ofChange jsontextBackWrong)

/-- 'racewaylaw25.JsontextBlanks': WHATEVER THE INPUT: true; the input reads as it did. -/
def jsontextBlanksSpec : ChangeSpec := { name := "jsontextBlanks", fn := fun _ => fun
  | [d1, d2, d3] => { results := [.lit (.bool true)], args := [d1, d2, d3] }
  | _ => none }
def jsontextBlanksRow : OpenClaim := { program := "ytadfkeipcebmfaadoor", sum := "bda061267aeda8212c54bdf334431b6024ee13c3124a02931cdc200ff46c2d97", func := "raceway/racewaylaw25.JsontextBlanks", spec := "jsontextBlanks", inPlace := ["internal/bytealg.IndexByteString", "internal/abi.NoEscape"], unfollowed := true, recurses := true, named := ["unicode/utf8.first", "unicode/utf8.acceptRanges"], apart := false, laid := [("unicode/utf8.acceptRanges", laid_unicode_utf8_acceptRanges), ("unicode/utf8.first", laid_unicode_utf8_first)] }
def JsontextBlanksSaid : Prop := jsontextBlanksRow.holds Tryd.pinned (OpenSpec.ofChange jsontextBlanksSpec)

/-- ITS FALSE NEIGHBOUR: 'it returns false'. Refute it at one input. -/
def jsontextBlanksWrong : ChangeSpec := { name := "jsontextBlanks", fn := fun _ => fun
  | [d1, d2, d3] => { results := [.lit (.bool false)], args := [d1, d2, d3] }
  | _ => none }
def JsontextBlanksWrongFalsely : Prop := jsontextBlanksRow.holds Tryd.pinned (OpenSpec.ofChange jsontextBlanksWrong)

/-- 'racewaylaw25.JsontextDeep': WHATEVER THE INPUT: true; the input reads as it did. -/
def jsontextDeepSpec : ChangeSpec := { name := "jsontextDeep", fn := fun _ => fun
  | [d] => { results := [.lit (.bool true)], args := [d] }
  | _ => none }
def jsontextDeepRow : OpenClaim := { program := "ytadfkeipcebmfaadoor", sum := "bda061267aeda8212c54bdf334431b6024ee13c3124a02931cdc200ff46c2d97", func := "raceway/racewaylaw25.JsontextDeep", spec := "jsontextDeep", inPlace := ["internal/bytealg.IndexByteString", "internal/abi.NoEscape"], unfollowed := true, recurses := true, named := ["unicode/utf8.first", "unicode/utf8.acceptRanges"], apart := false, laid := [("unicode/utf8.acceptRanges", laid_unicode_utf8_acceptRanges), ("unicode/utf8.first", laid_unicode_utf8_first)] }
def JsontextDeepSaid : Prop := jsontextDeepRow.holds Tryd.pinned (OpenSpec.ofChange jsontextDeepSpec)

/-- ITS FALSE NEIGHBOUR: 'it returns false'. Refute it at one input. -/
def jsontextDeepWrong : ChangeSpec := { name := "jsontextDeep", fn := fun _ => fun
  | [d] => { results := [.lit (.bool false)], args := [d] }
  | _ => none }
def JsontextDeepWrongFalsely : Prop := jsontextDeepRow.holds Tryd.pinned (OpenSpec.ofChange jsontextDeepWrong)

/-- 'racewaylaw25.JsontextMakes': WHATEVER THE INPUT: true; the input reads as it did. -/
def jsontextMakesSpec : ChangeSpec := { name := "jsontextMakes", fn := fun _ => fun
  | [d1, d2, d3] => { results := [.lit (.bool true)], args := [d1, d2, d3] }
  | _ => none }
def jsontextMakesRow : OpenClaim := { program := "ytadfkeipcebmfaadoor", sum := "bda061267aeda8212c54bdf334431b6024ee13c3124a02931cdc200ff46c2d97", func := "raceway/racewaylaw25.JsontextMakes", spec := "jsontextMakes", inPlace := ["internal/bytealg.IndexByteString", "internal/abi.NoEscape"], unfollowed := true, recurses := true, named := ["unicode/utf8.first", "unicode/utf8.acceptRanges"], apart := false, laid := [("unicode/utf8.acceptRanges", laid_unicode_utf8_acceptRanges), ("unicode/utf8.first", laid_unicode_utf8_first)] }
def JsontextMakesSaid : Prop := jsontextMakesRow.holds Tryd.pinned (OpenSpec.ofChange jsontextMakesSpec)

/-- ITS FALSE NEIGHBOUR: 'it returns false'. Refute it at one input. -/
def jsontextMakesWrong : ChangeSpec := { name := "jsontextMakes", fn := fun _ => fun
  | [d1, d2, d3] => { results := [.lit (.bool false)], args := [d1, d2, d3] }
  | _ => none }
def JsontextMakesWrongFalsely : Prop := jsontextMakesRow.holds Tryd.pinned (OpenSpec.ofChange jsontextMakesWrong)

/-- 'racewaylaw25.JsontextTrees': WHATEVER THE INPUT: true; the input reads as it did. -/
def jsontextTreesSpec : ChangeSpec := { name := "jsontextTrees", fn := fun _ => fun
  | [d1, d2, d3] => { results := [.lit (.bool true)], args := [d1, d2, d3] }
  | _ => none }
def jsontextTreesRow : OpenClaim := { program := "ytadfkeipcebmfaadoor", sum := "bda061267aeda8212c54bdf334431b6024ee13c3124a02931cdc200ff46c2d97", func := "raceway/racewaylaw25.JsontextTrees", spec := "jsontextTrees", inPlace := ["internal/bytealg.IndexByteString", "internal/abi.NoEscape"], unfollowed := true, recurses := true, named := ["unicode/utf8.first", "unicode/utf8.acceptRanges"], apart := false, laid := [("unicode/utf8.acceptRanges", laid_unicode_utf8_acceptRanges), ("unicode/utf8.first", laid_unicode_utf8_first)] }
def JsontextTreesSaid : Prop := jsontextTreesRow.holds Tryd.pinned (OpenSpec.ofChange jsontextTreesSpec)

/-- ITS FALSE NEIGHBOUR: 'it returns false'. Refute it at one input. -/
def jsontextTreesWrong : ChangeSpec := { name := "jsontextTrees", fn := fun _ => fun
  | [d1, d2, d3] => { results := [.lit (.bool false)], args := [d1, d2, d3] }
  | _ => none }
def JsontextTreesWrongFalsely : Prop := jsontextTreesRow.holds Tryd.pinned (OpenSpec.ofChange jsontextTreesWrong)

/-- 'racewaylaw25.JsontextGets': WHATEVER THE INPUT: true; the input reads as it did. -/
def jsontextGetsSpec : ChangeSpec := { name := "jsontextGets", fn := fun _ => fun
  | [d1, d2, d3] => { results := [.lit (.bool true)], args := [d1, d2, d3] }
  | _ => none }
def jsontextGetsRow : OpenClaim := { program := "ytadfkeipcebmfaadoor", sum := "bda061267aeda8212c54bdf334431b6024ee13c3124a02931cdc200ff46c2d97", func := "raceway/racewaylaw25.JsontextGets", spec := "jsontextGets", inPlace := ["internal/bytealg.IndexByteString", "internal/abi.NoEscape"], unfollowed := true, recurses := true, named := ["unicode/utf8.first", "unicode/utf8.acceptRanges"], apart := false, laid := [("unicode/utf8.acceptRanges", laid_unicode_utf8_acceptRanges), ("unicode/utf8.first", laid_unicode_utf8_first)] }
def JsontextGetsSaid : Prop := jsontextGetsRow.holds Tryd.pinned (OpenSpec.ofChange jsontextGetsSpec)

/-- ITS FALSE NEIGHBOUR: 'it returns false'. Refute it at one input. -/
def jsontextGetsWrong : ChangeSpec := { name := "jsontextGets", fn := fun _ => fun
  | [d1, d2, d3] => { results := [.lit (.bool false)], args := [d1, d2, d3] }
  | _ => none }
def JsontextGetsWrongFalsely : Prop := jsontextGetsRow.holds Tryd.pinned (OpenSpec.ofChange jsontextGetsWrong)

/- THE SECOND FORM. 'bulk': how many values and letters a reading holds, each counted each time it is reached (what is shared counts as often as it is met; a slice's spare places count too). A statement '..UptoSaid' is the law's where the arguments, and the package variables that the reading takes, are together of bulk at most 1048576: NARROWER than '..Said'. Prove '..Said' where nothing that the law and all that it calls make is longer than what came in: it says more and counts as full. Else prove '..UptoSaid'. A law counts once. -/
mutual
def uptoBulk {H : Type} : DataW H → Nat
  | .lit (.string bytes) => bytes.length + 1
  | .lit _ => 1
  | .nil => 1
  | .ptr d => uptoBulk d + 1
  | .slice elems spare => uptoBulkAll elems + uptoBulkAll spare + 1
  | .agg parts => uptoBulkAll parts + 1
  | .iface _ d => uptoBulk d + 1
  | .map entries => uptoBulkEntries entries + 1
  | .held _ => 1
def uptoBulkAll {H : Type} : List (DataW H) → Nat
  | [] => 0
  | d :: r => uptoBulk d + uptoBulkAll r
def uptoBulkEntries {H : Type} : List (Lit × DataW H) → Nat
  | [] => 0
  | x :: r => uptoBulkEntry x + uptoBulkEntries r
def uptoBulkEntry {H : Type} : Lit × DataW H → Nat
  | (.string bytes, d) => bytes.length + uptoBulk d + 1
  | (_, d) => uptoBulk d + 1
 end
def uptoSmall : (H : Type) → List (DataW H) → Bool := fun _ ds => decide (uptoBulkAll ds ≤ 1048576)
def OpenSpec.upto (s : _root_.Go.ChangeSpec) : _root_.Go.OpenSpec := { _root_.Go.OpenSpec.ofChange s with cond := some uptoSmall }

/-- 'racewaylaw25.JsontextParses', WHERE WHAT IT READS IS OF BULK AT MOST 1048576: true; the input reads as it did. -/
def jsontextParsesUptoRow : OpenClaim := { program := "ytadfkeipcebmfaadoor", sum := "bda061267aeda8212c54bdf334431b6024ee13c3124a02931cdc200ff46c2d97", func := "raceway/racewaylaw25.JsontextParses", spec := "jsontextParses", inPlace := ["internal/bytealg.IndexByteString", "internal/abi.NoEscape"], unfollowed := true, recurses := true, named := ["unicode/utf8.first", "unicode/utf8.acceptRanges"], apart := false, laid := [("unicode/utf8.acceptRanges", laid_unicode_utf8_acceptRanges), ("unicode/utf8.first", laid_unicode_utf8_first)], narrowed := true }
def JsontextParsesUptoSaid : Prop := jsontextParsesUptoRow.holds Tryd.pinned (OpenSpec.upto jsontextParsesSpec)

/-- 'racewaylaw25.JsontextBack', WHERE WHAT IT READS IS OF BULK AT MOST 1048576: true; the input reads as it did. -/
def jsontextBackUptoRow : OpenClaim := { program := "ytadfkeipcebmfaadoor", sum := "bda061267aeda8212c54bdf334431b6024ee13c3124a02931cdc200ff46c2d97", func := "raceway/racewaylaw25.JsontextBack", spec := "jsontextBack", inPlace := ["internal/bytealg.IndexByteString", "internal/abi.NoEscape"], unfollowed := true, recurses := true, named := ["unicode/utf8.first", "unicode/utf8.acceptRanges"], apart := false, laid := [("unicode/utf8.acceptRanges", laid_unicode_utf8_acceptRanges), ("unicode/utf8.first", laid_unicode_utf8_first)], narrowed := true }
def JsontextBackUptoSaid : Prop := jsontextBackUptoRow.holds Tryd.pinned (OpenSpec.upto jsontextBackSpec)

/-- 'racewaylaw25.JsontextBlanks', WHERE WHAT IT READS IS OF BULK AT MOST 1048576: true; the input reads as it did. -/
def jsontextBlanksUptoRow : OpenClaim := { program := "ytadfkeipcebmfaadoor", sum := "bda061267aeda8212c54bdf334431b6024ee13c3124a02931cdc200ff46c2d97", func := "raceway/racewaylaw25.JsontextBlanks", spec := "jsontextBlanks", inPlace := ["internal/bytealg.IndexByteString", "internal/abi.NoEscape"], unfollowed := true, recurses := true, named := ["unicode/utf8.first", "unicode/utf8.acceptRanges"], apart := false, laid := [("unicode/utf8.acceptRanges", laid_unicode_utf8_acceptRanges), ("unicode/utf8.first", laid_unicode_utf8_first)], narrowed := true }
def JsontextBlanksUptoSaid : Prop := jsontextBlanksUptoRow.holds Tryd.pinned (OpenSpec.upto jsontextBlanksSpec)

/-- 'racewaylaw25.JsontextDeep', WHERE WHAT IT READS IS OF BULK AT MOST 1048576: true; the input reads as it did. -/
def jsontextDeepUptoRow : OpenClaim := { program := "ytadfkeipcebmfaadoor", sum := "bda061267aeda8212c54bdf334431b6024ee13c3124a02931cdc200ff46c2d97", func := "raceway/racewaylaw25.JsontextDeep", spec := "jsontextDeep", inPlace := ["internal/bytealg.IndexByteString", "internal/abi.NoEscape"], unfollowed := true, recurses := true, named := ["unicode/utf8.first", "unicode/utf8.acceptRanges"], apart := false, laid := [("unicode/utf8.acceptRanges", laid_unicode_utf8_acceptRanges), ("unicode/utf8.first", laid_unicode_utf8_first)], narrowed := true }
def JsontextDeepUptoSaid : Prop := jsontextDeepUptoRow.holds Tryd.pinned (OpenSpec.upto jsontextDeepSpec)

/-- 'racewaylaw25.JsontextMakes', WHERE WHAT IT READS IS OF BULK AT MOST 1048576: true; the input reads as it did. -/
def jsontextMakesUptoRow : OpenClaim := { program := "ytadfkeipcebmfaadoor", sum := "bda061267aeda8212c54bdf334431b6024ee13c3124a02931cdc200ff46c2d97", func := "raceway/racewaylaw25.JsontextMakes", spec := "jsontextMakes", inPlace := ["internal/bytealg.IndexByteString", "internal/abi.NoEscape"], unfollowed := true, recurses := true, named := ["unicode/utf8.first", "unicode/utf8.acceptRanges"], apart := false, laid := [("unicode/utf8.acceptRanges", laid_unicode_utf8_acceptRanges), ("unicode/utf8.first", laid_unicode_utf8_first)], narrowed := true }
def JsontextMakesUptoSaid : Prop := jsontextMakesUptoRow.holds Tryd.pinned (OpenSpec.upto jsontextMakesSpec)

/-- 'racewaylaw25.JsontextTrees', WHERE WHAT IT READS IS OF BULK AT MOST 1048576: true; the input reads as it did. -/
def jsontextTreesUptoRow : OpenClaim := { program := "ytadfkeipcebmfaadoor", sum := "bda061267aeda8212c54bdf334431b6024ee13c3124a02931cdc200ff46c2d97", func := "raceway/racewaylaw25.JsontextTrees", spec := "jsontextTrees", inPlace := ["internal/bytealg.IndexByteString", "internal/abi.NoEscape"], unfollowed := true, recurses := true, named := ["unicode/utf8.first", "unicode/utf8.acceptRanges"], apart := false, laid := [("unicode/utf8.acceptRanges", laid_unicode_utf8_acceptRanges), ("unicode/utf8.first", laid_unicode_utf8_first)], narrowed := true }
def JsontextTreesUptoSaid : Prop := jsontextTreesUptoRow.holds Tryd.pinned (OpenSpec.upto jsontextTreesSpec)

/-- 'racewaylaw25.JsontextGets', WHERE WHAT IT READS IS OF BULK AT MOST 1048576: true; the input reads as it did. -/
def jsontextGetsUptoRow : OpenClaim := { program := "ytadfkeipcebmfaadoor", sum := "bda061267aeda8212c54bdf334431b6024ee13c3124a02931cdc200ff46c2d97", func := "raceway/racewaylaw25.JsontextGets", spec := "jsontextGets", inPlace := ["internal/bytealg.IndexByteString", "internal/abi.NoEscape"], unfollowed := true, recurses := true, named := ["unicode/utf8.first", "unicode/utf8.acceptRanges"], apart := false, laid := [("unicode/utf8.acceptRanges", laid_unicode_utf8_acceptRanges), ("unicode/utf8.first", laid_unicode_utf8_first)], narrowed := true }
def JsontextGetsUptoSaid : Prop := jsontextGetsUptoRow.holds Tryd.pinned (OpenSpec.upto jsontextGetsSpec)

end Rows
end Go.Proofs.YtadfkeipcebmfaaDoor
