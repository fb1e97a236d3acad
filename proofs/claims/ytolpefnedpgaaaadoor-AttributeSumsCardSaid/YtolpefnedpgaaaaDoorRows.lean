/-
  NARROWER THAN 'FOR EVERY INPUT', by the rows' own cells (each row's printed sentence says how): AttributeNames: laid · AttributeSums: laid · AttributeOrder: laid · AttributeMay: laid · AttributeSelects: laid · AttributeAll: laid · AttributeChecks: laid.
  DERIVED. THE GIVEN ROWS OF THIS SEAT. 7 by the template 'for every input the law returns true; each argument reads behind the call as it read before'; 0 by the template 'total and deterministic' (their statements: YtolpefnedpgaaaaDoorTotals.lean).
  GIVEN WITH THE SEED: the statements are not yours to turn. If you find one false, say at which input.
  Laid BY PROGRAM, IN A SANDBOX (cutbox-rows.mjs): the forced cells as the released guide's own fill.sh prints them over the translation d6bc9f1ceb97a16c… (all of the seat's roots in one cut). By AI agents, Wed Nov 11 2026. No macro, syntax, notation, axiom, sorry.
-/
import Derived.Test.YtolpefnedpgaaaaDoorChecked
import GoSem.PinnedTables
import GoSem.Claim
import GoSem.ClaimJoined
import GoSem.ClaimMapViews
import Derived.JoinedTies
import Derived.KernelRfl
namespace Go.Proofs.YtolpefnedpgaaaaDoor
/- THE CELL 'sum', in the pinned program and in every row, IS THE sha256 OF THE DUMP (.gsa) THAT YtolpefnedpgaaaaDoorProg.lean LOADS. Nothing in Lean hashes anything: it is a label: what it is worth is what the hold of that sum in a sandbox is worth. -/
noncomputable def Tryd.pinned : Pinned := { name := "ytolpefnedpgaaaadoor", sum := "d6bc9f1ceb97a16ce420559158cf73817756cb738c7cfdb8817ad1ff63e68b59", checked := Tryd.checked }
namespace Rows
def none {H : Type} : Left H := { results := [], args := [] }

/- WHAT THE LISTED PACKAGE-LEVEL VARIABLES READ AS WHEN THE CALL BEGINS. Each datum BY PROGRAM (the guide's laid-datum.mjs) off the statement by which the dump's own 'gosem.cut.vars' lays the variable. In a bare row this is a premise. The card (YtolpefnedpgaaaaDoorCards.lean) ties it to the program's text. -/
def laid_unicode_utf8_acceptRanges {H : Type} : DataW H := .agg [.agg [.lit (.int .u8 128), .lit (.int .u8 191)], .agg [.lit (.int .u8 160), .lit (.int .u8 191)], .agg [.lit (.int .u8 128), .lit (.int .u8 159)], .agg [.lit (.int .u8 144), .lit (.int .u8 191)], .agg [.lit (.int .u8 128), .lit (.int .u8 143)], .agg [.lit (.int .u8 0), .lit (.int .u8 0)], .agg [.lit (.int .u8 0), .lit (.int .u8 0)], .agg [.lit (.int .u8 0), .lit (.int .u8 0)], .agg [.lit (.int .u8 0), .lit (.int .u8 0)], .agg [.lit (.int .u8 0), .lit (.int .u8 0)], .agg [.lit (.int .u8 0), .lit (.int .u8 0)], .agg [.lit (.int .u8 0), .lit (.int .u8 0)], .agg [.lit (.int .u8 0), .lit (.int .u8 0)], .agg [.lit (.int .u8 0), .lit (.int .u8 0)], .agg [.lit (.int .u8 0), .lit (.int .u8 0)], .agg [.lit (.int .u8 0), .lit (.int .u8 0)]]
def laid_raceway_fingerprint_sines {H : Type} : DataW H := .agg [.lit (.int .u32 3614090360), .lit (.int .u32 3905402710), .lit (.int .u32 606105819), .lit (.int .u32 3250441966), .lit (.int .u32 4118548399), .lit (.int .u32 1200080426), .lit (.int .u32 2821735955), .lit (.int .u32 4249261313), .lit (.int .u32 1770035416), .lit (.int .u32 2336552879), .lit (.int .u32 4294925233), .lit (.int .u32 2304563134), .lit (.int .u32 1804603682), .lit (.int .u32 4254626195), .lit (.int .u32 2792965006), .lit (.int .u32 1236535329), .lit (.int .u32 4129170786), .lit (.int .u32 3225465664), .lit (.int .u32 643717713), .lit (.int .u32 3921069994), .lit (.int .u32 3593408605), .lit (.int .u32 38016083), .lit (.int .u32 3634488961), .lit (.int .u32 3889429448), .lit (.int .u32 568446438), .lit (.int .u32 3275163606), .lit (.int .u32 4107603335), .lit (.int .u32 1163531501), .lit (.int .u32 2850285829), .lit (.int .u32 4243563512), .lit (.int .u32 1735328473), .lit (.int .u32 2368359562), .lit (.int .u32 4294588738), .lit (.int .u32 2272392833), .lit (.int .u32 1839030562), .lit (.int .u32 4259657740), .lit (.int .u32 2763975236), .lit (.int .u32 1272893353), .lit (.int .u32 4139469664), .lit (.int .u32 3200236656), .lit (.int .u32 681279174), .lit (.int .u32 3936430074), .lit (.int .u32 3572445317), .lit (.int .u32 76029189), .lit (.int .u32 3654602809), .lit (.int .u32 3873151461), .lit (.int .u32 530742520), .lit (.int .u32 3299628645), .lit (.int .u32 4096336452), .lit (.int .u32 1126891415), .lit (.int .u32 2878612391), .lit (.int .u32 4237533241), .lit (.int .u32 1700485571), .lit (.int .u32 2399980690), .lit (.int .u32 4293915773), .lit (.int .u32 2240044497), .lit (.int .u32 1873313359), .lit (.int .u32 4264355552), .lit (.int .u32 2734768916), .lit (.int .u32 1309151649), .lit (.int .u32 4149444226), .lit (.int .u32 3174756917), .lit (.int .u32 718787259), .lit (.int .u32 3951481745)]
def laid_raceway_fingerprint_turns {H : Type} : DataW H := .agg [.agg [.lit (.int .i64 7), .lit (.int .i64 12), .lit (.int .i64 17), .lit (.int .i64 22)], .agg [.lit (.int .i64 5), .lit (.int .i64 9), .lit (.int .i64 14), .lit (.int .i64 20)], .agg [.lit (.int .i64 4), .lit (.int .i64 11), .lit (.int .i64 16), .lit (.int .i64 23)], .agg [.lit (.int .i64 6), .lit (.int .i64 10), .lit (.int .i64 15), .lit (.int .i64 21)]]
/-- One of Go's own tables, pinned by name: the form's constant. -/
def laid_unicode_utf8_first : DataW Unit := Go.Pinned.utf8First

/-- 'racewaylaw24.AttributeNames': WHATEVER THE INPUT: true; the input reads as it did. -/
def attributeNamesSpec : ChangeSpec := { name := "attributeNames", fn := fun _ => fun
  | [d] => { results := [.lit (.bool true)], args := [d] }
  | _ => none }
def attributeNamesRow : OpenClaim := { program := "ytolpefnedpgaaaadoor", sum := "d6bc9f1ceb97a16ce420559158cf73817756cb738c7cfdb8817ad1ff63e68b59", func := "raceway/racewaylaw24.AttributeNames", spec := "attributeNames", inPlace := ["internal/bytealg.IndexByteString", "internal/bytealg.IndexString", "internal/bytealg.CountString", "internal/abi.NoEscape", "internal/bytealg.MakeNoZero", "internal/bytealg.abigen_runtime_cmpstring"], unfollowed := true, recurses := true, named := ["internal/bytealg.MaxLen", "unicode/utf8.first", "unicode/utf8.acceptRanges", "raceway/fingerprint.sines", "raceway/fingerprint.turns"], apart := false, laid := [("unicode/utf8.acceptRanges", laid_unicode_utf8_acceptRanges), ("raceway/fingerprint.sines", laid_raceway_fingerprint_sines), ("raceway/fingerprint.turns", laid_raceway_fingerprint_turns), ("unicode/utf8.first", laid_unicode_utf8_first)] }
def AttributeNamesSaid : Prop := attributeNamesRow.holds Tryd.pinned (OpenSpec.ofChange attributeNamesSpec)

/-- ITS FALSE NEIGHBOUR: 'it returns false'. Refute it at one input. -/
def attributeNamesWrong : ChangeSpec := { name := "attributeNames", fn := fun _ => fun
  | [d] => { results := [.lit (.bool false)], args := [d] }
  | _ => none }
def AttributeNamesWrongFalsely : Prop := attributeNamesRow.holds Tryd.pinned (OpenSpec.ofChange attributeNamesWrong)

/-- 'racewaylaw24.AttributeSums': WHATEVER THE INPUT: true; the input reads as it did. -/
def attributeSumsSpec : ChangeSpec := { name := "attributeSums", fn := fun _ => fun
  | [d] => { results := [.lit (.bool true)], args := [d] }
  | _ => none }
def attributeSumsRow : OpenClaim := { program := "ytolpefnedpgaaaadoor", sum := "d6bc9f1ceb97a16ce420559158cf73817756cb738c7cfdb8817ad1ff63e68b59", func := "raceway/racewaylaw24.AttributeSums", spec := "attributeSums", inPlace := ["internal/bytealg.abigen_runtime_cmpstring", "internal/bytealg.IndexByteString", "internal/bytealg.IndexString", "internal/bytealg.CountString", "internal/abi.NoEscape", "internal/bytealg.MakeNoZero"], unfollowed := true, recurses := true, named := ["raceway/fingerprint.sines", "raceway/fingerprint.turns", "internal/bytealg.MaxLen", "unicode/utf8.first", "unicode/utf8.acceptRanges"], apart := false, laid := [("unicode/utf8.acceptRanges", laid_unicode_utf8_acceptRanges), ("raceway/fingerprint.sines", laid_raceway_fingerprint_sines), ("raceway/fingerprint.turns", laid_raceway_fingerprint_turns), ("unicode/utf8.first", laid_unicode_utf8_first)] }
def AttributeSumsSaid : Prop := attributeSumsRow.holds Tryd.pinned (OpenSpec.ofChange attributeSumsSpec)

/-- ITS FALSE NEIGHBOUR: 'it returns false'. Refute it at one input. -/
def attributeSumsWrong : ChangeSpec := { name := "attributeSums", fn := fun _ => fun
  | [d] => { results := [.lit (.bool false)], args := [d] }
  | _ => none }
def AttributeSumsWrongFalsely : Prop := attributeSumsRow.holds Tryd.pinned (OpenSpec.ofChange attributeSumsWrong)

/-- 'racewaylaw24.AttributeOrder': WHATEVER THE INPUT: true; the input reads as it did. -/
def attributeOrderSpec : ChangeSpec := { name := "attributeOrder", fn := fun _ => fun
  | [d1, d2] => { results := [.lit (.bool true)], args := [d1, d2] }
  | _ => none }
def attributeOrderRow : OpenClaim := { program := "ytolpefnedpgaaaadoor", sum := "d6bc9f1ceb97a16ce420559158cf73817756cb738c7cfdb8817ad1ff63e68b59", func := "raceway/racewaylaw24.AttributeOrder", spec := "attributeOrder", inPlace := ["internal/bytealg.abigen_runtime_cmpstring", "internal/bytealg.IndexByteString", "internal/bytealg.IndexString", "internal/bytealg.CountString", "internal/abi.NoEscape", "internal/bytealg.MakeNoZero"], unfollowed := true, recurses := true, named := ["raceway/fingerprint.sines", "raceway/fingerprint.turns", "internal/bytealg.MaxLen", "unicode/utf8.first", "unicode/utf8.acceptRanges"], apart := false, laid := [("unicode/utf8.acceptRanges", laid_unicode_utf8_acceptRanges), ("raceway/fingerprint.sines", laid_raceway_fingerprint_sines), ("raceway/fingerprint.turns", laid_raceway_fingerprint_turns), ("unicode/utf8.first", laid_unicode_utf8_first)] }
def AttributeOrderSaid : Prop := attributeOrderRow.holds Tryd.pinned (OpenSpec.ofChange attributeOrderSpec)

/-- ITS FALSE NEIGHBOUR: 'it returns false'. Refute it at one input. -/
def attributeOrderWrong : ChangeSpec := { name := "attributeOrder", fn := fun _ => fun
  | [d1, d2] => { results := [.lit (.bool false)], args := [d1, d2] }
  | _ => none }
def AttributeOrderWrongFalsely : Prop := attributeOrderRow.holds Tryd.pinned (OpenSpec.ofChange attributeOrderWrong)

/-- 'racewaylaw24.AttributeMay': WHATEVER THE INPUT: true; the input reads as it did. -/
def attributeMaySpec : ChangeSpec := { name := "attributeMay", fn := fun _ => fun
  | [d1, d2] => { results := [.lit (.bool true)], args := [d1, d2] }
  | _ => none }
def attributeMayRow : OpenClaim := { program := "ytolpefnedpgaaaadoor", sum := "d6bc9f1ceb97a16ce420559158cf73817756cb738c7cfdb8817ad1ff63e68b59", func := "raceway/racewaylaw24.AttributeMay", spec := "attributeMay", inPlace := ["internal/bytealg.IndexByteString", "internal/bytealg.IndexString", "internal/bytealg.CountString", "internal/abi.NoEscape", "internal/bytealg.MakeNoZero", "internal/bytealg.abigen_runtime_cmpstring"], unfollowed := true, recurses := true, named := ["internal/bytealg.MaxLen", "unicode/utf8.first", "unicode/utf8.acceptRanges", "raceway/fingerprint.sines", "raceway/fingerprint.turns"], apart := false, laid := [("unicode/utf8.acceptRanges", laid_unicode_utf8_acceptRanges), ("raceway/fingerprint.sines", laid_raceway_fingerprint_sines), ("raceway/fingerprint.turns", laid_raceway_fingerprint_turns), ("unicode/utf8.first", laid_unicode_utf8_first)] }
def AttributeMaySaid : Prop := attributeMayRow.holds Tryd.pinned (OpenSpec.ofChange attributeMaySpec)

/-- ITS FALSE NEIGHBOUR: 'it returns false'. Refute it at one input. -/
def attributeMayWrong : ChangeSpec := { name := "attributeMay", fn := fun _ => fun
  | [d1, d2] => { results := [.lit (.bool false)], args := [d1, d2] }
  | _ => none }
def AttributeMayWrongFalsely : Prop := attributeMayRow.holds Tryd.pinned (OpenSpec.ofChange attributeMayWrong)

/-- 'racewaylaw24.AttributeSelects': WHATEVER THE INPUT: true; the input reads as it did. -/
def attributeSelectsSpec : ChangeSpec := { name := "attributeSelects", fn := fun _ => fun
  | [d1, d2] => { results := [.lit (.bool true)], args := [d1, d2] }
  | _ => none }
def attributeSelectsRow : OpenClaim := { program := "ytolpefnedpgaaaadoor", sum := "d6bc9f1ceb97a16ce420559158cf73817756cb738c7cfdb8817ad1ff63e68b59", func := "raceway/racewaylaw24.AttributeSelects", spec := "attributeSelects", inPlace := ["internal/bytealg.IndexByteString", "internal/bytealg.IndexString", "internal/bytealg.CountString", "internal/abi.NoEscape", "internal/bytealg.MakeNoZero", "internal/bytealg.abigen_runtime_cmpstring"], unfollowed := true, recurses := true, named := ["internal/bytealg.MaxLen", "unicode/utf8.first", "unicode/utf8.acceptRanges", "raceway/fingerprint.sines", "raceway/fingerprint.turns"], apart := false, laid := [("unicode/utf8.acceptRanges", laid_unicode_utf8_acceptRanges), ("raceway/fingerprint.sines", laid_raceway_fingerprint_sines), ("raceway/fingerprint.turns", laid_raceway_fingerprint_turns), ("unicode/utf8.first", laid_unicode_utf8_first)] }
def AttributeSelectsSaid : Prop := attributeSelectsRow.holds Tryd.pinned (OpenSpec.ofChange attributeSelectsSpec)

/-- ITS FALSE NEIGHBOUR: 'it returns false'. Refute it at one input. -/
def attributeSelectsWrong : ChangeSpec := { name := "attributeSelects", fn := fun _ => fun
  | [d1, d2] => { results := [.lit (.bool false)], args := [d1, d2] }
  | _ => none }
def AttributeSelectsWrongFalsely : Prop := attributeSelectsRow.holds Tryd.pinned (OpenSpec.ofChange attributeSelectsWrong)

/-- 'racewaylaw24.AttributeAll': WHATEVER THE INPUT: true; the input reads as it did. -/
def attributeAllSpec : ChangeSpec := { name := "attributeAll", fn := fun _ => fun
  | [d1, d2] => { results := [.lit (.bool true)], args := [d1, d2] }
  | _ => none }
def attributeAllRow : OpenClaim := { program := "ytolpefnedpgaaaadoor", sum := "d6bc9f1ceb97a16ce420559158cf73817756cb738c7cfdb8817ad1ff63e68b59", func := "raceway/racewaylaw24.AttributeAll", spec := "attributeAll", inPlace := ["internal/bytealg.IndexByteString", "internal/bytealg.IndexString", "internal/bytealg.CountString", "internal/abi.NoEscape", "internal/bytealg.MakeNoZero", "internal/bytealg.abigen_runtime_cmpstring"], unfollowed := true, recurses := true, named := ["internal/bytealg.MaxLen", "unicode/utf8.first", "unicode/utf8.acceptRanges", "raceway/fingerprint.sines", "raceway/fingerprint.turns"], apart := false, laid := [("unicode/utf8.acceptRanges", laid_unicode_utf8_acceptRanges), ("raceway/fingerprint.sines", laid_raceway_fingerprint_sines), ("raceway/fingerprint.turns", laid_raceway_fingerprint_turns), ("unicode/utf8.first", laid_unicode_utf8_first)] }
def AttributeAllSaid : Prop := attributeAllRow.holds Tryd.pinned (OpenSpec.ofChange attributeAllSpec)

/-- ITS FALSE NEIGHBOUR: 'it returns false'. Refute it at one input. -/
def attributeAllWrong : ChangeSpec := { name := "attributeAll", fn := fun _ => fun
  | [d1, d2] => { results := [.lit (.bool false)], args := [d1, d2] }
  | _ => none }
def AttributeAllWrongFalsely : Prop := attributeAllRow.holds Tryd.pinned (OpenSpec.ofChange attributeAllWrong)

/-- 'racewaylaw24.AttributeChecks': WHATEVER THE INPUT: true; the input reads as it did. -/
def attributeChecksSpec : ChangeSpec := { name := "attributeChecks", fn := fun _ => fun
  | [d] => { results := [.lit (.bool true)], args := [d] }
  | _ => none }
def attributeChecksRow : OpenClaim := { program := "ytolpefnedpgaaaadoor", sum := "d6bc9f1ceb97a16ce420559158cf73817756cb738c7cfdb8817ad1ff63e68b59", func := "raceway/racewaylaw24.AttributeChecks", spec := "attributeChecks", inPlace := ["internal/bytealg.IndexByteString", "internal/bytealg.IndexString", "internal/bytealg.CountString", "internal/abi.NoEscape", "internal/bytealg.MakeNoZero", "internal/bytealg.abigen_runtime_cmpstring"], unfollowed := true, recurses := true, named := ["internal/bytealg.MaxLen", "unicode/utf8.first", "unicode/utf8.acceptRanges", "raceway/fingerprint.sines", "raceway/fingerprint.turns"], apart := false, laid := [("unicode/utf8.acceptRanges", laid_unicode_utf8_acceptRanges), ("raceway/fingerprint.sines", laid_raceway_fingerprint_sines), ("raceway/fingerprint.turns", laid_raceway_fingerprint_turns), ("unicode/utf8.first", laid_unicode_utf8_first)] }
def AttributeChecksSaid : Prop := attributeChecksRow.holds Tryd.pinned (OpenSpec.ofChange attributeChecksSpec)

/-- ITS FALSE NEIGHBOUR: 'it returns false'. Refute it at one input. -/
def attributeChecksWrong : ChangeSpec := { name := "attributeChecks", fn := fun _ => fun
  | [d] => { results := [.lit (.bool false)], args := [d] }
  | _ => none }
def AttributeChecksWrongFalsely : Prop := attributeChecksRow.holds Tryd.pinned (OpenSpec.ofChange attributeChecksWrong)

/- THE SECOND FORM. 'bulk': how many values and letters a reading holds, each counted each time it is reached (what is shared counts as often as it is met; a slice's spare places count too). A statement '..UptoSaid' is the law's where the arguments, and the package variables that the reading takes, are together of bulk at most 1048576: NARROWER than '..Said'. Prove '..Said' where nothing that the law and all that it calls make is longer than what came in: it says more and counts as full. Else prove '..UptoSaid'. A law counts once. -/
mutual
def uptoBulk {H : Type} : DataW H → Nat
  | .lit (.string bytes) => bytes.length + 1
  | .lit _ => 1
  | .nil => 1
  | .ptr d => uptoBulk d + 1
  | .slice elems spare => uptoBulkAll elems + uptoBulkAll spare + 1
  | .agg parts => uptoBulkAll parts + 1
  | .iface _ d => uptoBulk d + 1
  | .map entries => uptoBulkEntries entries + 1
  | .held _ => 1
def uptoBulkAll {H : Type} : List (DataW H) → Nat
  | [] => 0
  | d :: r => uptoBulk d + uptoBulkAll r
def uptoBulkEntries {H : Type} : List (Lit × DataW H) → Nat
  | [] => 0
  | x :: r => uptoBulkEntry x + uptoBulkEntries r
def uptoBulkEntry {H : Type} : Lit × DataW H → Nat
  | (.string bytes, d) => bytes.length + uptoBulk d + 1
  | (_, d) => uptoBulk d + 1
 end
def uptoSmall : (H : Type) → List (DataW H) → Bool := fun _ ds => decide (uptoBulkAll ds ≤ 1048576)
def OpenSpec.upto (s : _root_.Go.ChangeSpec) : _root_.Go.OpenSpec := { _root_.Go.OpenSpec.ofChange s with cond := some uptoSmall }

/-- 'racewaylaw24.AttributeNames', WHERE WHAT IT READS IS OF BULK AT MOST 1048576: true; the input reads as it did. -/
def attributeNamesUptoRow : OpenClaim := { program := "ytolpefnedpgaaaadoor", sum := "d6bc9f1ceb97a16ce420559158cf73817756cb738c7cfdb8817ad1ff63e68b59", func := "raceway/racewaylaw24.AttributeNames", spec := "attributeNames", inPlace := ["internal/bytealg.IndexByteString", "internal/bytealg.IndexString", "internal/bytealg.CountString", "internal/abi.NoEscape", "internal/bytealg.MakeNoZero", "internal/bytealg.abigen_runtime_cmpstring"], unfollowed := true, recurses := true, named := ["internal/bytealg.MaxLen", "unicode/utf8.first", "unicode/utf8.acceptRanges", "raceway/fingerprint.sines", "raceway/fingerprint.turns"], apart := false, laid := [("unicode/utf8.acceptRanges", laid_unicode_utf8_acceptRanges), ("raceway/fingerprint.sines", laid_raceway_fingerprint_sines), ("raceway/fingerprint.turns", laid_raceway_fingerprint_turns), ("unicode/utf8.first", laid_unicode_utf8_first)], narrowed := true }
def AttributeNamesUptoSaid : Prop := attributeNamesUptoRow.holds Tryd.pinned (OpenSpec.upto attributeNamesSpec)

/-- 'racewaylaw24.AttributeSums', WHERE WHAT IT READS IS OF BULK AT MOST 1048576: true; the input reads as it did. -/
def attributeSumsUptoRow : OpenClaim := { program := "ytolpefnedpgaaaadoor", sum := "d6bc9f1ceb97a16ce420559158cf73817756cb738c7cfdb8817ad1ff63e68b59", func := "raceway/racewaylaw24.AttributeSums", spec := "attributeSums", inPlace := ["internal/bytealg.abigen_runtime_cmpstring", "internal/bytealg.IndexByteString", "internal/bytealg.IndexString", "internal/bytealg.CountString", "internal/abi.NoEscape", "internal/bytealg.MakeNoZero"], unfollowed := true, recurses := true, named := ["raceway/fingerprint.sines", "raceway/fingerprint.turns", "internal/bytealg.MaxLen", "unicode/utf8.first", "unicode/utf8.acceptRanges"], apart := false, laid := [("unicode/utf8.acceptRanges", laid_unicode_utf8_acceptRanges), ("raceway/fingerprint.sines", laid_raceway_fingerprint_sines), ("raceway/fingerprint.turns", laid_raceway_fingerprint_turns), ("unicode/utf8.first", laid_unicode_utf8_first)], narrowed := true }
def AttributeSumsUptoSaid : Prop := attributeSumsUptoRow.holds Tryd.pinned (OpenSpec.upto attributeSumsSpec)

/-- 'racewaylaw24.AttributeOrder', WHERE WHAT IT READS IS OF BULK AT MOST 1048576: true; the input reads as it did. -/
def attributeOrderUptoRow : OpenClaim := { program := "ytolpefnedpgaaaadoor", sum := "d6bc9f1ceb97a16ce420559158cf73817756cb738c7cfdb8817ad1ff63e68b59", func := "raceway/racewaylaw24.AttributeOrder", spec := "attributeOrder", inPlace := ["internal/bytealg.abigen_runtime_cmpstring", "internal/bytealg.IndexByteString", "internal/bytealg.IndexString", "internal/bytealg.CountString", "internal/abi.NoEscape", "internal/bytealg.MakeNoZero"], unfollowed := true, recurses := true, named := ["raceway/fingerprint.sines", "raceway/fingerprint.turns", "internal/bytealg.MaxLen", "unicode/utf8.first", "unicode/utf8.acceptRanges"], apart := false, laid := [("unicode/utf8.acceptRanges", laid_unicode_utf8_acceptRanges), ("raceway/fingerprint.sines", laid_raceway_fingerprint_sines), ("raceway/fingerprint.turns", laid_raceway_fingerprint_turns), ("unicode/utf8.first", laid_unicode_utf8_first)], narrowed := true }
def AttributeOrderUptoSaid : Prop := attributeOrderUptoRow.holds Tryd.pinned (OpenSpec.upto attributeOrderSpec)

/-- 'racewaylaw24.AttributeMay', WHERE WHAT IT READS IS OF BULK AT MOST 1048576: true; the input reads as it did. -/
def attributeMayUptoRow : OpenClaim := { program := "ytolpefnedpgaaaadoor", sum := "d6bc9f1ceb97a16ce420559158cf73817756cb738c7cfdb8817ad1ff63e68b59", func := "raceway/racewaylaw24.AttributeMay", spec := "attributeMay", inPlace := ["internal/bytealg.IndexByteString", "internal/bytealg.IndexString", "internal/bytealg.CountString", "internal/abi.NoEscape", "internal/bytealg.MakeNoZero", "internal/bytealg.abigen_runtime_cmpstring"], unfollowed := true, recurses := true, named := ["internal/bytealg.MaxLen", "unicode/utf8.first", "unicode/utf8.acceptRanges", "raceway/fingerprint.sines", "raceway/fingerprint.turns"], apart := false, laid := [("unicode/utf8.acceptRanges", laid_unicode_utf8_acceptRanges), ("raceway/fingerprint.sines", laid_raceway_fingerprint_sines), ("raceway/fingerprint.turns", laid_raceway_fingerprint_turns), ("unicode/utf8.first", laid_unicode_utf8_first)], narrowed := true }
def AttributeMayUptoSaid : Prop := attributeMayUptoRow.holds Tryd.pinned (OpenSpec.upto attributeMaySpec)

/-- 'racewaylaw24.AttributeSelects', WHERE WHAT IT READS IS OF BULK AT MOST 1048576: true; the input reads as it did. -/
def attributeSelectsUptoRow : OpenClaim := { program := "ytolpefnedpgaaaadoor", sum := "d6bc9f1ceb97a16ce420559158cf73817756cb738c7cfdb8817ad1ff63e68b59", func := "raceway/racewaylaw24.AttributeSelects", spec := "attributeSelects", inPlace := ["internal/bytealg.IndexByteString", "internal/bytealg.IndexString", "internal/bytealg.CountString", "internal/abi.NoEscape", "internal/bytealg.MakeNoZero", "internal/bytealg.abigen_runtime_cmpstring"], unfollowed := true, recurses := true, named := ["internal/bytealg.MaxLen", "unicode/utf8.first", "unicode/utf8.acceptRanges", "raceway/fingerprint.sines", "raceway/fingerprint.turns"], apart := false, laid := [("unicode/utf8.acceptRanges", laid_unicode_utf8_acceptRanges), ("raceway/fingerprint.sines", laid_raceway_fingerprint_sines), ("raceway/fingerprint.turns", laid_raceway_fingerprint_turns), ("unicode/utf8.first", laid_unicode_utf8_first)], narrowed := true }
def AttributeSelectsUptoSaid : Prop := attributeSelectsUptoRow.holds Tryd.pinned (OpenSpec.upto attributeSelectsSpec)

/-- 'racewaylaw24.AttributeAll', WHERE WHAT IT READS IS OF BULK AT MOST 1048576: true; the input reads as it did. -/
def attributeAllUptoRow : OpenClaim := { program := "ytolpefnedpgaaaadoor", sum := "d6bc9f1ceb97a16ce420559158cf73817756cb738c7cfdb8817ad1ff63e68b59", func := "raceway/racewaylaw24.AttributeAll", spec := "attributeAll", inPlace := ["internal/bytealg.IndexByteString", "internal/bytealg.IndexString", "internal/bytealg.CountString", "internal/abi.NoEscape", "internal/bytealg.MakeNoZero", "internal/bytealg.abigen_runtime_cmpstring"], unfollowed := true, recurses := true, named := ["internal/bytealg.MaxLen", "unicode/utf8.first", "unicode/utf8.acceptRanges", "raceway/fingerprint.sines", "raceway/fingerprint.turns"], apart := false, laid := [("unicode/utf8.acceptRanges", laid_unicode_utf8_acceptRanges), ("raceway/fingerprint.sines", laid_raceway_fingerprint_sines), ("raceway/fingerprint.turns", laid_raceway_fingerprint_turns), ("unicode/utf8.first", laid_unicode_utf8_first)], narrowed := true }
def AttributeAllUptoSaid : Prop := attributeAllUptoRow.holds Tryd.pinned (OpenSpec.upto attributeAllSpec)

/-- 'racewaylaw24.AttributeChecks', WHERE WHAT IT READS IS OF BULK AT MOST 1048576: true; the input reads as it did. -/
def attributeChecksUptoRow : OpenClaim := { program := "ytolpefnedpgaaaadoor", sum := "d6bc9f1ceb97a16ce420559158cf73817756cb738c7cfdb8817ad1ff63e68b59", func := "raceway/racewaylaw24.AttributeChecks", spec := "attributeChecks", inPlace := ["internal/bytealg.IndexByteString", "internal/bytealg.IndexString", "internal/bytealg.CountString", "internal/abi.NoEscape", "internal/bytealg.MakeNoZero", "internal/bytealg.abigen_runtime_cmpstring"], unfollowed := true, recurses := true, named := ["internal/bytealg.MaxLen", "unicode/utf8.first", "unicode/utf8.acceptRanges", "raceway/fingerprint.sines", "raceway/fingerprint.turns"], apart := false, laid := [("unicode/utf8.acceptRanges", laid_unicode_utf8_acceptRanges), ("raceway/fingerprint.sines", laid_raceway_fingerprint_sines), ("raceway/fingerprint.turns", laid_raceway_fingerprint_turns), ("unicode/utf8.first", laid_unicode_utf8_first)], narrowed := true }
def AttributeChecksUptoSaid : Prop := attributeChecksUptoRow.holds Tryd.pinned (OpenSpec.upto attributeChecksSpec)

end Rows
end Go.Proofs.YtolpefnedpgaaaaDoor
