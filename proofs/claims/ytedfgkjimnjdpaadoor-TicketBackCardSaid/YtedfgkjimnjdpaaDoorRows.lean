/-
  NARROWER THAN 'FOR EVERY INPUT', by the rows' own cells (each row's printed sentence says how): TicketOrder: laid · TicketReads: laid · TicketAgain: laid · TicketHandles: laid · TicketBack: laid · TicketIds: laid.
  DERIVED. THE GIVEN ROWS OF THIS SEAT. 6 by the template 'for every input the law returns true; each argument reads behind the call as it read before'; 0 by the template 'total and deterministic' (their statements: YtedfgkjimnjdpaaDoorTotals.lean).
  GIVEN WITH THE SEED: the statements are not yours to turn. If you find one false, say at which input.
  Laid BY PROGRAM, IN A SANDBOX (cutbox-rows.mjs): the forced cells as the released guide's own fill.sh prints them over the translation e660c546abbe671e… (all of the seat's roots in one cut). By AI agents, Wed Nov 11 2026. No macro, syntax, notation, axiom, sorry.
-/
import Derived.Test.YtedfgkjimnjdpaaDoorChecked
import GoSem.PinnedTables
import GoSem.Claim
import GoSem.ClaimJoined
import GoSem.ClaimMapViews
import Derived.JoinedTies
import Derived.KernelRfl
namespace Go.Proofs.YtedfgkjimnjdpaaDoor
/- THE CELL 'sum', in the pinned program and in every row, IS THE sha256 OF THE DUMP (.gsa) THAT YtedfgkjimnjdpaaDoorProg.lean LOADS. Nothing in Lean hashes anything: it is a label: what it is worth is what the hold of that sum in a sandbox is worth. -/
noncomputable def Tryd.pinned : Pinned := { name := "ytedfgkjimnjdpaadoor", sum := "e660c546abbe671e975f1387e5982f203bb36d32af75a69f2f58f444af5382e3", checked := Tryd.checked }
namespace Rows
def none {H : Type} : Left H := { results := [], args := [] }

/- WHAT THE LISTED PACKAGE-LEVEL VARIABLES READ AS WHEN THE CALL BEGINS. Each datum BY PROGRAM (the guide's laid-datum.mjs) off the statement by which the dump's own 'gosem.cut.vars' lays the variable. In a bare row this is a premise. The card (YtedfgkjimnjdpaaDoorCards.lean) ties it to the program's text. -/
def laid_unicode_utf8_acceptRanges {H : Type} : DataW H := .agg [.agg [.lit (.int .u8 128), .lit (.int .u8 191)], .agg [.lit (.int .u8 160), .lit (.int .u8 191)], .agg [.lit (.int .u8 128), .lit (.int .u8 159)], .agg [.lit (.int .u8 144), .lit (.int .u8 191)], .agg [.lit (.int .u8 128), .lit (.int .u8 143)], .agg [.lit (.int .u8 0), .lit (.int .u8 0)], .agg [.lit (.int .u8 0), .lit (.int .u8 0)], .agg [.lit (.int .u8 0), .lit (.int .u8 0)], .agg [.lit (.int .u8 0), .lit (.int .u8 0)], .agg [.lit (.int .u8 0), .lit (.int .u8 0)], .agg [.lit (.int .u8 0), .lit (.int .u8 0)], .agg [.lit (.int .u8 0), .lit (.int .u8 0)], .agg [.lit (.int .u8 0), .lit (.int .u8 0)], .agg [.lit (.int .u8 0), .lit (.int .u8 0)], .agg [.lit (.int .u8 0), .lit (.int .u8 0)], .agg [.lit (.int .u8 0), .lit (.int .u8 0)]]
/-- One of Go's own tables, pinned by name: the form's constant. -/
def laid_unicode_utf8_first : DataW Unit := Go.Pinned.utf8First
def laid_raceway_crc_half {H : Type} : DataW H := .agg [.lit (.int .u32 0), .lit (.int .u32 498536548), .lit (.int .u32 997073096), .lit (.int .u32 651767980), .lit (.int .u32 1994146192), .lit (.int .u32 1802195444), .lit (.int .u32 1303535960), .lit (.int .u32 1342533948), .lit (.int .u32 3988292384), .lit (.int .u32 4027552580), .lit (.int .u32 3604390888), .lit (.int .u32 3412177804), .lit (.int .u32 2607071920), .lit (.int .u32 2262029012), .lit (.int .u32 2685067896), .lit (.int .u32 3183342108)]
def laid_raceway_digest_rounds {H : Type} : DataW H := .agg [.lit (.int .u32 1116352408), .lit (.int .u32 1899447441), .lit (.int .u32 3049323471), .lit (.int .u32 3921009573), .lit (.int .u32 961987163), .lit (.int .u32 1508970993), .lit (.int .u32 2453635748), .lit (.int .u32 2870763221), .lit (.int .u32 3624381080), .lit (.int .u32 310598401), .lit (.int .u32 607225278), .lit (.int .u32 1426881987), .lit (.int .u32 1925078388), .lit (.int .u32 2162078206), .lit (.int .u32 2614888103), .lit (.int .u32 3248222580), .lit (.int .u32 3835390401), .lit (.int .u32 4022224774), .lit (.int .u32 264347078), .lit (.int .u32 604807628), .lit (.int .u32 770255983), .lit (.int .u32 1249150122), .lit (.int .u32 1555081692), .lit (.int .u32 1996064986), .lit (.int .u32 2554220882), .lit (.int .u32 2821834349), .lit (.int .u32 2952996808), .lit (.int .u32 3210313671), .lit (.int .u32 3336571891), .lit (.int .u32 3584528711), .lit (.int .u32 113926993), .lit (.int .u32 338241895), .lit (.int .u32 666307205), .lit (.int .u32 773529912), .lit (.int .u32 1294757372), .lit (.int .u32 1396182291), .lit (.int .u32 1695183700), .lit (.int .u32 1986661051), .lit (.int .u32 2177026350), .lit (.int .u32 2456956037), .lit (.int .u32 2730485921), .lit (.int .u32 2820302411), .lit (.int .u32 3259730800), .lit (.int .u32 3345764771), .lit (.int .u32 3516065817), .lit (.int .u32 3600352804), .lit (.int .u32 4094571909), .lit (.int .u32 275423344), .lit (.int .u32 430227734), .lit (.int .u32 506948616), .lit (.int .u32 659060556), .lit (.int .u32 883997877), .lit (.int .u32 958139571), .lit (.int .u32 1322822218), .lit (.int .u32 1537002063), .lit (.int .u32 1747873779), .lit (.int .u32 1955562222), .lit (.int .u32 2024104815), .lit (.int .u32 2227730452), .lit (.int .u32 2361852424), .lit (.int .u32 2428436474), .lit (.int .u32 2756734187), .lit (.int .u32 3204031479), .lit (.int .u32 3329325298)]

/-- 'racewaylaw27.TicketOrder': WHATEVER THE INPUT: true; the input reads as it did. -/
def ticketOrderSpec : ChangeSpec := { name := "ticketOrder", fn := fun _ => fun
  | [d1, d2] => { results := [.lit (.bool true)], args := [d1, d2] }
  | _ => none }
def ticketOrderRow : OpenClaim := { program := "ytedfgkjimnjdpaadoor", sum := "e660c546abbe671e975f1387e5982f203bb36d32af75a69f2f58f444af5382e3", func := "raceway/racewaylaw27.TicketOrder", spec := "ticketOrder", inPlace := ["internal/abi.NoEscape", "internal/bytealg.MakeNoZero", "internal/bytealg.IndexByteString", "internal/bytealg.IndexString"], named := ["unicode/utf8.first", "unicode/utf8.acceptRanges", "internal/bytealg.MaxLen"], apart := false, laid := [("unicode/utf8.acceptRanges", laid_unicode_utf8_acceptRanges), ("unicode/utf8.first", laid_unicode_utf8_first)] }
def TicketOrderSaid : Prop := ticketOrderRow.holds Tryd.pinned (OpenSpec.ofChange ticketOrderSpec)

/-- ITS FALSE NEIGHBOUR: 'it returns false'. Refute it at one input. -/
def ticketOrderWrong : ChangeSpec := { name := "ticketOrder", fn := fun _ => fun
  | [d1, d2] => { results := [.lit (.bool false)], args := [d1, d2] }
  | _ => none }
def TicketOrderWrongFalsely : Prop := ticketOrderRow.holds Tryd.pinned (OpenSpec.ofChange ticketOrderWrong)

/-- 'racewaylaw27.TicketReads': WHATEVER THE INPUT: true; the input reads as it did. -/
def ticketReadsSpec : ChangeSpec := { name := "ticketReads", fn := fun _ => fun
  | [d] => { results := [.lit (.bool true)], args := [d] }
  | _ => none }
def ticketReadsRow : OpenClaim := { program := "ytedfgkjimnjdpaadoor", sum := "e660c546abbe671e975f1387e5982f203bb36d32af75a69f2f58f444af5382e3", func := "raceway/racewaylaw27.TicketReads", spec := "ticketReads", inPlace := ["internal/bytealg.CountString", "internal/bytealg.IndexByteString", "internal/bytealg.IndexString", "internal/abi.NoEscape", "internal/bytealg.MakeNoZero"], named := ["unicode/utf8.first", "unicode/utf8.acceptRanges", "internal/bytealg.MaxLen"], apart := false, laid := [("unicode/utf8.acceptRanges", laid_unicode_utf8_acceptRanges), ("unicode/utf8.first", laid_unicode_utf8_first)] }
def TicketReadsSaid : Prop := ticketReadsRow.holds Tryd.pinned (OpenSpec.ofChange ticketReadsSpec)

/-- ITS FALSE NEIGHBOUR: 'it returns false'. Refute it at one input. -/
def ticketReadsWrong : ChangeSpec := { name := "ticketReads", fn := fun _ => fun
  | [d] => { results := [.lit (.bool false)], args := [d] }
  | _ => none }
def TicketReadsWrongFalsely : Prop := ticketReadsRow.holds Tryd.pinned (OpenSpec.ofChange ticketReadsWrong)

/-- 'racewaylaw27.TicketAgain': WHATEVER THE INPUT: true; the input reads as it did. -/
def ticketAgainSpec : ChangeSpec := { name := "ticketAgain", fn := fun _ => fun
  | [d1, d2, d3] => { results := [.lit (.bool true)], args := [d1, d2, d3] }
  | _ => none }
def ticketAgainRow : OpenClaim := { program := "ytedfgkjimnjdpaadoor", sum := "e660c546abbe671e975f1387e5982f203bb36d32af75a69f2f58f444af5382e3", func := "raceway/racewaylaw27.TicketAgain", spec := "ticketAgain", inPlace := ["internal/abi.NoEscape", "internal/bytealg.MakeNoZero", "internal/bytealg.IndexByteString", "internal/bytealg.CountString", "internal/bytealg.IndexString"], named := ["unicode/utf8.first", "unicode/utf8.acceptRanges", "internal/bytealg.MaxLen"], apart := false, laid := [("unicode/utf8.acceptRanges", laid_unicode_utf8_acceptRanges), ("unicode/utf8.first", laid_unicode_utf8_first)] }
def TicketAgainSaid : Prop := ticketAgainRow.holds Tryd.pinned (OpenSpec.ofChange ticketAgainSpec)

/-- ITS FALSE NEIGHBOUR: 'it returns false'. Refute it at one input. -/
def ticketAgainWrong : ChangeSpec := { name := "ticketAgain", fn := fun _ => fun
  | [d1, d2, d3] => { results := [.lit (.bool false)], args := [d1, d2, d3] }
  | _ => none }
def TicketAgainWrongFalsely : Prop := ticketAgainRow.holds Tryd.pinned (OpenSpec.ofChange ticketAgainWrong)

/-- 'racewaylaw27.TicketHandles': WHATEVER THE INPUT: true; the input reads as it did. -/
def ticketHandlesSpec : ChangeSpec := { name := "ticketHandles", fn := fun _ => fun
  | [d1, d2] => { results := [.lit (.bool true)], args := [d1, d2] }
  | _ => none }
def ticketHandlesRow : OpenClaim := { program := "ytedfgkjimnjdpaadoor", sum := "e660c546abbe671e975f1387e5982f203bb36d32af75a69f2f58f444af5382e3", func := "raceway/racewaylaw27.TicketHandles", spec := "ticketHandles", inPlace := ["internal/abi.NoEscape", "internal/bytealg.MakeNoZero", "internal/bytealg.IndexByteString"], unfollowed := true, recurses := true, named := ["raceway/crc.half"], apart := false, laid := [("raceway/crc.half", laid_raceway_crc_half)] }
def TicketHandlesSaid : Prop := ticketHandlesRow.holds Tryd.pinned (OpenSpec.ofChange ticketHandlesSpec)

/-- ITS FALSE NEIGHBOUR: 'it returns false'. Refute it at one input. -/
def ticketHandlesWrong : ChangeSpec := { name := "ticketHandles", fn := fun _ => fun
  | [d1, d2] => { results := [.lit (.bool false)], args := [d1, d2] }
  | _ => none }
def TicketHandlesWrongFalsely : Prop := ticketHandlesRow.holds Tryd.pinned (OpenSpec.ofChange ticketHandlesWrong)

/-- 'racewaylaw27.TicketBack': WHATEVER THE INPUT: true; the input reads as it did. -/
def ticketBackSpec : ChangeSpec := { name := "ticketBack", fn := fun _ => fun
  | [d1, d2, d3] => { results := [.lit (.bool true)], args := [d1, d2, d3] }
  | _ => none }
def ticketBackRow : OpenClaim := { program := "ytedfgkjimnjdpaadoor", sum := "e660c546abbe671e975f1387e5982f203bb36d32af75a69f2f58f444af5382e3", func := "raceway/racewaylaw27.TicketBack", spec := "ticketBack", inPlace := ["internal/abi.NoEscape", "internal/bytealg.MakeNoZero", "internal/bytealg.IndexByteString"], unfollowed := true, recurses := true, named := ["raceway/crc.half"], apart := false, laid := [("raceway/crc.half", laid_raceway_crc_half)] }
def TicketBackSaid : Prop := ticketBackRow.holds Tryd.pinned (OpenSpec.ofChange ticketBackSpec)

/-- ITS FALSE NEIGHBOUR: 'it returns false'. Refute it at one input. -/
def ticketBackWrong : ChangeSpec := { name := "ticketBack", fn := fun _ => fun
  | [d1, d2, d3] => { results := [.lit (.bool false)], args := [d1, d2, d3] }
  | _ => none }
def TicketBackWrongFalsely : Prop := ticketBackRow.holds Tryd.pinned (OpenSpec.ofChange ticketBackWrong)

/-- 'racewaylaw27.TicketIds': WHATEVER THE INPUT: true; the input reads as it did. -/
def ticketIdsSpec : ChangeSpec := { name := "ticketIds", fn := fun _ => fun
  | [d1, d2, d3] => { results := [.lit (.bool true)], args := [d1, d2, d3] }
  | _ => none }
def ticketIdsRow : OpenClaim := { program := "ytedfgkjimnjdpaadoor", sum := "e660c546abbe671e975f1387e5982f203bb36d32af75a69f2f58f444af5382e3", func := "raceway/racewaylaw27.TicketIds", spec := "ticketIds", inPlace := ["internal/bytealg.IndexByteString", "internal/bytealg.IndexString", "internal/abi.NoEscape", "internal/bytealg.MakeNoZero"], named := ["unicode/utf8.first", "unicode/utf8.acceptRanges", "raceway/digest.rounds", "internal/bytealg.MaxLen"], apart := false, laid := [("raceway/digest.rounds", laid_raceway_digest_rounds), ("unicode/utf8.acceptRanges", laid_unicode_utf8_acceptRanges), ("unicode/utf8.first", laid_unicode_utf8_first)] }
def TicketIdsSaid : Prop := ticketIdsRow.holds Tryd.pinned (OpenSpec.ofChange ticketIdsSpec)

/-- ITS FALSE NEIGHBOUR: 'it returns false'. Refute it at one input. -/
def ticketIdsWrong : ChangeSpec := { name := "ticketIds", fn := fun _ => fun
  | [d1, d2, d3] => { results := [.lit (.bool false)], args := [d1, d2, d3] }
  | _ => none }
def TicketIdsWrongFalsely : Prop := ticketIdsRow.holds Tryd.pinned (OpenSpec.ofChange ticketIdsWrong)

/- THE SECOND FORM. 'bulk': how many values and letters a reading holds, each counted each time it is reached (what is shared counts as often as it is met; a slice's spare places count too). A statement '..UptoSaid' is the law's where the arguments, and the package variables that the reading takes, are together of bulk at most 1048576: NARROWER than '..Said'. Prove '..Said' where nothing that the law and all that it calls make is longer than what came in: it says more and counts as full. Else prove '..UptoSaid'. A law counts once. -/
mutual
def uptoBulk {H : Type} : DataW H → Nat
  | .lit (.string bytes) => bytes.length + 1
  | .lit _ => 1
  | .nil => 1
  | .ptr d => uptoBulk d + 1
  | .slice elems spare => uptoBulkAll elems + uptoBulkAll spare + 1
  | .agg parts => uptoBulkAll parts + 1
  | .iface _ d => uptoBulk d + 1
  | .map entries => uptoBulkEntries entries + 1
  | .held _ => 1
def uptoBulkAll {H : Type} : List (DataW H) → Nat
  | [] => 0
  | d :: r => uptoBulk d + uptoBulkAll r
def uptoBulkEntries {H : Type} : List (Lit × DataW H) → Nat
  | [] => 0
  | x :: r => uptoBulkEntry x + uptoBulkEntries r
def uptoBulkEntry {H : Type} : Lit × DataW H → Nat
  | (.string bytes, d) => bytes.length + uptoBulk d + 1
  | (_, d) => uptoBulk d + 1
 end
def uptoSmall : (H : Type) → List (DataW H) → Bool := fun _ ds => decide (uptoBulkAll ds ≤ 1048576)
def OpenSpec.upto (s : _root_.Go.ChangeSpec) : _root_.Go.OpenSpec := { _root_.Go.OpenSpec.ofChange s with cond := some uptoSmall }

/-- 'racewaylaw27.TicketOrder', WHERE WHAT IT READS IS OF BULK AT MOST 1048576: true; the input reads as it did. -/
def ticketOrderUptoRow : OpenClaim := { program := "ytedfgkjimnjdpaadoor", sum := "e660c546abbe671e975f1387e5982f203bb36d32af75a69f2f58f444af5382e3", func := "raceway/racewaylaw27.TicketOrder", spec := "ticketOrder", inPlace := ["internal/abi.NoEscape", "internal/bytealg.MakeNoZero", "internal/bytealg.IndexByteString", "internal/bytealg.IndexString"], named := ["unicode/utf8.first", "unicode/utf8.acceptRanges", "internal/bytealg.MaxLen"], apart := false, laid := [("unicode/utf8.acceptRanges", laid_unicode_utf8_acceptRanges), ("unicode/utf8.first", laid_unicode_utf8_first)], narrowed := true }
def TicketOrderUptoSaid : Prop := ticketOrderUptoRow.holds Tryd.pinned (OpenSpec.upto ticketOrderSpec)

/-- 'racewaylaw27.TicketReads', WHERE WHAT IT READS IS OF BULK AT MOST 1048576: true; the input reads as it did. -/
def ticketReadsUptoRow : OpenClaim := { program := "ytedfgkjimnjdpaadoor", sum := "e660c546abbe671e975f1387e5982f203bb36d32af75a69f2f58f444af5382e3", func := "raceway/racewaylaw27.TicketReads", spec := "ticketReads", inPlace := ["internal/bytealg.CountString", "internal/bytealg.IndexByteString", "internal/bytealg.IndexString", "internal/abi.NoEscape", "internal/bytealg.MakeNoZero"], named := ["unicode/utf8.first", "unicode/utf8.acceptRanges", "internal/bytealg.MaxLen"], apart := false, laid := [("unicode/utf8.acceptRanges", laid_unicode_utf8_acceptRanges), ("unicode/utf8.first", laid_unicode_utf8_first)], narrowed := true }
def TicketReadsUptoSaid : Prop := ticketReadsUptoRow.holds Tryd.pinned (OpenSpec.upto ticketReadsSpec)

/-- 'racewaylaw27.TicketAgain', WHERE WHAT IT READS IS OF BULK AT MOST 1048576: true; the input reads as it did. -/
def ticketAgainUptoRow : OpenClaim := { program := "ytedfgkjimnjdpaadoor", sum := "e660c546abbe671e975f1387e5982f203bb36d32af75a69f2f58f444af5382e3", func := "raceway/racewaylaw27.TicketAgain", spec := "ticketAgain", inPlace := ["internal/abi.NoEscape", "internal/bytealg.MakeNoZero", "internal/bytealg.IndexByteString", "internal/bytealg.CountString", "internal/bytealg.IndexString"], named := ["unicode/utf8.first", "unicode/utf8.acceptRanges", "internal/bytealg.MaxLen"], apart := false, laid := [("unicode/utf8.acceptRanges", laid_unicode_utf8_acceptRanges), ("unicode/utf8.first", laid_unicode_utf8_first)], narrowed := true }
def TicketAgainUptoSaid : Prop := ticketAgainUptoRow.holds Tryd.pinned (OpenSpec.upto ticketAgainSpec)

/-- 'racewaylaw27.TicketHandles', WHERE WHAT IT READS IS OF BULK AT MOST 1048576: true; the input reads as it did. -/
def ticketHandlesUptoRow : OpenClaim := { program := "ytedfgkjimnjdpaadoor", sum := "e660c546abbe671e975f1387e5982f203bb36d32af75a69f2f58f444af5382e3", func := "raceway/racewaylaw27.TicketHandles", spec := "ticketHandles", inPlace := ["internal/abi.NoEscape", "internal/bytealg.MakeNoZero", "internal/bytealg.IndexByteString"], unfollowed := true, recurses := true, named := ["raceway/crc.half"], apart := false, laid := [("raceway/crc.half", laid_raceway_crc_half)], narrowed := true }
def TicketHandlesUptoSaid : Prop := ticketHandlesUptoRow.holds Tryd.pinned (OpenSpec.upto ticketHandlesSpec)

/-- 'racewaylaw27.TicketBack', WHERE WHAT IT READS IS OF BULK AT MOST 1048576: true; the input reads as it did. -/
def ticketBackUptoRow : OpenClaim := { program := "ytedfgkjimnjdpaadoor", sum := "e660c546abbe671e975f1387e5982f203bb36d32af75a69f2f58f444af5382e3", func := "raceway/racewaylaw27.TicketBack", spec := "ticketBack", inPlace := ["internal/abi.NoEscape", "internal/bytealg.MakeNoZero", "internal/bytealg.IndexByteString"], unfollowed := true, recurses := true, named := ["raceway/crc.half"], apart := false, laid := [("raceway/crc.half", laid_raceway_crc_half)], narrowed := true }
def TicketBackUptoSaid : Prop := ticketBackUptoRow.holds Tryd.pinned (OpenSpec.upto ticketBackSpec)

/-- 'racewaylaw27.TicketIds', WHERE WHAT IT READS IS OF BULK AT MOST 1048576: true; the input reads as it did. -/
def ticketIdsUptoRow : OpenClaim := { program := "ytedfgkjimnjdpaadoor", sum := "e660c546abbe671e975f1387e5982f203bb36d32af75a69f2f58f444af5382e3", func := "raceway/racewaylaw27.TicketIds", spec := "ticketIds", inPlace := ["internal/bytealg.IndexByteString", "internal/bytealg.IndexString", "internal/abi.NoEscape", "internal/bytealg.MakeNoZero"], named := ["unicode/utf8.first", "unicode/utf8.acceptRanges", "raceway/digest.rounds", "internal/bytealg.MaxLen"], apart := false, laid := [("raceway/digest.rounds", laid_raceway_digest_rounds), ("unicode/utf8.acceptRanges", laid_unicode_utf8_acceptRanges), ("unicode/utf8.first", laid_unicode_utf8_first)], narrowed := true }
def TicketIdsUptoSaid : Prop := ticketIdsUptoRow.holds Tryd.pinned (OpenSpec.upto ticketIdsSpec)

end Rows
end Go.Proofs.YtedfgkjimnjdpaaDoor
